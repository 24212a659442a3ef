/- StationIsolates: the plain law. No program here. -/
import Derived.Test.YtphiiflcpeploaaBusbars
namespace Go.Proofs.Ytphiiflcpeploaa

/-! ### the switches of some names are opened -/
def openSw (t : List ByteArray) (s : SwitchD) : SwitchD := if Lib.containsS t s.name = true then setOpn true s else s
def openN (n : NetD) (t : List ByteArray) : NetD := ⟨n.nodes, n.switches.map (openSw t), n.branches, n.gens, n.loads, n.stores⟩
theorem openSw_name (t : List ByteArray) (s : SwitchD) : (openSw t s).name = s.name ∧ (openSw t s).a = s.a ∧ (openSw t s).b = s.b := by
  unfold openSw
  split <;> exact ⟨rfl, rfl, rfl⟩
theorem openN_items (n : NetD) (t : List ByteArray) : (openN n t).items = n.items := by
  simp only [NetD.items, openN, List.map_map]
  congr 2
  apply List.map_congr_left
  intro s _
  have := openSw_name t s
  simp only [Function.comp]
  rw [this.1, this.2.1, this.2.2]
theorem openN_check (n : NetD) (t : List ByteArray) : checkN (openN n t) = checkN n := by
  rw [checkN, checkN, openN_items]
  simp [openN]
theorem openN_nil (n : NetD) : openN n [] = n := by
  have : n.switches.map (openSw []) = n.switches := by
    apply List.ext_getElem
    · simp
    · intro i h1 h2
      simp [openSw, Lib.containsS, Lib.idxOfS, Lib.idxFromS]
  cases n
  simp only [openN] at this ⊢
  rw [this]
/-- names are unlike -/
theorem sw_names {n : NetD} (h : VNet n) : (n.switches.map (·.name)).Nodup ∧ ∀ s ∈ n.switches, s.name ∉ n.nodes := by
  have hn := h.nodup
  simp only [NetD.items, List.map_append, List.map_map] at hn
  rw [List.nodup_append] at hn
  obtain ⟨_, h2, h3⟩ := hn
  rw [List.nodup_append] at h2
  refine ⟨?_, fun s hs hm => ?_⟩
  · have := h2.1
    exact this
  · exact h3 s.name (List.mem_map.2 ⟨s.name, hm, rfl⟩) s.name (List.mem_append_left _ (List.mem_map.2 ⟨s, hs, rfl⟩)) rfl
theorem nmIdx_at {l : List SwitchD} (hn : (l.map (·.name)).Nodup) : ∀ (i j : Nat) (hi : i < l.length), nmIdx SwitchD.name l[i].name l j = ((j + i : Nat) : Int) := by
  induction l with
  | nil => intro i j hi; simp at hi
  | cons x l ih =>
    intro i j hi
    rw [nmIdx]
    cases i with
    | zero => simp
    | succ i =>
      rw [List.map_cons, List.nodup_cons] at hn
      have hil : i < l.length := by simpa using hi
      have hne : x.name ≠ l[i].name := fun e => hn.1 (by rw [e]; exact List.mem_map.2 ⟨l[i], List.getElem_mem _, rfl⟩)
      simp only [List.getElem_cons_succ]
      rw [if_neg hne, ih hn.2 i (j + 1) (by simpa using hi)]
      congr 1
      omega
theorem idx_none {zs : List ByteArray} {x : ByteArray} (h : x ∉ zs) : Lib.idxOfS zs x < 0 := by
  have h1 := mt (Lib.containsS_iff zs x).1 h
  rw [Lib.containsS, decide_eq_true_eq] at h1
  omega
theorem set_switch {n : NetD} (hc : checkN n = 0) (o : Bool) {i : Nat} (hi : i < n.switches.length) : SetL n n.switches[i].name o = (setSw n i o, 0) := by
  have hv := vnet hc
  obtain ⟨h1, h2⟩ := sw_names hv
  have hix := nmIdx_at h1 i 0 hi
  have hno := idx_none (h2 _ (List.getElem_mem hi))
  have hf : findL n n.switches[i].name = (swB, (i : Int)) := by
    rw [findL, findE, if_neg (by omega), hix, if_pos (by omega)]
    simp [swB]
  have hF : FindL n n.switches[i].name = (swB, (i : Int), 0) := by
    rw [FindL, if_pos hc, hf, if_neg (by simp)]
  rw [SetL, hF]
  simp
theorem openN_len (n : NetD) (t : List ByteArray) : (openN n t).switches.length = n.switches.length := by simp [openN]
theorem openN_at {n : NetD} {t : List ByteArray} {i : Nat} (hi : i < n.switches.length) : (openN n t).switches[i]'(by rw [openN_len]; exact hi) = openSw t n.switches[i] := by simp [openN]
theorem contains_snoc (t : List ByteArray) (x y : ByteArray) : Lib.containsS (t ++ [x]) y = (Lib.containsS t y || decide (y = x)) := by
  rw [Bool.eq_iff_iff, Lib.containsS_iff, Bool.or_eq_true, Lib.containsS_iff, decide_eq_true_eq, List.mem_append, List.mem_singleton]
theorem openN_step {n : NetD} (hc : checkN n = 0) (t : List ByteArray) {i : Nat} (hi : i < n.switches.length) : SetL (openN n t) n.switches[i].name true = (openN n (t ++ [n.switches[i].name]), 0) := by
  have hc' : checkN (openN n t) = 0 := by rw [openN_check]; exact hc
  have hi' : i < (openN n t).switches.length := by rw [openN_len]; exact hi
  have h1 := set_switch hc' true hi'
  rw [openN_at hi, (openSw_name _ _).1] at h1
  rw [h1]
  congr 1
  have hn := (sw_names (vnet hc)).1
  have : (openN n t).switches.modify i (setOpn true) = n.switches.map (openSw (t ++ [n.switches[i].name])) := by
    apply List.ext_getElem
    · simp [openN]
    · intro j h1 h2
      have hj : j < n.switches.length := by simpa [openN] using h1
      rw [List.getElem_modify]
      simp only [List.getElem_map, openN]
      by_cases hij : i = j
      · subst hij
        rw [if_pos rfl]
        unfold openSw
        rw [contains_snoc]
        simp only [decide_true, Bool.or_true, if_true]
        split <;> rfl
      · rw [if_neg hij]
        unfold openSw
        rw [contains_snoc]
        have hne : n.switches[j].name ≠ n.switches[i].name := by
          intro e
          have := (List.getElem_inj (xs := n.switches.map (·.name)) (h₀ := by simpa using hj) (h₁ := by simpa using hi) hn).1 (by simpa using e)
          omega
        simp [hne]
  simp only [setSw, openN] at this ⊢
  rw [this]

/-! ### what Busbars returns -/
def barAt (bus : List Int) (nodes : List ByteArray) (k : Nat) (c : Int) : List ByteArray := ((List.range k).filter fun i => decide (bus.getD i 0 = c)).map fun i => nodes.getD i ⟨#[]⟩
theorem barAt_succ (bus : List Int) (nodes : List ByteArray) (k : Nat) (c : Int) : barAt bus nodes (k + 1) c = if bus.getD k 0 = c then barAt bus nodes k c ++ [nodes.getD k ⟨#[]⟩] else barAt bus nodes k c := by
  unfold barAt
  rw [List.range_succ, List.filter_append, List.map_append]
  by_cases h : bus.getD k 0 = c
  · rw [if_pos h, List.filter_cons, if_pos (decide_eq_true h)]; rfl
  · rw [if_neg h, List.filter_cons, if_neg (by rw [decide_eq_true_eq]; exact h)]; simp
theorem barAt_new {bus : List Int} {nodes : List ByteArray} {k : Nat} {c : Int} (hk : k ≤ bus.length) (h : manyL (bus.take k) ≤ c) : barAt bus nodes k c = [] := by
  unfold barAt
  have : (List.range k).filter (fun i => decide (bus.getD i 0 = c)) = [] := by
    rw [List.filter_eq_nil_iff]
    intro i hi
    have hik := List.mem_range.1 hi
    have hm : bus.getD i 0 ∈ bus.take k := by
      have hl : i < (bus.take k).length := by rw [List.length_take]; omega
      have : (bus.take k)[i] = bus.getD i 0 := by rw [List.getElem_take, List.getD_eq_getElem?_getD, List.getElem?_eq_getElem (by omega)]; rfl
      rw [← this]; exact List.getElem_mem hl
    have := many_ge hm
    simp only [decide_eq_true_eq]
    omega
  rw [this]; rfl
theorem bars_at {bus : List Int} {nodes : List ByteArray} (h : ∀ k, k < bus.length → 0 ≤ at_ bus k ∧ at_ bus k ≤ manyL (bus.take k)) : ∀ k, k ≤ bus.length → ∀ c : Nat, (c : Int) < manyL (bus.take k) → (barsFrom bus nodes k)[c]? = some (barAt bus nodes k c)
  | 0, _, c, hc => by simp [manyL] at hc; omega
  | k + 1, hk, c, hc => by
    have ih := bars_at (nodes := nodes) h k (by omega)
    have hlen := bars_len (nodes := nodes) h k (by omega)
    have hb := h k (by omega)
    have he : at_ bus k = bus.getD k 0 := by simp [at_]
    rw [he] at hb
    have hg : bus[k]'(by omega) = bus.getD k 0 := by rw [List.getD_eq_getElem?_getD, List.getElem?_eq_getElem (by omega)]; rfl
    rw [List.take_succ_eq_append_getElem (by omega), many_snoc, hg] at hc
    rw [barsFrom, barStep, barAt_succ]
    generalize nodes.getD k ⟨#[]⟩ = s
    generalize hy : bus.getD k 0 = y at *
    obtain ⟨b, rfl⟩ := Int.eq_ofNat_of_zero_le hb.1
    rw [Int.toNat_natCast, List.getElem?_modify]
    have hold : (c : Int) < manyL (bus.take k) → ((if (b : Int) = (barsFrom bus nodes k).length then barsFrom bus nodes k ++ [[]] else barsFrom bus nodes k)[c]?) = some (barAt bus nodes k c) := by
      intro hck
      have hcl : c < (barsFrom bus nodes k).length := by omega
      split
      · rw [List.getElem?_append_left hcl]; exact ih c hck
      · exact ih c hck
    by_cases hcb : (b : Int) = c
    · have hcb' : b = c := by omega
      subst hcb'
      rw [if_pos rfl]
      by_cases hck : (b : Int) < manyL (bus.take k)
      · rw [hold hck]; simp
      · have hbe : (b : Int) = (barsFrom bus nodes k).length := by omega
        have h0 : b - (barsFrom bus nodes k).length = 0 := by omega
        rw [if_pos hbe, List.getElem?_append_right (by omega), barAt_new (by omega) (by omega), h0]
        simp
    · have hne : b ≠ c := fun e => hcb (by rw [e])
      rw [if_neg hcb, hold (by omega)]
      simp [hne]

theorem idxFrom_get (x : ByteArray) : ∀ (zs : List ByteArray) (i : Nat), (i : Int) ≤ Lib.idxFromS zs x i → zs[(Lib.idxFromS zs x i).toNat - i]? = some x
  | [], i, h => by simp [Lib.idxFromS] at h; omega
  | z :: zs, i, h => by
    rw [Lib.idxFromS] at h ⊢
    by_cases hz : z = x
    · rw [if_pos hz]; simp [hz]
    · rw [if_neg hz] at h ⊢
      have h1 : ((i + 1 : Nat) : Int) ≤ Lib.idxFromS zs x (i + 1) := by
        rcases idxFromS_ge x zs (i + 1) with h2 | h2
        · omega
        · omega
      have ih := idxFrom_get x zs (i + 1) h1
      have e : (Lib.idxFromS zs x (i + 1)).toNat - i = ((Lib.idxFromS zs x (i + 1)).toNat - (i + 1)) + 1 := by omega
      rw [e]
      simpa using ih
theorem idx_get {zs : List ByteArray} {x : ByteArray} (h : x ∈ zs) : zs[(Lib.idxOfS zs x).toNat]? = some x := by
  have h1 := (idx_mem h).1
  have := idxFrom_get x zs 0 (by simpa [Lib.idxOfS] using h1)
  simpa [Lib.idxOfS] using this
theorem idx_inj {zs : List ByteArray} {x y : ByteArray} (hx : x ∈ zs) (hy : y ∈ zs) (h : Lib.idxOfS zs x = Lib.idxOfS zs y) : x = y := by
  have h1 := idx_get hx
  have h2 := idx_get hy
  rw [h] at h1
  rw [h1] at h2
  injection h2
/-- a node without closed switches is a bus of its own -/
theorem alone {n : NetD} (h : VNet n) {x : ByteArray} (hx : x ∈ n.nodes) (hno : ∀ s ∈ n.switches, s.opn = false → s.a ≠ x ∧ s.b ≠ x) {v : Int} (hv : 0 ≤ v ∧ v < n.nodes.length) (he : at_ (busesL n) (Lib.idxOfS n.nodes x) = at_ (busesL n) v) : v = Lib.idxOfS n.nodes x := by
  have hi := idx_mem hx
  rw [buses_eq h, parts_conn (edges_valid h false) hi hv] at he
  refine he.keep (fun a => a = Lib.idxOfS n.nodes x) ?_ rfl
  intro a k ha hk hinc
  exfalso
  subst ha
  obtain ⟨k0, k1, _⟩ := hk
  have hkl : k.toNat < ((edgesL n false).map (·.1)).length := by omega
  have hed : edgeAt ((edgesL n false).map (·.1)) k = ((edgesL n false).map (·.1))[k.toNat] := by
    rw [edgeAt, List.getD_eq_getElem?_getD, List.getElem?_eq_getElem hkl]; rfl
  rw [List.getElem_map] at hed
  have hmem : (edgesL n false)[k.toNat]'(by simpa using hkl) ∈ edgesL n false := List.getElem_mem _
  obtain ⟨j, hj, ho, hej⟩ := edgesFrom_mem hmem
  rw [hej] at hed
  have hs := h.sw _ (List.getElem_mem hj)
  have hn := hno _ (List.getElem_mem hj) ho
  rcases inc_iff.1 hinc with h1 | h1
  · rw [hed] at h1
    exact hn.1 (idx_inj hs.1 hx h1)
  · rw [hed] at h1
    exact hn.2 (idx_inj hs.2.1 hx h1)
theorem filter_one {p : Nat → Bool} {k i : Nat} (hi : i < k) (hp : p i = true) (hu : ∀ j, j < k → p j = true → j = i) : (List.range k).filter p = [i] := by
  induction k with
  | zero => omega
  | succ k ih =>
    rw [List.range_succ, List.filter_append]
    by_cases hik : i = k
    · subst hik
      have : (List.range i).filter p = [] := by
        rw [List.filter_eq_nil_iff]
        intro j hj hpj
        have := hu j (by have := List.mem_range.1 hj; omega) hpj
        have := List.mem_range.1 hj
        omega
      rw [this]; simp [hp]
    · have hk : p k = false := by
        rw [Bool.eq_false_iff]
        intro h
        exact hik (hu k (by omega) h).symm
      rw [ih (by omega) (fun j hj => hu j (by omega))]
      simp [hk]
theorem iso_mem {x : ByteArray} : ∀ {l : List SwitchD} {s : SwitchD}, s ∈ l → touches x s = true → s.name ∈ isoFrom x l
  | [], s, h, _ => by simp at h
  | y :: l, s, h, ht => by
    rw [isoFrom]
    rcases List.mem_cons.1 h with rfl | h
    · rw [if_pos ht]; exact List.mem_cons_self
    · have := iso_mem h ht
      split
      · exact List.mem_cons_of_mem _ this
      · exact this
/-- the plain law: the node is alone -/
theorem iso_law {n : NetD} (hc : checkN n = 0) {x : ByteArray} (hx : x ∈ n.nodes) : [x] ∈ (busbarsE (openN n (isoFrom x n.switches))).1 ∧ (busbarsE (openN n (isoFrom x n.switches))).2 = 0 := by
  have hc' : checkN (openN n (isoFrom x n.switches)) = 0 := by rw [openN_check]; exact hc
  have hv := vnet hc'
  have hno : ∀ s ∈ (openN n (isoFrom x n.switches)).switches, s.opn = false → s.a ≠ x ∧ s.b ≠ x := by
    intro s hs ho
    obtain ⟨s0, hs0, rfl⟩ := List.mem_map.1 hs
    unfold openSw at ho ⊢
    split at ho
    · cases ho
    · rename_i hnc
      rw [if_neg hnc]
      have ht : ¬ touches x s0 = true := fun ht => hnc ((Lib.containsS_iff _ _).2 (iso_mem hs0 ht))
      simp only [touches, ho, Bool.not_false, Bool.true_and, Bool.or_eq_true, decide_eq_true_eq, not_or] at ht
      exact ht
  rw [busbarsE, if_pos hc']
  refine ⟨?_, rfl⟩
  have hnod : (openN n (isoFrom x n.switches)).nodes = n.nodes := rfl
  generalize openN n (isoFrom x n.switches) = m at *
  have hxm : x ∈ m.nodes := by rw [hnod]; exact hx
  have hi := idx_mem hxm
  have hl := buses_len hv
  have hfirst : ∀ k, k < (busesL m).length → 0 ≤ at_ (busesL m) k ∧ at_ (busesL m) k ≤ manyL ((busesL m).take k) := fun k hk => bus_first hv hk
  have hr := bus_range hv _ hi.1 hi.2
  have hge := many_ge (at_mem (l := busesL m) hi.1 (by omega))
  obtain ⟨c, hcc⟩ := Int.eq_ofNat_of_zero_le hr.1
  have hb := bars_at (nodes := m.nodes) hfirst m.nodes.length (by omega) c (by rw [List.take_of_length_le (by omega)]; omega)
  have hbar : barAt (busesL m) m.nodes m.nodes.length c = [x] := by
    unfold barAt
    rw [filter_one (i := (Lib.idxOfS m.nodes x).toNat) (by omega)]
    · simp only [List.map_cons, List.map_nil]
      rw [List.getD_eq_getElem?_getD, idx_get hxm]; rfl
    · rw [decide_eq_true_eq]; exact hcc
    · intro j hj hp
      rw [decide_eq_true_eq] at hp
      have he : at_ (busesL m) (Lib.idxOfS m.nodes x) = at_ (busesL m) (j : Int) := by
        rw [hcc, ← hp]; simp [at_]
      have := alone hv hxm hno (v := (j : Int)) ⟨by omega, by omega⟩ he
      omega
  rw [hbar] at hb
  exact List.mem_of_getElem? hb
end Go.Proofs.Ytphiiflcpeploaa
