/- What a valid network is: plain facts. No program here. -/
import Derived.Test.YtglbelmljdgaoaaGreatDoorBuses
import Derived.Test.YtglbelmljdgaoaaGreatDoorConn
import Derived.Test.YtglbelmljdgaoaaGreatDoorForest
namespace Go.Proofs.YtglbelmljdgaoaaGreatDoor

abbrev Item := ByteArray × List ByteArray × Bool
theorem device_ok {nodes seen : List ByteArray} {name : ByteArray} {ends : List ByteArray} (h : (deviceL nodes seen name ends).1 = 0) :
    nameOk name = true ∧ name ∉ seen ∧ (∀ e ∈ ends, e ∈ nodes) ∧ sameTwo ends = false ∧ (deviceL nodes seen name ends).2 = name :: seen := by
  have ho : deviceL nodes seen name ends = if nameOk name = false then (5, seen) else if Lib.containsS seen name = true then (7, seen) else if (ends.all fun e => Lib.containsS nodes e) = false then (6, name :: seen) else if sameTwo ends = true then (3, name :: seen) else (0, name :: seen) := rfl
  rw [ho] at h ⊢
  by_cases h1 : nameOk name = false
  · rw [if_pos h1] at h; cases h
  · rw [if_neg h1] at h ⊢
    by_cases h2 : Lib.containsS seen name = true
    · rw [if_pos h2] at h; cases h
    · rw [if_neg h2] at h ⊢
      by_cases h3 : (ends.all fun e => Lib.containsS nodes e) = false
      · rw [if_pos h3] at h; cases h
      · rw [if_neg h3] at h ⊢
        by_cases h4 : sameTwo ends = true
        · rw [if_pos h4] at h; cases h
        · rw [if_neg h4]
          refine ⟨by simpa using h1, fun hm => h2 ((Lib.containsS_iff _ _).2 hm), fun e he => ?_, by simpa using h4, rfl⟩
          have h5 : (ends.all fun e => Lib.containsS nodes e) = true := by simpa using h3
          exact (Lib.containsS_iff _ _).1 (List.all_eq_true.1 h5 e he)
theorem devs_ok {nodes : List ByteArray} : ∀ {items : List Item} {seen : List ByteArray}, devs nodes items seen = 0 →
    (∀ it ∈ items, nameOk it.1 = true ∧ it.1 ∉ seen ∧ (∀ e ∈ it.2.1, e ∈ nodes) ∧ sameTwo it.2.1 = false ∧ it.2.2 = true) ∧ (items.map (·.1)).Nodup
  | [], _, _ => ⟨by simp, by simp⟩
  | (name, ends, ok) :: rest, seen, h => by
    rw [devs] at h
    by_cases h0 : (deviceL nodes seen name ends).1 = 0
    · rw [if_pos h0] at h
      by_cases h1 : ok = true
      · rw [if_pos h1] at h
        obtain ⟨k1, k2, k3, k4, k5⟩ := device_ok h0
        rw [k5] at h
        obtain ⟨i1, i2⟩ := devs_ok h
        refine ⟨fun it hit => ?_, ?_⟩
        · rcases List.mem_cons.1 hit with rfl | hit
          · exact ⟨k1, k2, k3, k4, h1⟩
          · obtain ⟨j1, j2, j3⟩ := i1 it hit
            exact ⟨j1, fun hm => j2 (List.mem_cons_of_mem _ hm), j3⟩
        · rw [List.map_cons, List.nodup_cons]
          refine ⟨fun hm => ?_, i2⟩
          obtain ⟨it, hit, e⟩ := List.mem_map.1 hm
          obtain ⟨_, j2, _⟩ := i1 it hit
          exact j2 (by rw [e]; exact List.mem_cons_self)
      · rw [if_neg h1] at h; cases h
    · rw [if_neg h0] at h; exact absurd h h0

/-- what a valid network is -/
structure VNet (n : NetD) : Prop where
  hn : n.nodes.length ≤ 24
  hw : n.switches.length ≤ 32
  hb : n.branches.length ≤ 24
  hg : n.gens.length ≤ 10
  hl : n.loads.length ≤ 12
  hs : n.stores.length ≤ 4
  sw : ∀ s ∈ n.switches, s.a ∈ n.nodes ∧ s.b ∈ n.nodes ∧ s.a ≠ s.b ∧ nameOk s.name = true
  br : ∀ b ∈ n.branches, b.src ∈ n.nodes ∧ b.dst ∈ n.nodes ∧ b.src ≠ b.dst ∧ branchOk b = true
  ge : ∀ g ∈ n.gens, g.node ∈ n.nodes ∧ genOk g = true
  lo : ∀ g ∈ n.loads, g.node ∈ n.nodes ∧ loadOk g = true
  st : ∀ g ∈ n.stores, g.node ∈ n.nodes ∧ storeOk g = true
  nodup : (n.items.map (·.1)).Nodup
theorem checkN_devs {n : NetD} (h : checkN n = 0) : ¬ (24 < n.nodes.length ∨ 32 < n.switches.length ∨ 24 < n.branches.length ∨ 10 < n.gens.length ∨ 12 < n.loads.length ∨ 4 < n.stores.length) ∧ devs n.nodes n.items [] = 0 := by
  rw [checkN] at h
  by_cases h1 : 24 < n.nodes.length ∨ 32 < n.switches.length ∨ 24 < n.branches.length ∨ 10 < n.gens.length ∨ 12 < n.loads.length ∨ 4 < n.stores.length
  · rw [if_pos h1] at h; cases h
  · rw [if_neg h1] at h; exact ⟨h1, h⟩
theorem vnet {n : NetD} (h : checkN n = 0) : VNet n := by
  obtain ⟨h1, h2⟩ := checkN_devs h
  obtain ⟨i1, i2⟩ := devs_ok h2
  have mem : ∀ it : Item, it ∈ n.items ↔ it ∈ n.nodes.map (fun s => (s, [], true)) ∨ it ∈ n.switches.map (fun s => (s.name, [s.a, s.b], true)) ∨ it ∈ n.branches.map (fun b => (b.name, [b.src, b.dst], branchOk b)) ∨ it ∈ n.gens.map (fun g => (g.name, [g.node], genOk g)) ∨ it ∈ n.loads.map (fun l => (l.name, [l.node], loadOk l)) ∨ it ∈ n.stores.map fun s => (s.name, [s.node], storeOk s) := by
    intro it
    simp only [NetD.items, List.mem_append]
  refine ⟨by omega, by omega, by omega, by omega, by omega, by omega, fun s hs => ?_, fun b hb => ?_, fun g hg => ?_, fun g hg => ?_, fun g hg => ?_, i2⟩
  · obtain ⟨k1, _, k3, k4, _⟩ := i1 _ ((mem _).2 (.inr (.inl (List.mem_map.2 ⟨s, hs, rfl⟩))))
    exact ⟨k3 s.a (by simp), k3 s.b (by simp), by simpa [sameTwo] using k4, k1⟩
  · obtain ⟨k1, _, k3, k4, k5⟩ := i1 _ ((mem _).2 (.inr (.inr (.inl (List.mem_map.2 ⟨b, hb, rfl⟩)))))
    exact ⟨k3 b.src (by simp), k3 b.dst (by simp), by simpa [sameTwo] using k4, k5⟩
  · obtain ⟨k1, _, k3, k4, k5⟩ := i1 _ ((mem _).2 (.inr (.inr (.inr (.inl (List.mem_map.2 ⟨g, hg, rfl⟩))))))
    exact ⟨k3 g.node (by simp), k5⟩
  · obtain ⟨k1, _, k3, k4, k5⟩ := i1 _ ((mem _).2 (.inr (.inr (.inr (.inr (.inl (List.mem_map.2 ⟨g, hg, rfl⟩)))))))
    exact ⟨k3 g.node (by simp), k5⟩
  · obtain ⟨k1, _, k3, k4, k5⟩ := i1 _ ((mem _).2 (.inr (.inr (.inr (.inr (.inr (List.mem_map.2 ⟨g, hg, rfl⟩)))))))
    exact ⟨k3 g.node (by simp), k5⟩

theorem idxFromS_ge (x : ByteArray) : ∀ (zs : List ByteArray) (i : Nat), Lib.idxFromS zs x i = -1 ∨ ((i : Int) ≤ Lib.idxFromS zs x i ∧ Lib.idxFromS zs x i < i + zs.length)
  | [], _ => .inl rfl
  | z :: zs, i => by
    rw [Lib.idxFromS]
    split
    · right; simp; omega
    · rcases idxFromS_ge x zs (i + 1) with h | h
      · left; exact h
      · right; simp; omega
theorem idx_range (zs : List ByteArray) (x : ByteArray) : Lib.idxOfS zs x = -1 ∨ (0 ≤ Lib.idxOfS zs x ∧ Lib.idxOfS zs x < zs.length) := by
  have := idxFromS_ge x zs 0
  simpa [Lib.idxOfS] using this
theorem idx_mem {zs : List ByteArray} {x : ByteArray} (h : x ∈ zs) : 0 ≤ Lib.idxOfS zs x ∧ Lib.idxOfS zs x < zs.length := by
  have h1 := (Lib.containsS_iff zs x).2 h
  rw [Lib.containsS, decide_eq_true_eq] at h1
  rcases idx_range zs x with h2 | h2
  · omega
  · exact h2

theorem edgesFrom_mem {nodes : List ByteArray} {o : Bool} : ∀ {s : List SwitchD} {i : Nat} {e : (Int × Int) × Int}, e ∈ edgesFrom nodes o i s → ∃ j, ∃ hj : j < s.length, s[j].opn = o ∧ e = ((Lib.idxOfS nodes s[j].a, Lib.idxOfS nodes s[j].b), ((i + j : Nat) : Int))
  | [], _, _, h => by simp [edgesFrom] at h
  | x :: s, i, e, h => by
    rw [edgesFrom] at h
    have more : e ∈ edgesFrom nodes o (i + 1) s → ∃ j, ∃ hj : j < (x :: s).length, (x :: s)[j].opn = o ∧ e = ((Lib.idxOfS nodes (x :: s)[j].a, Lib.idxOfS nodes (x :: s)[j].b), ((i + j : Nat) : Int)) := by
      intro h
      obtain ⟨j, hj, h1, h2⟩ := edgesFrom_mem h
      refine ⟨j + 1, by simp; omega, by simpa using h1, ?_⟩
      rw [h2]
      simp
      omega
    split at h
    · rename_i ho
      rcases List.mem_cons.1 h with h | h
      · exact ⟨0, by simp, by simpa using ho, by simpa using h⟩
      · exact more h
    · exact more h
theorem edges_valid {n : NetD} (h : VNet n) (o : Bool) : Valid n.nodes.length ((edgesL n o).map (·.1)) := by
  intro x hx
  obtain ⟨e, he, rfl⟩ := List.mem_map.1 hx
  obtain ⟨j, hj, _, rfl⟩ := edgesFrom_mem he
  obtain ⟨ha, hb, _, _⟩ := h.sw _ (List.getElem_mem hj)
  have h1 := idx_mem ha
  have h2 := idx_mem hb
  exact ⟨h1.1, h1.2, h2.1, h2.2⟩
theorem chk_of_valid {n : Nat} {l : List (Int × Int)} (hn : n ≤ 24) (hl : l.length ≤ 64) (hv : Valid n l) : gchk n l = 0 := by
  rw [gchk, if_neg (by omega), if_pos]
  rw [List.all_eq_true]
  intro x hx
  have := hv x hx
  simp [okEdge]
  omega
theorem edges_len (n : NetD) (o : Bool) : ((edgesL n o).map (·.1)).length ≤ n.switches.length := by
  rw [List.length_map]
  exact edgesFrom_len _ _ _ _
theorem buses_eq {n : NetD} (h : VNet n) : busesL n = parts n.nodes.length ((edgesL n false).map (·.1)) (-1) := by
  have hw := h.hw
  rw [busesL, guardE, if_pos (chk_of_valid h.hn (by have := edges_len n false; omega) (edges_valid h false))]
theorem buses_len {n : NetD} (h : VNet n) : (busesL n).length = n.nodes.length := by rw [buses_eq h, parts_len]
theorem parts_range {n : Nat} {l : List (Int × Int)} (hv : Valid n l) (v : Int) (h0 : 0 ≤ v) (h1 : v < n) : 0 ≤ at_ (parts n l (-1)) v ∧ at_ (parts n l (-1)) v < n := by
  obtain ⟨m, hm⟩ := parts_num (wo := -1) hv
  have a := hm.low v h0 h1
  refine ⟨a, ?_⟩
  have key : ∀ (k : Nat) (v : Int), 0 ≤ v → v ≤ k → v < n → at_ (parts n l (-1)) v ≤ v := by
    intro k
    induction k with
    | zero =>
      intro v v0 v1 v2
      have : v = 0 := by omega
      subst this
      rcases Int.lt_or_le 0 (at_ (parts n l (-1)) 0) with h | h
      · obtain ⟨u, u0, u1, _⟩ := hm.rg 0 (by omega) v2 0 (by omega) h
        omega
      · exact h
    | succ k ih =>
      intro v v0 v1 v2
      rcases Int.lt_or_le v (at_ (parts n l (-1)) v) with h | h
      · obtain ⟨u, u0, u1, u2⟩ := hm.rg v v0 v2 v v0 h
        have := ih u u0 (by omega) (by omega)
        omega
      · exact h
  have := key v.toNat v h0 (by omega) h1
  omega
theorem bus_range {n : NetD} (h : VNet n) (v : Int) (h0 : 0 ≤ v) (h1 : v < n.nodes.length) : 0 ≤ at_ (busesL n) v ∧ at_ (busesL n) v < n.nodes.length := by
  rw [buses_eq h]
  exact parts_range (edges_valid h false) v h0 h1
end Go.Proofs.YtglbelmljdgaoaaGreatDoor
