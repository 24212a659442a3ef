/- graph.path and graph.all. -/
import Derived.Test.YtglbelmljdgaoaaGreatDoorTree
namespace Go.Proofs.YtglbelmljdgaoaaGreatDoor
open Go.RowKit

structure PathM (w : World) (g n : Nat) (l : List (Int × Int)) (es : List Int) (tq : Int) (res : List Int) (f : Nat) (o q : List Int) (v : Value) (wr : World) : Prop where
  nums : Nums w g n o wr
  row : Row wr (g + 1) 3 1 v q.length (q.map I)
  far : FarInv n l es tq o q
  mu : q.length + neg o < f
  fle : f ≤ n + 1
  rest : bfsF l es f o q = res
theorem PathM.q24 {w : World} {g n : Nat} {l : List (Int × Int)} {es : List Int} {tq : Int} {res : List Int} {f : Nat} {o : List Int} {a : Int} {q : List Int} {v : Value} {wr : World} (h : PathM w g n l es tq res f o (a :: q) v wr) (hn : n ≤ 24) : q.length ≤ 24 := by
  have h1 := h.mu
  have h2 := h.fle
  simp only [List.length_cons] at h1
  omega
structure PathI (w : World) (g n : Nat) (l : List (Int × Int)) (es : List Int) (tq a : Int) (res : List Int × List Int) (mu j : Nat) (o q : List Int) (v : Value) (wr : World) : Prop where
  nums : Nums w g n o wr
  row : Row wr (g + 1) 3 1 v q.length (q.map I)
  mid : FarMid n l es tq a (es.drop j) o q
  hmu : q.length + neg o = mu
  hj : j ≤ es.length
  rest : scanF l a (es.drop j) o q = res

section
variable {w : World} {g n : Nat} {l : List (Int × Int)} {es : List Int} {tq a : Int} {res : List Int × List Int} {mu j : Nat} {o q : List Int} {v : Value} {wr : World}
theorem dropI_at {es : List Int} {j : Nat} (hj : j < es.length) : es.drop j = es[j] :: es.drop (j + 1) := by rw [List.drop_eq_getElem_cons hj]
theorem PathI.skip (h : PathI w g n l es tq a res mu j o q v wr) (hj : j < es.length) (ob : Obj) (hs : inc l a es[j] = false) : PathI w g n l es tq a res mu (j + 1) o q v (wr.alloc ob) := by
  have hm := h.mid
  have hr := h.rest
  rw [dropI_at hj] at hm hr
  exact ⟨h.nums.alloc _, h.row.alloc _, hm.skip (by simp [hs]), h.hmu, hj, by rw [scanF_skip hs] at hr; exact hr⟩
theorem PathI.old (h : PathI w g n l es tq a res mu j o q v wr) (hj : j < es.length) (ob : Obj) (hs : inc l a es[j] = true) (h2 : ¬ o.getD (nxt l a es[j]).toNat 0 < 0) : PathI w g n l es tq a res mu (j + 1) o q v (wr.alloc ob) := by
  have hm := h.mid
  have hr := h.rest
  rw [dropI_at hj] at hm hr
  exact ⟨h.nums.alloc _, h.row.alloc _, hm.skip (fun _ => by unfold at_; omega), h.hmu, hj, by rw [scanF_old hs h2] at hr; exact hr⟩
theorem PathI.new (h : PathI w g n l es tq a res mu j o q v wr) (hv : Valid n l) (hes : Within l es) (hto : 0 ≤ tq ∧ tq < n) (hj : j < es.length) (hs : inc l a es[j] = true) (h2 : o.getD (nxt l a es[j]).toNat 0 < 0) (hg : w.heap.size ≤ g)
    {wx w2 : World} {v2 : Value} (hwx : Nums w g n (o.set (nxt l a es[j]).toNat (o.getD a.toNat 0 + 1)) wx) (hb : Below (g + 1) wx w2) (hrow : Row w2 (g + 1) 3 1 v2 (q.length + 1) (q.map I ++ [I (nxt l a es[j])])) :
    PathI w g n l es tq a res mu (j + 1) (o.set (nxt l a es[j]).toNat (o.getD a.toNat 0 + 1)) (q ++ [nxt l a es[j]]) v2 w2 := by
  have hm := h.mid
  have hr := h.rest
  rw [dropI_at hj] at hm hr
  have hmem : es[j] ∈ es := List.getElem_mem hj
  obtain ⟨k0, k1⟩ := hes _ hmem
  obtain ⟨t0, t1⟩ := nxt_ok hv k0 k1 hs
  refine ⟨hwx.step hb hg, by simpa using hrow, hm.step hv hes hmem hto hs h2, ?_, hj, by rw [scanF_new hs h2] at hr; exact hr⟩
  have h1 := h.hmu
  have ha := hm.ha.2.2
  have h3 := neg_set (o := o) (i := (nxt l a es[j]).toNat) (m := o.getD a.toNat 0 + 1) (by rw [h.nums.len]; omega) (by unfold at_ at ha; omega) h2
  simp at h3 ⊢; omega
end

/-- on the way back: the ways found so far -/
structure PathB (w : World) (g n : Nat) (l : List (Int × Int)) (es far : List Int) (tq : Int) (res : List Int) (a : Int) (out : List Int) (v : Value) (wr : World) : Prop where
  nums : Nums w g n far wr
  row : Row wr (g + 1) 3 1 v out.length (out.map I)
  ha : 0 ≤ a ∧ a < n ∧ 0 ≤ at_ far a
  rest : out ++ back l es far tq ((at_ far a).toNat + 1) a = res
  few : out.length + (at_ far a).toNat ≤ n

/-- a call that returns a new slice of ints and a bool -/
def RetIntsB (w : World) (r : List Int × Bool) (e : Ending) (w' : World) : Prop := ∃ v, e = .returned (.tuple #[v, .bool r.2]) ∧ Row w' w.heap.size 3 1 v r.1.length (r.1.map I) ∧ Below w.heap.size w w'

structure PArgs (w : World) (n : Nat) (l : List (Int × Int)) (es : List Int) (a tq : Int) (A EA : Option Addr) : Prop where
  reads : Reads w w.heap.size 2 A l.length (cells2 l)
  edges : Reads w w.heap.size 1 EA es.length (es.map I)
  valid : Valid n l
  within : Within l es
  hn : n ≤ 24
  hl : l.length ≤ 64
  hes : es.length ≤ 64
  ha : 0 ≤ a ∧ a < n
  hto : 0 ≤ tq ∧ tq < n

section
variable {w : World} {g n : Nat} {l : List (Int × Int)} {es far : List Int} {tq a : Int} {res out : List Int} {v : Value} {wr : World}
/-- at another node than the goal there is an edge that leads nearer -/
theorem find_some (hinv : FarInv n l es tq far []) (ha : 0 ≤ a ∧ a < n ∧ 0 ≤ at_ far a) (hne : a ≠ tq) : ∃ k, es.find? (stepB l far a) = some k ∧ 0 ≤ at_ far (nxt l a k) ∧ at_ far (nxt l a k) = at_ far a - 1 ∧ inc l a k = true ∧ k ∈ es := by
  obtain ⟨k, hk, hi, p1, p2⟩ := hinv.parent a ha.1 ha.2.1 ha.2.2 hne
  cases hf : es.find? (stepB l far a) with
  | none =>
    have := List.find?_eq_none.1 hf k hk
    unfold at_ at p2
    simp [stepB, hi] at this
    simp at p2
    exact absurd p2 this
  | some k' =>
    have h1 := List.find?_some hf
    have h2 := List.mem_of_find?_eq_some hf
    simp only [stepB, Bool.and_eq_true, beq_iff_eq] at h1
    refine ⟨k', rfl, ?_, h1.2, h1.1, h2⟩
    have : at_ far (nxt l a k') = at_ far a - 1 := h1.2
    omega
theorem find_first {p : Int → Bool} {es : List Int} {k : Int} (h : es.find? p = some k) {j : Nat} (hj : j < es.length) (hb : ∀ i (hi : i < es.length), i < j → p es[i] = false) (hp : p es[j] = true) : es[j] = k := by
  induction es generalizing j with
  | nil => simp at hj
  | cons e es ih =>
    cases j with
    | zero =>
      simp at hp ⊢
      rw [List.find?_cons_of_pos hp] at h
      injection h
    | succ j =>
      have h0 := hb 0 (by simp) (by omega)
      simp at h0
      rw [List.find?_cons_of_neg (by simp [h0])] at h
      simp at hp ⊢
      exact ih h (by simpa using hj) (fun i hi hij => by have := hb (i + 1) (by simpa using hi) (by omega); simpa using this) hp
theorem find_none {p : Int → Bool} {es : List Int} {k : Int} (h : es.find? p = some k) (hb : ∀ i (hi : i < es.length), p es[i] = false) : False := by
  have h1 := List.find?_some h
  have h2 := List.mem_of_find?_eq_some h
  obtain ⟨i, hi, e⟩ := List.getElem_of_mem h2
  have := hb i hi
  rw [e, h1] at this
  cases this
end

theorem nums_start {w w1 : World} {n : Nat} {o : Obj} (hblk : Blk w1 (w.alloc o).heap.size 3 (Array.replicate n (I (-1)))) (hbw : Below (w.alloc o).heap.size (w.alloc o) w1) : Nums w (w.heap.size + 1) n (List.replicate n (-1)) w1 := by
  refine ⟨by simp, ?_, ?_⟩
  · rw [List.map_replicate, List.toArray_replicate]; simpa using hblk
  · have := hbw.mono (B' := w.heap.size) (by simp)
    exact ((Below.refl _ w).alloc (Nat.le_refl _) _).trans this

/-- the inner loop of the way back: no edge before j leads nearer -/
structure PathC (w : World) (g n : Nat) (l : List (Int × Int)) (es far : List Int) (tq : Int) (res : List Int) (a : Int) (out : List Int) (v : Value) (j : Nat) (wr : World) : Prop where
  b : PathB w g n l es far tq res a out v wr
  hj : j ≤ es.length
  no : ∀ i (hi : i < es.length), i < j → stepB l far a es[i] = false
theorem PathB.world {w : World} {g n : Nat} {l : List (Int × Int)} {es far : List Int} {tq : Int} {res : List Int} {a : Int} {out : List Int} {v : Value} {wr w2 : World} (h : PathB w g n l es far tq res a out v wr) (hb : Below wr.heap.size wr w2) : PathB w g n l es far tq res a out v w2 :=
  ⟨⟨h.nums.len, h.nums.blk.below hb h.nums.blk.lt, h.nums.below.trans (hb.mono h.nums.below.size)⟩, h.row.call hb, h.ha, h.rest, h.few⟩
theorem PathC.next {w : World} {g n : Nat} {l : List (Int × Int)} {es far : List Int} {tq : Int} {res : List Int} {a : Int} {out : List Int} {v : Value} {j : Nat} {wr w2 : World} (h : PathC w g n l es far tq res a out v j wr) (hj : j < es.length) (hs : stepB l far a es[j] = false) (hb : Below wr.heap.size wr w2) : PathC w g n l es far tq res a out v (j + 1) w2 := by
  refine ⟨h.b.world hb, hj, fun i hi hij => ?_⟩
  by_cases e : i = j
  · subst e; exact hs
  · exact h.no i hi (by omega)
theorem PathC.take {w : World} {g n : Nat} {l : List (Int × Int)} {es far : List Int} {tq : Int} {res : List Int} {a : Int} {out : List Int} {v : Value} {j : Nat} {wr w2 : World} (h : PathC w g n l es far tq res a out v j wr) (hv : Valid n l) (hes : Within l es) (hinv : FarInv n l es tq far []) (hne : a ≠ tq) (hj : j < es.length) (hs : stepB l far a es[j] = true) (hg : w.heap.size ≤ g)
    {wx : World} {v2 : Value} (hbx : Below wr.heap.size wr wx) (hb : Below (g + 1) wx w2) (hrow : Row w2 (g + 1) 3 1 v2 (out.length + 1) (out.map I ++ [I es[j]])) :
    PathB w g n l es far tq res (nxt l a es[j]) (out ++ [es[j]]) v2 w2 ∧ (at_ far (nxt l a es[j])).toNat + 1 < (at_ far a).toNat + 1 := by
  obtain ⟨k, hf, p1, p2, hi, hk⟩ := find_some hinv h.b.ha hne
  have hjk := find_first hf hj h.no hs
  rw [hjk] at hrow ⊢
  obtain ⟨k0, k1⟩ := hes k hk
  obtain ⟨t0, t1⟩ := nxt_ok hv k0 k1 hi
  have hx := (h.b.world hbx).nums
  have ha := h.b.ha
  have hfew := h.b.few
  refine ⟨⟨hx.step hb hg, by simpa using hrow, ⟨t0, t1, p1⟩, ?_, ?_⟩, by omega⟩
  · have := h.b.rest
    rw [back, if_neg hne, hf] at this
    simp only at this
    rw [List.append_assoc, List.singleton_append, show (at_ far (nxt l a k)).toNat + 1 = (at_ far a).toNat by omega]
    exact this
  · simp; omega

end Go.Proofs.YtglbelmljdgaoaaGreatDoor
