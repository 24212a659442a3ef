/- The plain functions of graph.path: distances by breadth, then the way back. No program here. -/
import Derived.Test.YtglbelmljdgaoaaGreatDoorGraphPlain
namespace Go.Proofs.YtglbelmljdgaoaaGreatDoor

def edgeAt (l : List (Int × Int)) (k : Int) : Int × Int := l.getD k.toNat (0, 0)
/-- the other node of edge k, seen from a -/
def nxt (l : List (Int × Int)) (a k : Int) : Int := (edgeAt l k).1 + (edgeAt l k).2 - a
def inc (l : List (Int × Int)) (a k : Int) : Bool := (edgeAt l k).1 == a || (edgeAt l k).2 == a
def scanF (l : List (Int × Int)) (a : Int) : List Int → List Int → List Int → List Int × List Int
  | [], o, q => (o, q)
  | k :: es, o, q =>
    if inc l a k = true then
      if o.getD (nxt l a k).toNat 0 < 0 then scanF l a es (o.set (nxt l a k).toNat (o.getD a.toNat 0 + 1)) (q ++ [nxt l a k]) else scanF l a es o q
    else scanF l a es o q
def bfsF (l : List (Int × Int)) (es : List Int) : Nat → List Int → List Int → List Int
  | 0, o, _ => o
  | _ + 1, o, [] => o
  | f + 1, o, a :: q => bfsF l es f (scanF l a es o q).1 (scanF l a es o q).2
def farL (n : Nat) (l : List (Int × Int)) (es : List Int) (tq : Int) : List Int := bfsF l es (n + 1) ((List.replicate n (-1)).set tq.toNat 0) [tq]
def stepB (l : List (Int × Int)) (far : List Int) (a k : Int) : Bool := inc l a k && (far.getD (nxt l a k).toNat 0 == far.getD a.toNat 0 - 1)
def back (l : List (Int × Int)) (es far : List Int) (tq : Int) : Nat → Int → List Int
  | 0, _ => []
  | f + 1, a => if a = tq then [] else match es.find? (stepB l far a) with
    | none => []
    | some k => k :: back l es far tq f (nxt l a k)
def pathL (n : Nat) (l : List (Int × Int)) (es : List Int) (a tq : Int) : List Int × Bool :=
  if (farL n l es tq).getD a.toNat 0 < 0 then ([], false) else (back l es (farL n l es tq) tq (((farL n l es tq).getD a.toNat 0).toNat + 1) a, true)

theorem scanF_skip {l : List (Int × Int)} {a k : Int} {es o q : List Int} (h : inc l a k = false) : scanF l a (k :: es) o q = scanF l a es o q := by rw [scanF, if_neg (by simp [h])]
theorem scanF_new {l : List (Int × Int)} {a k : Int} {es o q : List Int} (h : inc l a k = true) (h2 : o.getD (nxt l a k).toNat 0 < 0) :
    scanF l a (k :: es) o q = scanF l a es (o.set (nxt l a k).toNat (o.getD a.toNat 0 + 1)) (q ++ [nxt l a k]) := by rw [scanF, if_pos h, if_pos h2]
theorem scanF_old {l : List (Int × Int)} {a k : Int} {es o q : List Int} (h : inc l a k = true) (h2 : ¬ o.getD (nxt l a k).toNat 0 < 0) : scanF l a (k :: es) o q = scanF l a es o q := by rw [scanF, if_pos h, if_neg h2]

def Valid (n : Nat) (l : List (Int × Int)) : Prop := ∀ x ∈ l, 0 ≤ x.1 ∧ x.1 < n ∧ 0 ≤ x.2 ∧ x.2 < n
/-- edge numbers of l -/
def Within (l : List (Int × Int)) (es : List Int) : Prop := ∀ k ∈ es, 0 ≤ k ∧ k < l.length
theorem edgeAt_ok {n : Nat} {l : List (Int × Int)} (hv : Valid n l) {k : Int} (h0 : 0 ≤ k) (h1 : k < l.length) : 0 ≤ (edgeAt l k).1 ∧ (edgeAt l k).1 < n ∧ 0 ≤ (edgeAt l k).2 ∧ (edgeAt l k).2 < n := by
  have hk : k.toNat < l.length := by omega
  have e : edgeAt l k = l[k.toNat] := by simp [edgeAt, hk]
  rw [e]
  exact hv _ (List.getElem_mem hk)
theorem inc_iff {l : List (Int × Int)} {a k : Int} : inc l a k = true ↔ (edgeAt l k).1 = a ∨ (edgeAt l k).2 = a := by simp [inc]
theorem nxt_ok {n : Nat} {l : List (Int × Int)} (hv : Valid n l) {a k : Int} (h0 : 0 ≤ k) (h1 : k < l.length) (hi : inc l a k = true) : 0 ≤ nxt l a k ∧ nxt l a k < n := by
  have := edgeAt_ok hv h0 h1
  rw [inc_iff] at hi
  unfold nxt
  omega
theorem inc_nxt {l : List (Int × Int)} {a k : Int} (hi : inc l a k = true) : inc l (nxt l a k) k = true := by
  rw [inc_iff] at hi ⊢
  unfold nxt
  omega
theorem nxt_nxt (l : List (Int × Int)) (a k : Int) : nxt l (nxt l a k) k = a := by unfold nxt; omega

/-- 'o' as a function on nodes -/
def at_ (o : List Int) (v : Int) : Int := o.getD v.toNat 0
theorem at_set {o : List Int} {t v m : Int} (h0 : 0 ≤ t) (h1 : t < o.length) (hv : 0 ≤ v) : at_ (o.set t.toNat m) v = if v = t then m else at_ o v := by
  unfold at_
  by_cases h : v = t
  · subst h
    have : v.toNat < o.length := by omega
    simp [this]
  · have h2 : t.toNat ≠ v.toNat := by omega
    simp [h, List.getElem?_set_ne h2]

/-- what holds of the distances while the queue is worked off: 'done a' nodes, 'es' edges -/
structure FarInv (n : Nat) (l : List (Int × Int)) (es : List Int) (tq : Int) (o q : List Int) : Prop where
  len : o.length = n
  inq : ∀ x ∈ q, 0 ≤ x ∧ x < n ∧ 0 ≤ at_ o x
  sorted : q.Pairwise fun x y => at_ o x ≤ at_ o y
  near : ∀ v : Int, 0 ≤ v → v < n → ∀ x ∈ q, at_ o v ≤ at_ o x + 1
  done : ∀ v : Int, 0 ≤ v → v < n → 0 ≤ at_ o v → v ∉ q → ∀ k ∈ es, inc l v k = true → 0 ≤ at_ o (nxt l v k) ∧ at_ o (nxt l v k) ≤ at_ o v + 1
  parent : ∀ v : Int, 0 ≤ v → v < n → 0 ≤ at_ o v → v ≠ tq → ∃ k ∈ es, inc l v k = true ∧ 0 ≤ at_ o (nxt l v k) ∧ at_ o (nxt l v k) = at_ o v - 1
  start : at_ o tq = 0
  bound : ∀ v : Int, 0 ≤ v → v < n → at_ o v + neg o ≤ n

/-- .. while node a is worked on, with the edges 'rest' still to come -/
structure FarMid (n : Nat) (l : List (Int × Int)) (es : List Int) (tq a : Int) (rest : List Int) (o q : List Int) : Prop where
  len : o.length = n
  ha : 0 ≤ a ∧ a < n ∧ 0 ≤ at_ o a
  inq : ∀ x ∈ q, 0 ≤ x ∧ x < n ∧ at_ o a ≤ at_ o x
  sorted : q.Pairwise fun x y => at_ o x ≤ at_ o y
  near : ∀ v : Int, 0 ≤ v → v < n → at_ o v ≤ at_ o a + 1
  done : ∀ v : Int, 0 ≤ v → v < n → 0 ≤ at_ o v → v ∉ q → v ≠ a → ∀ k ∈ es, inc l v k = true → 0 ≤ at_ o (nxt l v k) ∧ at_ o (nxt l v k) ≤ at_ o v + 1
  some : ∀ k ∈ es, k ∉ rest → inc l a k = true → 0 ≤ at_ o (nxt l a k)
  parent : ∀ v : Int, 0 ≤ v → v < n → 0 ≤ at_ o v → v ≠ tq → ∃ k ∈ es, inc l v k = true ∧ 0 ≤ at_ o (nxt l v k) ∧ at_ o (nxt l v k) = at_ o v - 1
  start : at_ o tq = 0
  bound : ∀ v : Int, 0 ≤ v → v < n → at_ o v + neg o ≤ n

theorem FarMid.step {n : Nat} {l : List (Int × Int)} {es : List Int} {tq a k : Int} {rest o q : List Int} (hv : Valid n l) (hes : Within l es) (h : FarMid n l es tq a (k :: rest) o q) (hk : k ∈ es) (hto : 0 ≤ tq ∧ tq < n)
    (hi : inc l a k = true) (hn : at_ o (nxt l a k) < 0) : FarMid n l es tq a rest (o.set (nxt l a k).toNat (at_ o a + 1)) (q ++ [nxt l a k]) := by
  obtain ⟨hk0, hk1⟩ := hes k hk
  obtain ⟨t0, t1⟩ := nxt_ok hv hk0 hk1 hi
  obtain ⟨ha0, ha1, ha2⟩ := h.ha
  have hlen := h.len
  have hS : ∀ v : Int, 0 ≤ v → at_ (o.set (nxt l a k).toNat (at_ o a + 1)) v = if v = nxt l a k then at_ o a + 1 else at_ o v := fun v hv0 => at_set t0 (by omega) hv0
  have hat : a ≠ nxt l a k := fun e => by rw [← e] at hn; omega
  have hSa := hS a ha0
  rw [if_neg hat] at hSa
  have hold : ∀ v : Int, 0 ≤ v → 0 ≤ at_ o v → at_ (o.set (nxt l a k).toNat (at_ o a + 1)) v = at_ o v := fun v hv0 hv1 => by rw [hS v hv0, if_neg]; rintro rfl; omega
  have hneg := neg_set (o := o) (i := (nxt l a k).toNat) (m := at_ o a + 1) (by omega) (by omega) hn
  refine ⟨by simpa using hlen, ⟨ha0, ha1, by rw [hSa]; exact ha2⟩, ?_, ?_, ?_, ?_, ?_, ?_, ?_, ?_⟩
  · intro x hx
    rcases List.mem_append.1 hx with hx | hx
    · obtain ⟨x0, x1, x2⟩ := h.inq x hx
      refine ⟨x0, x1, ?_⟩
      rw [hSa, hold x x0 (by omega)]; exact x2
    · simp at hx; subst hx
      refine ⟨t0, t1, ?_⟩
      rw [hSa, hS _ t0, if_pos rfl]; omega
  · rw [List.pairwise_append]
    refine ⟨?_, by simp, ?_⟩
    · refine List.Pairwise.imp_of_mem ?_ h.sorted
      intro x y hx hy hxy
      obtain ⟨x0, _, x2⟩ := h.inq x hx
      obtain ⟨y0, _, y2⟩ := h.inq y hy
      rw [hold x x0 (by omega), hold y y0 (by omega)]; exact hxy
    · intro x hx y hy
      simp at hy; subst hy
      obtain ⟨x0, x1, x2⟩ := h.inq x hx
      rw [hold x x0 (by omega), hS _ t0, if_pos rfl]
      exact h.near x x0 x1
  · intro v v0 v1
    rw [hSa, hS v v0]
    split
    · omega
    · exact h.near v v0 v1
  · intro v v0 v1 v2 v3 v4 j hj hij
    have hvt : v ≠ nxt l a k := fun e => v3 (by simp [e])
    rw [hS v v0, if_neg hvt] at v2 ⊢
    have := h.done v v0 v1 v2 (fun hm => v3 (by simp [hm])) v4 j hj hij
    obtain ⟨j0, j1⟩ := hes j hj
    rw [hold _ (nxt_ok hv j0 j1 hij).1 this.1]
    exact this
  · intro j hj hjr hij
    obtain ⟨j0, j1⟩ := hes j hj
    by_cases hjk : j = k
    · subst hjk
      rw [hS _ t0, if_pos rfl]; omega
    · have := h.some j hj (by simp [hjk, hjr]) hij
      rw [hold _ (nxt_ok hv j0 j1 hij).1 this]; exact this
  · intro v v0 v1 v2 v3
    by_cases hvt : v = nxt l a k
    · subst hvt
      refine ⟨k, hk, inc_nxt hi, ?_, ?_⟩
      · rw [nxt_nxt, hSa]; exact ha2
      · rw [nxt_nxt, hSa, hS _ t0, if_pos rfl]; omega
    · rw [hS v v0, if_neg hvt] at v2 ⊢
      obtain ⟨j, hj, hij, p1, p2⟩ := h.parent v v0 v1 v2 v3
      obtain ⟨j0, j1⟩ := hes j hj
      exact ⟨j, hj, hij, by rw [hold _ (nxt_ok hv j0 j1 hij).1 p1]; exact p1, by rw [hold _ (nxt_ok hv j0 j1 hij).1 p1]; exact p2⟩
  · rw [hold tq hto.1 (by have := h.start; omega)]; exact h.start
  · intro v v0 v1
    have hb := h.bound a ha0 ha1
    have hb2 := h.bound v v0 v1
    rw [hS v v0]
    split <;> omega

theorem FarMid.skip {n : Nat} {l : List (Int × Int)} {es : List Int} {tq a k : Int} {rest o q : List Int} (h : FarMid n l es tq a (k :: rest) o q) (hs : inc l a k = true → 0 ≤ at_ o (nxt l a k)) : FarMid n l es tq a rest o q := by
  refine ⟨h.len, h.ha, h.inq, h.sorted, h.near, h.done, ?_, h.parent, h.start, h.bound⟩
  intro j hj hjr hij
  by_cases hjk : j = k
  · subst hjk; exact hs hij
  · exact h.some j hj (by simp [hjk, hjr]) hij

theorem scanF_mid {n : Nat} {l : List (Int × Int)} {es : List Int} {tq a : Int} (hv : Valid n l) (hes : Within l es) (hto : 0 ≤ tq ∧ tq < n) :
    ∀ (rest o q : List Int), (∀ k ∈ rest, k ∈ es) → FarMid n l es tq a rest o q → FarMid n l es tq a [] (scanF l a rest o q).1 (scanF l a rest o q).2
  | [], o, q, _, h => h
  | k :: rest, o, q, hr, h => by
    have hr' : ∀ j ∈ rest, j ∈ es := fun j hj => hr j (by simp [hj])
    cases hi : inc l a k with
    | false =>
      rw [scanF_skip hi]
      exact scanF_mid hv hes hto rest o q hr' (h.skip (by simp [hi]))
    | true =>
      by_cases hn : at_ o (nxt l a k) < 0
      · rw [scanF_new hi hn]
        exact scanF_mid hv hes hto rest _ _ hr' (h.step hv hes (hr k (by simp)) hto hi hn)
      · rw [scanF_old hi hn]
        exact scanF_mid hv hes hto rest o q hr' (h.skip (fun _ => by omega))

theorem FarInv.open_ {n : Nat} {l : List (Int × Int)} {es : List Int} {tq a : Int} {o q : List Int} (h : FarInv n l es tq o (a :: q)) : FarMid n l es tq a es o q := by
  obtain ⟨a0, a1, a2⟩ := h.inq a (by simp)
  have hs := h.sorted
  rw [List.pairwise_cons] at hs
  refine ⟨h.len, ⟨a0, a1, a2⟩, fun x hx => ?_, hs.2, fun v v0 v1 => h.near v v0 v1 a (by simp), ?_, fun k hk hn => absurd hk hn, h.parent, h.start, h.bound⟩
  · obtain ⟨x0, x1, _⟩ := h.inq x (by simp [hx])
    exact ⟨x0, x1, hs.1 x hx⟩
  · intro v v0 v1 v2 v3 v4
    exact h.done v v0 v1 v2 (by simp [v3, v4])
theorem FarMid.close {n : Nat} {l : List (Int × Int)} {es : List Int} {tq a : Int} {o q : List Int} (hv : Valid n l) (hes : Within l es) (h : FarMid n l es tq a [] o q) : FarInv n l es tq o q := by
  obtain ⟨a0, a1, a2⟩ := h.ha
  refine ⟨h.len, fun x hx => ?_, h.sorted, fun v v0 v1 x hx => ?_, ?_, h.parent, h.start, h.bound⟩
  · obtain ⟨x0, x1, x2⟩ := h.inq x hx
    exact ⟨x0, x1, by omega⟩
  · have := h.near v v0 v1
    have := (h.inq x hx).2.2
    omega
  · intro v v0 v1 v2 v3 k hk hi
    by_cases hva : v = a
    · subst hva
      obtain ⟨k0, k1⟩ := hes k hk
      obtain ⟨t0, t1⟩ := nxt_ok hv k0 k1 hi
      exact ⟨h.some k hk (by simp) hi, h.near _ t0 t1⟩
    · exact h.done v v0 v1 v2 v3 hva k hk hi

theorem scanF_mu {l : List (Int × Int)} {a : Int} {n : Nat} (hv : Valid n l) : ∀ (es o q : List Int), Within l es → o.length = n → 0 ≤ at_ o a → (scanF l a es o q).2.length + neg (scanF l a es o q).1 = q.length + neg o
  | [], o, q, _, _, _ => rfl
  | k :: es, o, q, hes, hl, ha => by
    have hes' : Within l es := fun j hj => hes j (by simp [hj])
    cases hi : inc l a k with
    | false => rw [scanF_skip hi]; exact scanF_mu hv es o q hes' hl ha
    | true =>
      by_cases hn : at_ o (nxt l a k) < 0
      · obtain ⟨k0, k1⟩ := hes k (by simp)
        obtain ⟨t0, t1⟩ := nxt_ok hv k0 k1 hi
        have hneg := neg_set (o := o) (i := (nxt l a k).toNat) (m := at_ o a + 1) (by omega) (by omega) hn
        rw [scanF_new hi hn, scanF_mu hv es _ _ hes' (by simpa using hl)]
        · simp
          have : neg (o.set (nxt l a k).toNat (o.getD a.toNat 0 + 1)) + 1 = neg o := hneg
          simp at this
          omega
        · by_cases hat : nxt l a k = a
          · rw [hat] at hn; omega
          · unfold at_
            by_cases h2 : (nxt l a k).toNat = a.toNat
            · rw [h2]
              by_cases h3 : a.toNat < o.length
              · simp [h3]
                have : (0:Int) ≤ at_ o a := ha
                unfold at_ at this
                simp [h3] at this
                omega
              · rw [List.set_eq_of_length_le (by omega)]; exact ha
            · simp [List.getElem?_set_ne h2]
              have := ha
              unfold at_ at this
              simpa using this
      · rw [scanF_old hi hn]; exact scanF_mu hv es o q hes' hl ha

theorem bfsF_inv {n : Nat} {l : List (Int × Int)} {es : List Int} {tq : Int} (hv : Valid n l) (hes : Within l es) (hto : 0 ≤ tq ∧ tq < n) :
    ∀ (f : Nat) (o q : List Int), FarInv n l es tq o q → q.length + neg o < f → FarInv n l es tq (bfsF l es f o q) []
  | 0, _, _, _, h => by omega
  | f + 1, o, [], h, _ => h
  | f + 1, o, a :: q, h, hm => by
    rw [bfsF]
    have hm' := scanF_mu (a := a) hv es o q hes h.len (h.inq a (by simp)).2.2
    exact bfsF_inv hv hes hto f _ _ ((scanF_mid hv hes hto es o q (fun _ h => h) h.open_).close hv hes) (by simp at hm; omega)

theorem at_replicate {n : Nat} {v : Int} (h0 : 0 ≤ v) (h1 : v < n) : at_ (List.replicate n (-1)) v = -1 := by
  unfold at_
  have : v.toNat < n := by omega
  simp [this]
theorem neg_replicate (n : Nat) : neg (List.replicate n (-1)) = n := by simp [neg, List.countP_replicate]

theorem far_start_neg {n : Nat} {tq : Int} (h0 : 0 ≤ tq) (h1 : tq < n) : neg ((List.replicate n (-1)).set tq.toNat 0) + 1 = n := by
  have hneg := neg_set (o := List.replicate n (-1)) (i := tq.toNat) (m := 0) (by simp; omega) (by omega) (by have := at_replicate h0 h1; unfold at_ at this; omega)
  rwa [neg_replicate] at hneg
theorem far_start {n : Nat} {l : List (Int × Int)} {es : List Int} {tq : Int} (h0 : 0 ≤ tq) (h1 : tq < n) : FarInv n l es tq ((List.replicate n (-1)).set tq.toNat 0) [tq] := by
  have hS : ∀ v : Int, 0 ≤ v → v < n → at_ ((List.replicate n (-1)).set tq.toNat 0) v = if v = tq then 0 else -1 := fun v v0 v1 => by
    rw [at_set h0 (by simp; exact h1) v0, at_replicate v0 v1]
  have hto' := hS tq h0 h1
  rw [if_pos rfl] at hto'
  have hneg := far_start_neg h0 h1
  refine ⟨by simp, ?_, by simp, ?_, ?_, ?_, hto', ?_⟩
  · intro x hx; simp at hx; subst hx; exact ⟨h0, h1, by omega⟩
  · intro v v0 v1 x hx; simp at hx; subst hx
    rw [hS v v0 v1, hto']; split <;> omega
  · intro v v0 v1 v2 v3
    rw [hS v v0 v1, if_neg (by simpa using v3)] at v2; omega
  · intro v v0 v1 v2 v3
    rw [hS v v0 v1, if_neg v3] at v2; omega
  · intro v v0 v1
    rw [hS v v0 v1]; split <;> omega
/-- the distances -/
theorem far_inv {n : Nat} {l : List (Int × Int)} {es : List Int} {tq : Int} (hv : Valid n l) (hes : Within l es) (hto : 0 ≤ tq ∧ tq < n) : FarInv n l es tq (farL n l es tq) [] := by
  have := far_start_neg hto.1 hto.2
  exact bfsF_inv hv hes hto (n + 1) _ [tq] (far_start hto.1 hto.2) (by simp; omega)
end Go.Proofs.YtglbelmljdgaoaaGreatDoor
