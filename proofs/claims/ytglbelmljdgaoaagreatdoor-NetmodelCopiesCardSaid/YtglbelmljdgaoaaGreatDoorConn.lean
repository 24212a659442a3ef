/- Ways in a graph; what the distances and the numbers of the components say. No program here. -/
import Derived.Test.YtglbelmljdgaoaaGreatDoorFar
namespace Go.Proofs.YtglbelmljdgaoaaGreatDoor

/-- a way of m edges of S -/
inductive Walk (l : List (Int × Int)) (S : Int → Prop) : Nat → Int → Int → Prop
  | nil (u : Int) : Walk l S 0 u u
  | cons {m : Nat} {u v : Int} (k : Int) (hk : S k) (hi : inc l u k = true) (h : Walk l S m (nxt l u k) v) : Walk l S (m + 1) u v
def Conn (l : List (Int × Int)) (S : Int → Prop) (u v : Int) : Prop := ∃ m, Walk l S m u v

section
variable {l : List (Int × Int)} {S T : Int → Prop} {u v x : Int} {m j : Nat}
theorem Walk.trans (h : Walk l S m u v) (h2 : Walk l S j v x) : Walk l S (m + j) u x := by
  induction h with
  | nil => simpa using h2
  | cons k hk hi h ih => rw [Nat.add_right_comm]; exact .cons k hk hi (ih h2)
theorem Walk.one (k : Int) (hk : S k) (hi : inc l u k = true) : Walk l S 1 u (nxt l u k) := .cons k hk hi (.nil _)
theorem Walk.back1 (k : Int) (hk : S k) (hi : inc l u k = true) : Walk l S 1 (nxt l u k) u := by
  have := Walk.one (l := l) (S := S) (u := nxt l u k) k hk (inc_nxt hi)
  rwa [nxt_nxt] at this
theorem Walk.symm (h : Walk l S m u v) : Walk l S m v u := by
  induction h with
  | nil => exact .nil _
  | cons k hk hi h ih => exact ih.trans (Walk.back1 k hk hi)
theorem Walk.mono (h : Walk l S m u v) (hS : ∀ k, S k → T k) : Walk l T m u v := by
  induction h with
  | nil => exact .nil _
  | cons k hk hi h ih => exact .cons k (hS k hk) hi ih
theorem Conn.refl (l : List (Int × Int)) (S : Int → Prop) (u : Int) : Conn l S u u := ⟨0, .nil u⟩
theorem Conn.symm (h : Conn l S u v) : Conn l S v u := h.imp fun _ h => h.symm
theorem Conn.trans (h : Conn l S u v) (h2 : Conn l S v x) : Conn l S u x := by
  obtain ⟨m, h⟩ := h
  obtain ⟨j, h2⟩ := h2
  exact ⟨_, h.trans h2⟩
theorem Conn.edge (k : Int) (hk : S k) (hi : inc l u k = true) : Conn l S u (nxt l u k) := ⟨1, Walk.one k hk hi⟩
theorem Conn.mono (h : Conn l S u v) (hS : ∀ k, S k → T k) : Conn l T u v := h.imp fun _ h => h.mono hS
/-- a property that edges keep is kept by ways -/
theorem Conn.keep (h : Conn l S u v) (P : Int → Prop) (hP : ∀ a k, P a → S k → inc l a k = true → P (nxt l a k)) (hu : P u) : P v := by
  obtain ⟨m, h⟩ := h
  induction h with
  | nil => exact hu
  | cons k hk hi h ih => exact ih (hP _ _ hu hk hi)
end

/-! ### the distances -/
section
variable {n : Nat} {l : List (Int × Int)} {es : List Int} {tq : Int} {far : List Int}
theorem far_walk (hv : Valid n l) (hes : Within l es) (h : FarInv n l es tq far []) : ∀ (d : Nat) (v : Int), 0 ≤ v → v < n → at_ far v = d → Walk l (· ∈ es) d v tq
  | 0, v, v0, v1, hd => by
    by_cases e : v = tq
    · subst e; exact .nil _
    · obtain ⟨k, _, _, p1, p2⟩ := h.parent v v0 v1 (by omega) e
      omega
  | d + 1, v, v0, v1, hd => by
    by_cases e : v = tq
    · subst e
      have := h.start
      omega
    · obtain ⟨k, hk, hi, p1, p2⟩ := h.parent v v0 v1 (by omega) e
      obtain ⟨k0, k1⟩ := hes k hk
      obtain ⟨t0, t1⟩ := nxt_ok hv k0 k1 hi
      exact .cons k hk hi (far_walk hv hes h d _ t0 t1 (by omega))
theorem walk_far (hv : Valid n l) (hes : Within l es) (h : FarInv n l es tq far []) {m : Nat} {v x : Int} (hw : Walk l (· ∈ es) m v x) (hx : x = tq) : 0 ≤ v → v < n → 0 ≤ at_ far v ∧ at_ far v ≤ m := by
  induction hw with
  | nil u => intro v0 v1; subst hx; have := h.start; omega
  | @cons m u w k hk hi hh ih =>
    intro v0 v1
    obtain ⟨k0, k1⟩ := hes k hk
    obtain ⟨t0, t1⟩ := nxt_ok hv k0 k1 hi
    obtain ⟨i1, i2⟩ := ih hx t0 t1
    have := h.done _ t0 t1 i1 (by simp) k hk (inc_nxt hi)
    rw [nxt_nxt] at this
    omega
/-- there is a distance exactly within a component -/
theorem far_conn (hv : Valid n l) (hes : Within l es) (hto : 0 ≤ tq ∧ tq < n) {v : Int} (hv0 : 0 ≤ v ∧ v < n) : 0 ≤ at_ (farL n l es tq) v ↔ Conn l (· ∈ es) v tq := by
  have h := far_inv hv hes hto
  constructor
  · intro h0
    exact ⟨_, far_walk hv hes h (at_ (farL n l es tq) v).toNat v hv0.1 hv0.2 (by omega)⟩
  · rintro ⟨m, hw⟩
    exact (walk_far hv hes h hw rfl hv0.1 hv0.2).1
theorem far_symm (hv : Valid n l) (hes : Within l es) {a b : Int} (ha : 0 ≤ a ∧ a < n) (hb : 0 ≤ b ∧ b < n) (h : 0 ≤ at_ (farL n l es b) a) : at_ (farL n l es a) b = at_ (farL n l es b) a := by
  have ia := far_inv hv hes ha
  have ib := far_inv hv hes hb
  have w1 := far_walk hv hes ib (at_ (farL n l es b) a).toNat a ha.1 ha.2 (by omega)
  have q1 := walk_far hv hes ia w1.symm rfl hb.1 hb.2
  have w2 := far_walk hv hes ia (at_ (farL n l es a) b).toNat b hb.1 hb.2 (by omega)
  have q2 := walk_far hv hes ib w2.symm rfl ha.1 ha.2
  omega
end

/-! ### the numbers of the components -/
/-- the edges of l but wo -/
def But (l : List (Int × Int)) (wo : Int) (k : Int) : Prop := 0 ≤ k ∧ k < l.length ∧ k ≠ wo

structure NumO (n : Nat) (l : List (Int × Int)) (wo : Int) (i : Nat) (m : Int) (o : List Int) : Prop where
  len : o.length = n
  least : ∀ v : Int, 0 ≤ v → v < n → -1 ≤ at_ o v
  le : ∀ v : Int, 0 ≤ v → v < n → at_ o v < m
  low : ∀ v : Int, 0 ≤ v → v < i → 0 ≤ at_ o v
  starts : ∀ c : Int, 0 ≤ c → c < m → ∃ u : Int, 0 ≤ u ∧ u < i ∧ at_ o u = c
  rg : ∀ v : Int, 0 ≤ v → v < n → ∀ c : Int, 0 ≤ c → c < at_ o v → ∃ u : Int, 0 ≤ u ∧ u < v ∧ at_ o u = c
  done : ∀ v : Int, 0 ≤ v → v < n → 0 ≤ at_ o v → ∀ k, But l wo k → inc l v k = true → at_ o (nxt l v k) = at_ o v
  conn : ∀ u v : Int, 0 ≤ u → u < n → 0 ≤ v → v < n → 0 ≤ at_ o u → at_ o u = at_ o v → Conn l (But l wo) u v

structure NumM (n : Nat) (l : List (Int × Int)) (wo : Int) (i : Nat) (m : Int) (o q : List Int) : Prop where
  len : o.length = n
  inq : ∀ x ∈ q, 0 ≤ x ∧ x < n ∧ at_ o x = m
  least : ∀ v : Int, 0 ≤ v → v < n → -1 ≤ at_ o v
  le : ∀ v : Int, 0 ≤ v → v < n → at_ o v ≤ m
  low : ∀ v : Int, 0 ≤ v → v ≤ i → 0 ≤ at_ o v
  starts : ∀ c : Int, 0 ≤ c → c < m → ∃ u : Int, 0 ≤ u ∧ u < i ∧ at_ o u = c
  rg : ∀ v : Int, 0 ≤ v → v < n → ∀ c : Int, 0 ≤ c → c < at_ o v → ∃ u : Int, 0 ≤ u ∧ u < v ∧ at_ o u = c
  done : ∀ v : Int, 0 ≤ v → v < n → 0 ≤ at_ o v → v ∉ q → ∀ k, But l wo k → inc l v k = true → at_ o (nxt l v k) = at_ o v
  conn : ∀ u v : Int, 0 ≤ u → u < n → 0 ≤ v → v < n → 0 ≤ at_ o u → at_ o u = at_ o v → Conn l (But l wo) u v

structure NumA (n : Nat) (l : List (Int × Int)) (wo : Int) (i : Nat) (m a : Int) (j : Nat) (o q : List Int) : Prop where
  len : o.length = n
  ha : 0 ≤ a ∧ a < n ∧ at_ o a = m
  hm : 0 ≤ m
  inq : ∀ x ∈ q, 0 ≤ x ∧ x < n ∧ at_ o x = m
  least : ∀ v : Int, 0 ≤ v → v < n → -1 ≤ at_ o v
  le : ∀ v : Int, 0 ≤ v → v < n → at_ o v ≤ m
  low : ∀ v : Int, 0 ≤ v → v ≤ i → 0 ≤ at_ o v
  starts : ∀ c : Int, 0 ≤ c → c < m → ∃ u : Int, 0 ≤ u ∧ u < i ∧ at_ o u = c
  rg : ∀ v : Int, 0 ≤ v → v < n → ∀ c : Int, 0 ≤ c → c < at_ o v → ∃ u : Int, 0 ≤ u ∧ u < v ∧ at_ o u = c
  done : ∀ v : Int, 0 ≤ v → v < n → 0 ≤ at_ o v → v ∉ q → v ≠ a → ∀ k, But l wo k → inc l v k = true → at_ o (nxt l v k) = at_ o v
  some : ∀ k : Int, But l wo k → k < j → inc l a k = true → at_ o (nxt l a k) = m
  conn : ∀ u v : Int, 0 ≤ u → u < n → 0 ≤ v → v < n → 0 ≤ at_ o u → at_ o u = at_ o v → Conn l (But l wo) u v

section
variable {n : Nat} {l : List (Int × Int)} {wo m a : Int} {i j : Nat} {o q : List Int}
theorem NumA.seen (h : NumA n l wo i m a j o q) (hv : Valid n l) {k : Int} (hb : But l wo k) (hi : inc l a k = true) (h0 : 0 ≤ at_ o (nxt l a k)) : at_ o (nxt l a k) = m := by
  obtain ⟨t0, t1⟩ := nxt_ok hv hb.1 hb.2.1 hi
  by_cases hq : nxt l a k ∈ q
  · exact (h.inq _ hq).2.2
  · by_cases ha : nxt l a k = a
    · rw [ha]; exact h.ha.2.2
    · have := h.done _ t0 t1 h0 hq ha k hb (inc_nxt hi)
      rw [nxt_nxt, h.ha.2.2] at this
      exact this.symm
theorem NumA.skip (h : NumA n l wo i m a j o q) (hs : ∀ k : Int, But l wo k → k = j → inc l a k = true → at_ o (nxt l a k) = m) : NumA n l wo i m a (j + 1) o q := by
  refine ⟨h.len, h.ha, h.hm, h.inq, h.least, h.le, h.low, h.starts, h.rg, h.done, ?_, h.conn⟩
  intro k hb hk hi
  by_cases e : k = j
  · exact hs k hb e hi
  · exact h.some k hb (by omega) hi
theorem NumA.new (h : NumA n l wo i m a j o q) (hv : Valid n l) (hb : But l wo j) (hi : inc l a j = true) (hn : at_ o (nxt l a j) < 0) : NumA n l wo i m a (j + 1) (o.set (nxt l a j).toNat m) (q ++ [nxt l a j]) := by
  obtain ⟨t0, t1⟩ := nxt_ok hv hb.1 hb.2.1 hi
  obtain ⟨ha0, ha1, ha2⟩ := h.ha
  have hm := h.hm
  have hlen := h.len
  have hS : ∀ v, 0 ≤ v → at_ (o.set (nxt l a j).toNat m) v = if v = nxt l a j then m else at_ o v := fun v hv0 => at_set t0 (by omega) hv0
  have hold : ∀ v, 0 ≤ v → 0 ≤ at_ o v → at_ (o.set (nxt l a j).toNat m) v = at_ o v := fun v hv0 hv1 => by rw [hS v hv0, if_neg]; rintro rfl; omega
  have hSa := hold a ha0 (by omega)
  refine ⟨by simpa using hlen, ⟨ha0, ha1, by rw [hSa]; exact ha2⟩, hm, ?_, ?_, ?_, ?_, ?_, ?_, ?_, ?_, ?_⟩
  · intro x hx
    rcases List.mem_append.1 hx with hx | hx
    · obtain ⟨x0, x1, x2⟩ := h.inq x hx
      exact ⟨x0, x1, by rw [hold x x0 (by omega)]; exact x2⟩
    · simp at hx; subst hx
      exact ⟨t0, t1, by rw [hS _ t0, if_pos rfl]⟩
  · intro v v0 v1; rw [hS v v0]; split
    · omega
    · exact h.least v v0 v1
  · intro v v0 v1; rw [hS v v0]; split
    · omega
    · exact h.le v v0 v1
  · intro v v0 v1; rw [hold v v0 (h.low v v0 v1)]; exact h.low v v0 v1
  · intro c c0 c1
    obtain ⟨u, u0, u1, u2⟩ := h.starts c c0 c1
    exact ⟨u, u0, u1, by rw [hold u u0 (by omega)]; exact u2⟩
  · intro v v0 v1 c c0 c1
    rw [hS v v0] at c1
    split at c1
    · rename_i e
      subst e
      obtain ⟨u, u0, u1, u2⟩ := h.starts c c0 c1
      have hlow := fun hle => h.low (nxt l a j) t0 hle
      refine ⟨u, u0, ?_, by rw [hold u u0 (by omega)]; exact u2⟩
      by_cases hle : nxt l a j ≤ i
      · have := hlow hle; omega
      · omega
    · obtain ⟨u, u0, u1, u2⟩ := h.rg v v0 v1 c c0 c1
      exact ⟨u, u0, u1, by rw [hold u u0 (by omega)]; exact u2⟩
  · intro v v0 v1 v2 v3 v4 k hk hik
    have hvt : v ≠ nxt l a j := fun e => v3 (by simp [e])
    rw [hS v v0, if_neg hvt] at v2 ⊢
    have := h.done v v0 v1 v2 (fun hm => v3 (by simp [hm])) v4 k hk hik
    rw [hold _ (nxt_ok hv hk.1 hk.2.1 hik).1 (by omega)]
    exact this
  · intro k hk hkj hik
    by_cases e : k = j
    · subst e; rw [hS _ t0, if_pos rfl]
    · have := h.some k hk (by omega) hik
      rw [hold _ (nxt_ok hv hk.1 hk.2.1 hik).1 (by omega)]; exact this
  · have hta : Conn l (But l wo) a (nxt l a j) := Conn.edge j hb hi
    have key : ∀ x : Int, 0 ≤ x → x < n → at_ (o.set (nxt l a j).toNat m) x = m → Conn l (But l wo) a x := by
      intro x x0 x1 x2
      rw [hS x x0] at x2
      split at x2
      · rename_i e; subst e; exact hta
      · exact h.conn a x ha0 ha1 x0 x1 (by omega) (by omega)
    intro u v u0 u1 v0 v1 h0 huv
    by_cases hu : at_ (o.set (nxt l a j).toNat m) u = m
    · exact (key u u0 u1 hu).symm.trans (key v v0 v1 (by omega))
    · have hut : u ≠ nxt l a j := fun e => hu (by rw [e, hS _ t0, if_pos rfl])
      have hvt : v ≠ nxt l a j := fun e => hu (by rw [huv, e, hS _ t0, if_pos rfl])
      rw [hS u u0, if_neg hut] at h0 huv
      rw [hS v v0, if_neg hvt] at huv
      exact h.conn u v u0 u1 v0 v1 h0 huv

theorem edge_at {j : Nat} (hj : j < l.length) : edgeAt l j = l[j] := by simp [edgeAt, hj]
theorem scan_num (hv : Valid n l) : ∀ (r j : Nat) (o q : List Int), j + r = l.length → NumA n l wo i m a j o q → NumA n l wo i m a l.length (scan wo m a j (l.drop j) o q).1 (scan wo m a j (l.drop j) o q).2
  | 0, j, o, q, hj, h => by
    rw [List.drop_of_length_le (by omega), scan]
    simp at hj
    rw [hj] at h; exact h
  | r + 1, j, o, q, hj, h => by
    have hlt : j < l.length := by omega
    have he := edge_at hlt
    have hinc : inc l a j = true ↔ (l[j].1 = a ∨ l[j].2 = a) := by rw [inc_iff, he]
    have hnx : nxt l a j = l[j].1 + l[j].2 - a := by rw [nxt, he]
    rw [List.drop_eq_getElem_cons hlt]
    by_cases hs : (j : Int) = wo ∨ (l[j].1 ≠ a ∧ l[j].2 ≠ a)
    · rw [scan_skip hs]
      exact scan_num hv r (j + 1) o q (by omega) (h.skip (by
        intro k hb hk hi
        subst hk
        rw [hinc] at hi
        have := hb.2.2
        omega))
    · have hb : But l wo j := ⟨by omega, by omega, by omega⟩
      have hi : inc l a j = true := by rw [hinc]; omega
      by_cases hn : o.getD (l[j].1 + l[j].2 - a).toNat 0 < 0
      · rw [scan_new hs hn, ← hnx]
        rw [← hnx] at hn
        exact scan_num hv r (j + 1) _ _ (by omega) (h.new hv hb hi hn)
      · rw [scan_old hs hn]
        rw [← hnx] at hn
        exact scan_num hv r (j + 1) o q (by omega) (h.skip (by
          intro k hb' hk hi'
          subst hk
          exact h.seen hv hb' hi' (by unfold at_; omega)))

theorem scan_mu (hv : Valid n l) (hm : 0 ≤ m) (ha : 0 ≤ a ∧ a < n) : ∀ (r j : Nat) (o q : List Int), j + r = l.length → o.length = n → (scan wo m a j (l.drop j) o q).2.length + neg (scan wo m a j (l.drop j) o q).1 = q.length + neg o
  | 0, j, o, q, hj, h => by rw [List.drop_of_length_le (by omega), scan]
  | r + 1, j, o, q, hj, h => by
    have hlt : j < l.length := by omega
    have hval := hv l[j] (List.getElem_mem hlt)
    rw [List.drop_eq_getElem_cons hlt]
    by_cases hs : (j : Int) = wo ∨ (l[j].1 ≠ a ∧ l[j].2 ≠ a)
    · rw [scan_skip hs]; exact scan_mu hv hm ha r (j + 1) o q (by omega) h
    · by_cases hn : o.getD (l[j].1 + l[j].2 - a).toNat 0 < 0
      · rw [scan_new hs hn]
        have h1 := scan_mu hv hm ha r (j + 1) (o.set (l[j].1 + l[j].2 - a).toNat m) (q ++ [l[j].1 + l[j].2 - a]) (by omega) (by simpa using h)
        have h2 := neg_set (o := o) (i := (l[j].1 + l[j].2 - a).toNat) (m := m) (by omega) hm hn
        simp at h1 h2 ⊢
        omega
      · rw [scan_old hs hn]; exact scan_mu hv hm ha r (j + 1) o q (by omega) h

theorem NumM.open_ (h : NumM n l wo i m o (a :: q)) (hm : 0 ≤ m) : NumA n l wo i m a 0 o q := by
  refine ⟨h.len, h.inq a (by simp), hm, fun x hx => h.inq x (by simp [hx]), h.least, h.le, h.low, h.starts, h.rg, ?_, fun k hb hk => by have := hb.1; omega, h.conn⟩
  intro v v0 v1 v2 v3 v4
  exact h.done v v0 v1 v2 (by simp [v3, v4])
theorem NumA.close (h : NumA n l wo i m a l.length o q) : NumM n l wo i m o q := by
  refine ⟨h.len, h.inq, h.least, h.le, h.low, h.starts, h.rg, ?_, h.conn⟩
  intro v v0 v1 v2 v3 k hb hi
  by_cases e : v = a
  · subst e
    rw [h.some k hb hb.2.1 hi, h.ha.2.2]
  · exact h.done v v0 v1 v2 v3 e k hb hi
theorem bfs_num (hv : Valid n l) (hm : 0 ≤ m) : ∀ (f : Nat) (o q : List Int), q.length + neg o < f → NumM n l wo i m o q → NumM n l wo i m (bfs l wo m f o q) []
  | 0, _, _, h, _ => by omega
  | f + 1, o, [], _, h => h
  | f + 1, o, a :: q, hf, h => by
    rw [bfs]
    have h1 := scan_num hv l.length 0 o q (by omega) (h.open_ hm)
    have h2 := scan_mu (wo := wo) hv hm ⟨(h.inq a (by simp)).1, (h.inq a (by simp)).2.1⟩ l.length 0 o q (by omega) h.len
    simp only [List.drop_zero, Int.natCast_zero] at h1 h2
    exact bfs_num hv hm f _ _ (by simp at hf; omega) h1.close

theorem NumO.begin (h : NumO n l wo i m o) (hi : i < n) (hm : 0 ≤ m) (hneg : at_ o i < 0) : NumM n l wo i m (o.set i m) [(i : Int)] := by
  have hlen := h.len
  have hS : ∀ v : Int, 0 ≤ v → at_ (o.set i m) v = if v = i then m else at_ o v := fun v hv0 => by
    have := at_set (o := o) (t := (i : Int)) (v := v) (m := m) (by omega) (by omega) hv0
    simpa using this
  have hold : ∀ v : Int, 0 ≤ v → 0 ≤ at_ o v → at_ (o.set i m) v = at_ o v := fun v hv0 hv1 => by rw [hS v hv0, if_neg]; rintro rfl; omega
  refine ⟨by simpa using hlen, ?_, ?_, ?_, ?_, ?_, ?_, ?_, ?_⟩
  · intro x hx; simp at hx; subst hx; exact ⟨by omega, by omega, by rw [hS _ (by omega), if_pos rfl]⟩
  · intro v v0 v1; rw [hS v v0]; split
    · omega
    · exact h.least v v0 v1
  · intro v v0 v1; rw [hS v v0]; split
    · omega
    · have := h.le v v0 v1; omega
  · intro v v0 v1; rw [hS v v0]; split
    · omega
    · exact h.low v v0 (by omega)
  · intro c c0 c1
    obtain ⟨u, u0, u1, u2⟩ := h.starts c c0 c1
    exact ⟨u, u0, u1, by rw [hold u u0 (by omega)]; exact u2⟩
  · intro v v0 v1 c c0 c1
    rw [hS v v0] at c1
    split at c1
    · obtain ⟨u, u0, u1, u2⟩ := h.starts c c0 c1
      exact ⟨u, u0, by omega, by rw [hold u u0 (by omega)]; exact u2⟩
    · obtain ⟨u, u0, u1, u2⟩ := h.rg v v0 v1 c c0 c1
      exact ⟨u, u0, u1, by rw [hold u u0 (by omega)]; exact u2⟩
  · intro v v0 v1 v2 v3 k hk hik
    have hvi : v ≠ i := by simpa using v3
    rw [hS v v0, if_neg hvi] at v2 ⊢
    have := h.done v v0 v1 v2 k hk hik
    by_cases hx : 0 ≤ nxt l v k
    · rw [hold _ hx (by omega)]; exact this
    · have e0 : (nxt l v k).toNat = 0 := by omega
      have hva : at_ (o.set i m) (nxt l v k) = at_ (o.set i m) 0 := by unfold at_; rw [e0]; rfl
      have hvb : at_ o (nxt l v k) = at_ o 0 := by unfold at_; rw [e0]; rfl
      rw [hva, hold 0 (by omega) (by omega), ← hvb]; exact this
  · intro u v u0 u1 v0 v1 h0 huv
    rw [hS u u0] at h0 huv
    rw [hS v v0] at huv
    split at huv
    · rename_i e1
      split at huv
      · rename_i e2; subst e1; subst e2; exact Conn.refl _ _ _
      · have := h.le v v0 v1; omega
    · rename_i e1
      rw [if_neg e1] at h0
      split at huv
      · have := h.le u u0 u1; omega
      · exact h.conn u v u0 u1 v0 v1 h0 huv
theorem NumM.finish (h : NumM n l wo i m o []) (hm : 0 ≤ m) (_hi : i < n) (hmi : at_ o i = m) : NumO n l wo (i + 1) (m + 1) o := by
  refine ⟨h.len, h.least, fun v v0 v1 => by have := h.le v v0 v1; omega, fun v v0 v1 => h.low v v0 (by omega), ?_, h.rg, fun v v0 v1 v2 => h.done v v0 v1 v2 (by simp), h.conn⟩
  intro c c0 c1
  by_cases e : c = m
  · subst e; exact ⟨i, by omega, by omega, hmi⟩
  · obtain ⟨u, u0, u1, u2⟩ := h.starts c c0 (by omega)
    exact ⟨u, u0, by omega, u2⟩
theorem scan_keep (m' : Int) (x : Int) (hx : 0 ≤ m') : ∀ (k : Int) (l' : List (Int × Int)) (o q : List Int), at_ o x = m' → 0 ≤ at_ o x → (∀ y : Int, y.toNat = x.toNat → at_ o y = at_ o x) → at_ (scan wo m a k l' o q).1 x = m'
  | k, [], o, q, h, _, _ => h
  | k, e :: l', o, q, h, h0, hy => by
    rw [scan]
    split
    · exact scan_keep m' x hx _ l' o q h h0 hy
    · split
      · rename_i hn
        have hne : (e.1 + e.2 - a).toNat ≠ x.toNat := fun e1 => by
          have := hy _ e1
          unfold at_ at this h0
          omega
        have hset : ∀ y : Int, y.toNat = x.toNat → at_ (o.set (e.1 + e.2 - a).toNat m) y = at_ o y := fun y e1 => by
          unfold at_
          rw [e1]
          simp [List.getElem?_set_ne hne]
        exact scan_keep m' x hx _ l' _ _ (by rw [hset x rfl]; exact h) (by rw [hset x rfl]; exact h0) (fun y e1 => by rw [hset y e1, hset x rfl]; exact hy y e1)
      · exact scan_keep m' x hx _ l' o q h h0 hy
theorem bfs_keep (m' : Int) (x : Int) (hx : 0 ≤ m') : ∀ (f : Nat) (o q : List Int), at_ o x = m' → at_ (bfs l wo m f o q) x = m'
  | 0, _, _, h => h
  | f + 1, o, [], h => h
  | f + 1, o, a :: q, h => by
    rw [bfs]
    exact bfs_keep m' x hx f _ _ (scan_keep m' x hx 0 l o q h (by omega) (fun y e => by unfold at_; rw [e]))

theorem outer_num (hv : Valid n l) : ∀ (r i : Nat) (m : Int) (o : List Int), i + r = n → 0 ≤ m → NumO n l wo i m o → ∃ m', NumO n l wo n m' (outer l wo n r i m o)
  | 0, i, m, o, hi, hm, h => by
    have hin : i = n := by omega
    subst hin; exact ⟨m, by rw [outer]; exact h⟩
  | r + 1, i, m, o, hi, hm, h => by
    rw [outer]
    split
    · rename_i hn
      have hn' : at_ o i < 0 := by unfold at_; simpa using hn
      have h1 := h.begin (by omega) hm hn'
      have hneg := neg_set (o := o) (i := i) (m := m) (by rw [h.len]; omega) hm hn
      have hle := neg_le o
      rw [h.len] at hle
      have h2 := bfs_num hv hm (n + 1) _ _ (by simp; omega) h1
      have h3 : at_ (bfs l wo m (n + 1) (o.set i m) [(i : Int)]) i = m := bfs_keep m i hm (n + 1) _ _ (h1.inq i (by simp)).2.2
      exact outer_num hv r (i + 1) (m + 1) _ (by omega) (by omega) (h2.finish hm (by omega) h3)
    · rename_i hn
      have hn' : 0 ≤ at_ o i := by unfold at_; simp at hn ⊢; omega
      exact outer_num hv r (i + 1) m o (by omega) hm ⟨h.len, h.least, h.le, fun v v0 v1 => by
        by_cases e : v = i
        · subst e; exact hn'
        · exact h.low v v0 (by omega), fun c c0 c1 => by
        obtain ⟨u, u0, u1, u2⟩ := h.starts c c0 c1
        exact ⟨u, u0, by omega, u2⟩, h.rg, h.done, h.conn⟩

theorem parts_num (hv : Valid n l) : ∃ m', NumO n l wo n m' (parts n l wo) := by
  refine outer_num hv n 0 0 _ (by omega) (by omega) ⟨by simp, fun v v0 v1 => by rw [at_replicate v0 v1]; omega, fun v v0 v1 => by rw [at_replicate v0 v1]; omega, fun v v0 v1 => by omega, fun c c0 c1 => by omega, fun v v0 v1 c c0 c1 => by rw [at_replicate v0 v1] at c1; omega, fun v v0 v1 v2 => by rw [at_replicate v0 v1] at v2; omega, fun u v u0 u1 v0 v1 h0 => by rw [at_replicate u0 u1] at h0; omega⟩

/-- the numbers tell the components -/
theorem parts_conn (hv : Valid n l) {u v : Int} (hu : 0 ≤ u ∧ u < n) (hv' : 0 ≤ v ∧ v < n) : at_ (parts n l wo) u = at_ (parts n l wo) v ↔ Conn l (But l wo) u v := by
  obtain ⟨m', h⟩ := parts_num (wo := wo) hv
  constructor
  · intro e
    exact h.conn u v hu.1 hu.2 hv'.1 hv'.2 (h.low u hu.1 hu.2) e
  · intro hc
    have := hc.keep (fun x => 0 ≤ x ∧ x < n ∧ at_ (parts n l wo) x = at_ (parts n l wo) u) (fun b k ⟨b0, b1, b2⟩ hk hi => by
      obtain ⟨t0, t1⟩ := nxt_ok hv hk.1 hk.2.1 hi
      exact ⟨t0, t1, (h.done b b0 b1 (h.low b b0 b1) k hk hi).trans b2⟩) ⟨hu.1, hu.2, rfl⟩
    exact this.2.2.symm
end
end Go.Proofs.YtglbelmljdgaoaaGreatDoor
