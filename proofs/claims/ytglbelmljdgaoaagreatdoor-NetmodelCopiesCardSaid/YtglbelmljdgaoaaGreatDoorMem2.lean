/- More words for memory: append with what it leaves alone; slices of slices of ints. No program here. -/
import Derived.Test.YtglbelmljdgaoaaGreatDoorMem
namespace Go.Proofs.YtglbelmljdgaoaaGreatDoor
open Go.RowKit

/-- append to a row of the call's own, from whatever source -/
theorem run_append_rowG {P : Program} (w : World) (base : Nat) (t ty e : TypeId) (i : TypeInfo) (z : Value) (sz bytes : Nat) (ht : P.underlying t = some (.slice e)) (hi : P.info? e = some i) (hz : i.zero = some z)
    (hsize : i.size = sz) (hby : i.bytes = bytes) (hzs : z.cells.size = sz) (hsz : 0 < sz)
    (v : Value) (n : Nat) (xs : List Value) (hr : Row w base e sz v n xs)
    (B : Nat) (A : Option Addr) (m c : Nat) (news : List Value) (hs : Reads w B sz A m news) (h1 : ∀ u ∈ news, u.oneCell' = true)
    (h63 : n + m ≤ maxLen) (hbytes : (n + m) * bytes ≤ 140737488355328) (hbase : base ≤ w.heap.size) :
    ∃ v' w', (Builtin.append_ #[t, t] ty #[v, .slice A m c]).run P w = .ok v' w' ∧ Row w' base e sz v' (n + m) (xs ++ news) ∧ w.grownBy w' v.ownBlock := by
  rcases A with _ | ad
  · have hm : m = 0 := by
      rcases Nat.eq_zero_or_pos m with h0 | h0
      · exact h0
      · obtain ⟨b, off, h, _⟩ := hs.2 h0
        cases h
    subst hm
    have hn : news = [] := List.eq_nil_of_length_eq_zero (by simpa using hs.1)
    subst hn
    exact ⟨v, w, run_append_nothing w base t ty e i ht hi sz n v xs hr c, by simpa using hr, World.grownBy.refl w _⟩
  · have hcells : ∀ j u, news[j]? = some u → w.cell? (ad.add j) = some u := by
      intro j u hu
      rcases Nat.eq_zero_or_pos m with h0 | h0
      · subst h0
        have hn : news = [] := List.eq_nil_of_length_eq_zero (by simpa using hs.1)
        subst hn
        simp at hu
      · obtain ⟨b, off, h, _, hc⟩ := hs.2 h0
        injection h with h
        subst h
        rw [Addr.add_lit]
        exact hc j u hu
    rcases hr.2 with ⟨rfl, rfl⟩ | ⟨g, off, cap, cur, rfl, hbg, hg, hnc, hcm, hcs, htake⟩
    · have hx : xs = [] := List.eq_nil_of_length_eq_zero (by simpa using hr.1)
      subst hx
      obtain ⟨v', w', hrun, h2, h3, _⟩ := run_append_own (P := P) w base t ty e i z sz bytes ht hi hz hsize hby hzs hsz (.slice none 0 0) 0 [] (World.ownsRow_nil w _ e sz) ad m c news hs.1 hcells h1 h63 hbytes hbase
      exact ⟨v', w', hrun, Row.of_own h2, h3⟩
    · by_cases hroom : n + m ≤ cap
      · subst hsize
        have hle : (n + m) * i.size ≤ cap * i.size := Nat.mul_le_mul_right _ hroom
        rw [Nat.add_mul] at hle
        have hl := hs.1
        have hfit : off + n * i.size + news.length ≤ cur.size := by omega
        refine ⟨_, _, run_append_room_off w t ty e i ht hi g off n cap cur hg ad m c news hs.1 hcells h1 hroom hfit, ⟨by rw [List.length_append, hr.1, hl, Nat.add_mul], .inr ⟨g, off, cap, _, rfl, hbg, setRow_heap w g cur _ e _ hg, hroom, hcm, ?_, ?_⟩⟩, ?_⟩
        · simp only [List.size_toArray, List.length_append, List.length_take, List.length_drop, Array.length_toList]
          omega
        · simp only
          rw [Nat.add_mul, ← hl]
          have := room_list (m := news.length) htake hr.1 rfl (by simpa using hfit)
          exact this
        · exact ⟨rfl, rfl, rfl, by simp [World.setRow], fun k _ hk => setRow_other w g k _ (fun e => hk (by simp [Value.ownBlock, e]))⟩
      · have holds : ∀ j u, xs[j]? = some u → w.cell? ((⟨g, off, none⟩ : Addr).add j) = some u := by
          intro j u hu
          rw [Addr.add_lit, hg.cell]
          rw [← htake, List.getElem?_take] at hu
          split at hu
          · simpa using hu
          · cases hu
        obtain ⟨v', w', hrun, h2, h3⟩ := run_append_arg_grows (P := P) w t ty e i z sz bytes ht hi hz hsize hby hzs hsz ⟨g, off, none⟩ n cap xs hr.1 holds ad m c news hs.1 hcells (by omega) h63 hbytes
        exact ⟨v', w', hrun, (Row.of_own h2).less hbase, ⟨h3.os, h3.tape, h3.output, h3.size, fun k hk _ => h3.block k hk (by simp)⟩⟩

theorem wpList_append_rowG {P : Program} {w : World} {ops : Array Oper} {rest : List Oper} {o : Oper} {a : Act} {Q : Exit → Act → World → Prop} (hgd : o.guard = none) (s x : Operand) (t : TypeId)
    (ho : o.op = .call { callee := .builtin .append, args := #[s, x], argTypes := #[t, t] })
    (base : Nat) (e : TypeId) (i : TypeInfo) (z : Value) (sz bytes : Nat) (ht : P.underlying t = some (.slice e)) (hi : P.info? e = some i) (hz : i.zero = some z)
    (hsize : i.size = sz) (hby : i.bytes = bytes) (hzs : z.cells.size = sz) (hsz : 0 < sz)
    (v : Value) (n : Nat) (xs : List Value) (hsv : a.eval s = v) (hr : Row w base e sz v n xs)
    (B : Nat) (A : Option Addr) (m c : Nat) (news : List Value) (hx : a.eval x = .slice A m c) (hs : Reads w B sz A m news) (h1 : ∀ u ∈ news, u.oneCell' = true)
    (h63 : n + m ≤ maxLen) (hbytes : (n + m) * bytes ≤ 140737488355328) (hbase : base ≤ w.heap.size)
    (h : ∀ v' w', Row w' base e sz v' (n + m) (xs ++ news) → w.grownBy w' v.ownBlock → wpList P ops Q rest (a.put o.dst v') w') : wpList P ops Q (o :: rest) a w := by
  refine wpList_plain hgd fun K hK => ?_
  obtain ⟨v', w', hrun, h2, h3⟩ := run_append_rowG (P := P) w base t o.type e i z sz bytes ht hi hz hsize hby hzs hsz v n xs hr B A m c news hs h1 h63 hbytes hbase
  unfold Oper.wp execOp
  simp only [ho, resolve, invoke, builtin, Sem.run_bind, Sem.run_pure, Result.andThen_ok, List.map_toArray, List.map_cons, List.map_nil, hsv, hx, hrun]
  exact hK _ _ (h v' w' h2 h3)


section
variable {w w' : World} {base : Nat} {e e' : TypeId} {sz sz' : Nat} {v u : Value} {n m : Nat} {xs ys : List Value}
/-- a row of another element type is left alone -/
theorem Row.apart (h : Row w base e sz v n xs) (hu : Row w base e' sz' u m ys) (hne : e ≠ e') (hg : w.grownBy w' u.ownBlock) : Row w' base e sz v n xs := by
  obtain ⟨h1, h2⟩ := h
  refine ⟨h1, h2.imp id ?_⟩
  rintro ⟨g, off, cap, cur, hv, hb, hh, r⟩
  refine ⟨g, off, cap, cur, hv, hb, (hg.block g hh.lt ?_).trans hh, r⟩
  rcases hu.2 with ⟨rfl, _⟩ | ⟨g', off', cap', cur', rfl, _, hh', _⟩
  · simp [Value.ownBlock]
  · intro he
    have hgg : g = g' := by simpa [Value.ownBlock] using he
    subst hgg
    unfold Blk at hh hh'
    rw [hh] at hh'
    injection hh' with hh'
    injection hh' with _ ht
    exact hne ht
theorem Row.belowG (hu : Row w base e sz u m ys) (hg : w.grownBy w' u.ownBlock) (hbase : base ≤ w.heap.size) : Below base w w' := by
  refine (Below.refl base w).grown hg hbase ?_
  intro k hk
  rcases hu.2 with ⟨rfl, _⟩ | ⟨g', off', cap', cur', rfl, hb, _⟩
  · simp [Value.ownBlock] at hk
  · simp [Value.ownBlock] at hk; omega
end

/-- a row of rows of ints: T the type of the rows -/
def Rows2 (w : World) (base : Nat) (T E : TypeId) (v : Value) (ys : List (List Int)) : Prop :=
  ∃ vs : List Value, Row w base T 1 v ys.length vs ∧ ∀ i (hi : i < ys.length) u, vs[i]? = some u → Row w base E 1 u ys[i].length (ys[i].map I)
theorem Rows2.nil (w : World) (base : Nat) (T E : TypeId) : Rows2 w base T E (.slice none 0 0) [] := ⟨[], Row.nil _ _ _ _, fun i hi => by simp at hi⟩
theorem Rows2.call {w w' : World} {base : Nat} {T E : TypeId} {v : Value} {ys : List (List Int)} (h : Rows2 w base T E v ys) (hb : Below w.heap.size w w') : Rows2 w' base T E v ys := by
  obtain ⟨vs, h1, h2⟩ := h
  exact ⟨vs, h1.call hb, fun i hi u hu => (h2 i hi u hu).call hb⟩
theorem Rows2.less {w : World} {base base' : Nat} {T E : TypeId} {v : Value} {ys : List (List Int)} (h : Rows2 w base T E v ys) (hb : base' ≤ base) : Rows2 w base' T E v ys := by
  obtain ⟨vs, h1, h2⟩ := h
  exact ⟨vs, h1.less hb, fun i hi u hu => (h2 i hi u hu).less hb⟩
theorem Rows2.snoc {w w' : World} {base : Nat} {T E : TypeId} {v v' u : Value} {ys : List (List Int)} {y : List Int} {vs : List Value} (hTE : E ≠ T) (h1 : Row w base T 1 v ys.length vs) (h2 : ∀ i (hi : i < ys.length) x, vs[i]? = some x → Row w base E 1 x ys[i].length (ys[i].map I))
    (hu : Row w base E 1 u y.length (y.map I)) (hr : Row w' base T 1 v' (ys.length + 1) (vs ++ [u])) (hg : w.grownBy w' v.ownBlock) : Rows2 w' base T E v' (ys ++ [y]) := by
  have hl : vs.length = ys.length := by have := h1.1; omega
  refine ⟨vs ++ [u], by simpa using hr, fun i hi x hx => ?_⟩
  by_cases hlt : i < ys.length
  · rw [List.getElem?_append_left (by omega)] at hx
    rw [List.getElem_append_left hlt]
    exact (h2 i hlt x hx).apart h1 hTE hg
  · have hi' : i = ys.length := by simp at hi; omega
    subst hi'
    rw [List.getElem?_append_right (by omega), hl] at hx
    simp at hx
    subst hx
    simp
    exact hu.apart h1 hTE hg
end Go.Proofs.YtglbelmljdgaoaaGreatDoor
