/- station.Busbars: words for slices of slices of strings; the plain function. -/
import Derived.Test.YtphiiflcpeploaaNames
namespace Go.Proofs.Ytphiiflcpeploaa
open Go.RowKit

/-- append to a row of the call's own: where the new row lies -/
theorem run_append_rowF {P : Program} (w : World) (base : Nat) (t ty e : TypeId) (i : TypeInfo) (z : Value) (sz bytes : Nat) (ht : P.underlying t = some (.slice e)) (hi : P.info? e = some i) (hz : i.zero = some z)
    (hsize : i.size = sz) (hby : i.bytes = bytes) (hzs : z.cells.size = sz) (hsz : 0 < sz)
    (v : Value) (n : Nat) (xs : List Value) (hr : Row w base e sz v n xs)
    (ad : Addr) (m c : Nat) (news : List Value) (hs : Reads w w.heap.size sz (some ad) m news) (hm : 0 < m) (h1 : ∀ u ∈ news, u.oneCell' = true)
    (h63 : n + m ≤ maxLen) (hbytes : (n + m) * bytes ≤ 140737488355328) (hbase : base ≤ w.heap.size) :
    ∃ v' w', (Builtin.append_ #[t, t] ty #[v, .slice (some ad) m c]).run P w = .ok v' w' ∧ Row w' base e sz v' (n + m) (xs ++ news) ∧ w.grownBy w' v.ownBlock ∧ ∀ g, v'.ownBlock = some g → v.ownBlock = some g ∨ w.heap.size ≤ g := by
  have hcells : ∀ j u, news[j]? = some u → w.cell? (ad.add j) = some u := by
    intro j u hu
    obtain ⟨b, off, h, _, hc⟩ := hs.2 hm
    injection h with h
    subst h
    rw [Addr.add_lit]
    exact hc j u hu
  rcases hr.2 with ⟨rfl, rfl⟩ | ⟨g, off, cap, cur, rfl, hbg, hg, hnc, hcm, hcs, htake⟩
  · have hx : xs = [] := List.eq_nil_of_length_eq_zero (by simpa using hr.1)
    subst hx
    obtain ⟨v', w', hrun, h2, h3, _⟩ := run_append_own (P := P) w w.heap.size t ty e i z sz bytes ht hi hz hsize hby hzs hsz (.slice none 0 0) 0 [] (World.ownsRow_nil w _ e sz) ad m c news hs.1 hcells h1 h63 hbytes (Nat.le_refl _)
    have hro := Row.of_own h2
    exact ⟨v', w', hrun, hro.less hbase, h3, fun g hg => .inr (hro.own_block hg).1⟩
  · by_cases hroom : n + m ≤ cap
    · subst hsize
      have hle : (n + m) * i.size ≤ cap * i.size := Nat.mul_le_mul_right _ hroom
      rw [Nat.add_mul] at hle
      have hl := hs.1
      have hfit : off + n * i.size + news.length ≤ cur.size := by omega
      refine ⟨_, _, run_append_room_off w t ty e i ht hi g off n cap cur hg ad m c news hs.1 hcells h1 hroom hfit, ⟨by rw [List.length_append, hr.1, hl, Nat.add_mul], .inr ⟨g, off, cap, _, rfl, hbg, setRow_heap w g cur _ e _ hg, hroom, hcm, ?_, ?_⟩⟩, ?_, fun g' hg' => .inl (by simpa [Value.ownBlock] using hg')⟩
      · simp only [List.size_toArray, List.length_append, List.length_take, List.length_drop, Array.length_toList]
        omega
      · simp only
        rw [Nat.add_mul, ← hl]
        have := room_list (m := news.length) htake hr.1 rfl (by simpa using hfit)
        exact this
      · exact ⟨rfl, rfl, rfl, by simp [World.setRow], fun k _ hk => setRow_other w g k _ (fun e => hk (by simp [Value.ownBlock, e]))⟩
    · have holds : ∀ j u, xs[j]? = some u → w.cell? ((⟨g, off, none⟩ : Addr).add j) = some u := by
        intro j u hu
        rw [Addr.add_lit, hg.cell]
        rw [← htake, List.getElem?_take] at hu
        split at hu
        · simpa using hu
        · cases hu
      obtain ⟨v', w', hrun, h2, h3⟩ := run_append_arg_grows (P := P) w t ty e i z sz bytes ht hi hz hsize hby hzs hsz ⟨g, off, none⟩ n cap xs hr.1 holds ad m c news hs.1 hcells (by omega) h63 hbytes
      have hro := Row.of_own h2
      exact ⟨v', w', hrun, hro.less hbase, ⟨h3.os, h3.tape, h3.output, h3.size, fun k hk _ => h3.block k hk (by simp)⟩, fun g hg => .inr (hro.own_block hg).1⟩

theorem step_append_rowF {P : Program} {w : World} {ops : Array Oper} {o : Oper} {a : Act} {K : Act → World → Prop} {Q : Exit → Act → World → Prop} {E : Prop} (hgd : o.guard = none) (s x : Operand) (t : TypeId)
    (ho : o.op = .call { callee := .builtin .append, args := #[s, x], argTypes := #[t, t] })
    (base : Nat) (e : TypeId) (i : TypeInfo) (z : Value) (sz bytes : Nat) (ht : P.underlying t = some (.slice e)) (hi : P.info? e = some i) (hz : i.zero = some z)
    (hsize : i.size = sz) (hby : i.bytes = bytes) (hzs : z.cells.size = sz) (hsz : 0 < sz)
    (v : Value) (n : Nat) (xs : List Value) (hsv : a.eval s = v) (hr : Row w base e sz v n xs)
    (ad : Addr) (m c : Nat) (news : List Value) (hx : a.eval x = .slice (some ad) m c) (hs : Reads w w.heap.size sz (some ad) m news) (hm : 0 < m) (h1 : ∀ u ∈ news, u.oneCell' = true)
    (h63 : n + m ≤ maxLen) (hbytes : (n + m) * bytes ≤ 140737488355328) (hbase : base ≤ w.heap.size)
    (h : ∀ v' w', Row w' base e sz v' (n + m) (xs ++ news) → w.grownBy w' v.ownBlock → (∀ g, v'.ownBlock = some g → v.ownBlock = some g ∨ w.heap.size ≤ g) → K (a.put o.dst v') w') :
    if Region.wanted o (yielded ops a.tmps) = true then Oper.wp P o a w K Q else E := by
  have hw : Region.wanted o (yielded ops a.tmps) = true := by simp [Region.wanted, hgd]
  rw [if_pos hw]
  obtain ⟨v', w', hrun, h2, h3, h4⟩ := run_append_rowF (P := P) w base t o.type e i z sz bytes ht hi hz hsize hby hzs hsz v n xs hr ad m c news hs hm h1 h63 hbytes hbase
  unfold Oper.wp execOp
  simp only [ho, resolve, invoke, builtin, Sem.run_bind, Sem.run_pure, Result.andThen_ok, List.map_toArray, List.map_cons, List.map_nil, hsv, hx, hrun]
  exact h v' w' h2 h3 h4

/-- a slice of slices of strings that the call owns, each in a block of its own -/
structure Strs2 (w : World) (base : Nat) (v : Value) (vs : List Value) (out : List (List ByteArray)) : Prop where
  outer : Row w base 40 1 v out.length vs
  inner : ∀ (i : Nat) (u : Value) (ys : List ByteArray), vs[i]? = some u → out[i]? = some ys → Row w base 9 1 u ys.length (ys.map S)
  apart : ∀ (i j : Nat) (u u' : Value) (g : Nat), i ≠ j → vs[i]? = some u → vs[j]? = some u' → u.ownBlock = some g → u'.ownBlock ≠ some g
theorem Strs2.len {w : World} {base : Nat} {v : Value} {vs : List Value} {out : List (List ByteArray)} (h : Strs2 w base v vs out) : vs.length = out.length := by have := h.outer.1; omega
theorem Strs2.nil (w : World) (base : Nat) : Strs2 w base (.slice none 0 0) [] [] := ⟨Row.nil _ _ _ _, by simp, by simp⟩
theorem Strs2.call {w w' : World} {base : Nat} {v : Value} {vs : List Value} {out : List (List ByteArray)} (h : Strs2 w base v vs out) (hb : Below w.heap.size w w') : Strs2 w' base v vs out :=
  ⟨h.outer.call hb, fun i u ys h1 h2 => (h.inner i u ys h1 h2).call hb, h.apart⟩
theorem Strs2.keep {w w' : World} {base : Nat} {v : Value} {vs : List Value} {out : List (List ByteArray)} (h : Strs2 w base v vs out) (hk : ∀ g, base ≤ g → g < w.heap.size → w'.heap[g]? = w.heap[g]?) : Strs2 w' base v vs out :=
  ⟨h.outer.keep hk, fun i u ys h1 h2 => (h.inner i u ys h1 h2).keep hk, h.apart⟩
/-- 'out = append(out, nil)' -/
theorem Strs2.snoc {w w' : World} {base : Nat} {v v' : Value} {vs : List Value} {out : List (List ByteArray)} (h : Strs2 w base v vs out) (hr : Row w' base 40 1 v' (out.length + 1) (vs ++ [.slice none 0 0])) (hg : w.grownBy w' v.ownBlock) : Strs2 w' base v' (vs ++ [.slice none 0 0]) (out ++ [[]]) := by
  have hl := h.len
  refine ⟨by simpa using hr, fun i u ys h1 h2 => ?_, fun i j u u' g hij h1 h2 h3 => ?_⟩
  · by_cases hi : i < out.length
    · rw [List.getElem?_append_left (by omega)] at h1 h2
      exact (h.inner i u ys h1 h2).apart h.outer (by decide) hg
    · rw [List.getElem?_append_right (by omega)] at h1 h2
      have hi2 : i - out.length = 0 := by
        have := (List.getElem?_eq_some_iff.1 h2).1
        simp at this; omega
      rw [hl, hi2] at h1
      rw [hi2] at h2
      simp at h1 h2
      subst h1 h2
      exact Row.nil _ _ _ _
  · by_cases hi : i < out.length
    · by_cases hj : j < out.length
      · rw [List.getElem?_append_left (by omega)] at h1 h2
        exact h.apart i j u u' g hij h1 h2 h3
      · rw [List.getElem?_append_right (by omega)] at h2
        have := List.mem_of_getElem? h2
        simp at this
        subst this
        simp [Value.ownBlock]
    · rw [List.getElem?_append_right (by omega)] at h1
      have := List.mem_of_getElem? h1
      simp at this
      subst this
      simp [Value.ownBlock] at h3
/-- 'out[b] = append(out[b], s)': the row b is put anew -/
theorem Strs2.put {w w1 : World} {base g off c b : Nat} {vs : List Value} {out : List (List ByteArray)} {u v' : Value} {ys : List ByteArray} {s : ByteArray} (h : Strs2 w base (.slice (some ⟨g, off, none⟩) out.length c) vs out)
    (hu : vs[b]? = some u) (hy : out[b]? = some ys) (hr : Row w1 base 9 1 v' (ys.length + 1) (ys.map S ++ [.string s])) (hg : w.grownBy w1 u.ownBlock) (hw : ∀ g, v'.ownBlock = some g → u.ownBlock = some g ∨ w.heap.size ≤ g) :
    Strs2 (w1.setCell ⟨g, off + b, none⟩ v') base (.slice (some ⟨g, off, none⟩) out.length c) (vs.set b v') (out.set b (ys ++ [s])) := by
  have hl := h.len
  have hb : b < vs.length := (List.getElem?_eq_some_iff.1 hu).1
  have hiu := h.inner b u ys hu hy
  have ho1 : Row w1 base 40 1 (.slice (some ⟨g, off, none⟩) out.length c) out.length vs := h.outer.apart hiu (by decide) hg
  have hin : ∀ (i : Nat) (u' : Value) (zs : List ByteArray), i ≠ b → vs[i]? = some u' → out[i]? = some zs → Row w1 base 9 1 u' zs.length (zs.map S) := by
    intro i u' zs hib h1 h2
    have hi := h.inner i u' zs h1 h2
    obtain ⟨k1, k2⟩ := hi
    refine ⟨k1, k2.imp id ?_⟩
    rintro ⟨g', off', cap', cur', hv', hb', hh', r'⟩
    refine ⟨g', off', cap', cur', hv', hb', (hg.block g' hh'.lt ?_).trans hh', r'⟩
    intro e
    exact h.apart b i u u' g' (Ne.symm hib) hu h1 e.symm (by rw [hv']; rfl)
  have hgb : ∃ cs, Blk w1 g 40 cs := by
    rcases ho1.2 with ⟨hv, _⟩ | ⟨g', off', cap', cur', hv, _, hh, _⟩
    · cases hv
    · injection hv with hA
      injection hA with hA
      injection hA with hA
      subst hA
      exact ⟨_, hh⟩
  obtain ⟨cs, hcs⟩ := hgb
  refine ⟨?_, ?_, ?_⟩
  · have := ho1.set_at (j := b) (by omega) v'
    simpa using this
  · intro i u' zs h1 h2
    by_cases hib : i = b
    · subst hib
      rw [List.getElem?_set_self (by omega)] at h1 h2
      injection h1 with h1
      injection h2 with h2
      subst h1 h2
      have := hr.set_away (p := ⟨g, off + i, none⟩) (hr.ne_blk hcs (by decide)) v'
      simpa using this
    · rw [List.getElem?_set_ne (Ne.symm hib)] at h1 h2
      have := hin i u' zs hib h1 h2
      exact this.set_away (p := ⟨g, off + b, none⟩) (this.ne_blk hcs (by decide)) v'
  · intro i j u1 u2 g' hij h1 h2 h3 h4
    have old : ∀ (i : Nat) (u' : Value), vs[i]? = some u' → u'.ownBlock = some g' → g' < w.heap.size := by
      intro i u' h1 h2
      have hi : i < out.length := by have := (List.getElem?_eq_some_iff.1 h1).1; omega
      exact ((h.inner i u' out[i] h1 (List.getElem?_eq_getElem hi)).own_block h2).2
    by_cases hib : i = b
    · subst hib
      rw [List.getElem?_set_self (by omega)] at h1
      injection h1 with h1
      subst h1
      rw [List.getElem?_set_ne hij] at h2
      rcases hw g' h3 with h | h
      · exact (Strs2.apart ‹_› i j u u2 g' hij hu h2 h) h4
      · have := old j u2 h2 h4; omega
    · rw [List.getElem?_set_ne (Ne.symm hib)] at h1
      by_cases hjb : j = b
      · subst hjb
        rw [List.getElem?_set_self (by omega)] at h2
        injection h2 with h2
        subst h2
        rcases hw g' h4 with h | h
        · exact (Strs2.apart ‹_› i j u1 u g' hij h1 hu h3) h
        · have := old i u1 h1 h3; omega
      · rw [List.getElem?_set_ne (Ne.symm hjb)] at h2
        exact h.apart i j u1 u2 g' hij h1 h2 h3 h4

/-! ### the plain function -/
def barStep (out : List (List ByteArray)) (b : Int) (s : ByteArray) : List (List ByteArray) :=
  (if b = out.length then out ++ [[]] else out).modify b.toNat (· ++ [s])
def barsFrom (bus : List Int) (nodes : List ByteArray) : Nat → List (List ByteArray)
  | 0 => []
  | k + 1 => barStep (barsFrom bus nodes k) (bus.getD k 0) (nodes.getD k ⟨#[]⟩)
def busbarsE (n : NetD) : List (List ByteArray) × Int := if checkN n = 0 then (barsFrom (busesL n) n.nodes n.nodes.length, 0) else ([], checkN n)
end Go.Proofs.Ytphiiflcpeploaa
