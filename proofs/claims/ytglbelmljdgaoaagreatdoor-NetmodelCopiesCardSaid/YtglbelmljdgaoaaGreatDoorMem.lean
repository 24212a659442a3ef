/- Words for memory: slices that read as lists of cells, rows that the call owns, blocks that are known whole; append, reslice, store and load on them. No program here. -/
import Derived.WalkKit
import Derived.WalkSpells
import Derived.WalkLawsBesides
import Derived.Lib.Hide
import Derived.Deep.Draws
namespace Go.Proofs.YtglbelmljdgaoaaGreatDoor
open Go.RowKit

theorem ret_int {k : IntKind} {a b : Int} (h : a = b) : Ending.returned (.int k a) = .returned (.int k b) := by rw [h]
theorem ret_bool {a b : Bool} (h : a = b) : Ending.returned (.bool a) = .returned (.bool b) := by rw [h]
theorem ret_val {a b : Value} (h : a = b) : Ending.returned a = .returned b := by rw [h]
abbrev I (n : Int) : Value := .int .i64 n

/-- block g is just the cells cs of element type t, none frozen -/
def Blk (w : World) (g : Nat) (t : TypeId) (cs : Array Value) : Prop := w.heap[g]? = some (.cells cs t (0, 0))
section
variable {w w' : World} {g : Nat} {t : TypeId} {cs : Array Value}
theorem Blk.lt (h : Blk w g t cs) : g < w.heap.size := (Array.getElem?_eq_some_iff.1 h).1
theorem Blk.cell (h : Blk w g t cs) (i : Nat) : w.cell? ⟨g, i, none⟩ = cs[i]? := cell_of_row w g i cs t (0, 0) h
theorem Blk.frozen (h : Blk w g t cs) (i : Nat) : w.frozen? ⟨g, i, none⟩ = false := by
  unfold Blk at h
  simp [World.frozen?, h]
theorem Blk.new (w : World) (t : TypeId) (cs : Array Value) : Blk (w.alloc (.cells cs t)) w.heap.size t cs := heap_alloc_new w _
theorem Blk.alloc (h : Blk w g t cs) (o : Obj) : Blk (w.alloc o) g t cs := (Below.heap_alloc w o g h.lt).trans h
theorem Blk.set_ (h : Blk w g t cs) (i : Nat) (u : Value) : Blk (w.setCell ⟨g, i, none⟩ u) g t (cs.setIfInBounds i u) := by
  unfold Blk at h ⊢
  simp [World.setCell, Array.getElem?_modify, h]
theorem Blk.far (h : Blk w g t cs) {p : Addr} (hp : g ≠ p.block) (u : Value) : Blk (w.setCell p u) g t cs := (Below.heap_setCell w p u g hp).trans h
theorem Blk.below {B : Nat} (h : Blk w g t cs) (hb : Below B w w') (hg : g < B) : Blk w' g t cs := (hb.block g hg).trans h
end

/-- slice value '.slice A n c' holds the cells xs (sz cells an element) in a block below B -/
def Reads (w : World) (B sz : Nat) (A : Option Addr) (n : Nat) (xs : List Value) : Prop :=
  xs.length = n * sz ∧ (0 < n → ∃ b off, A = some ⟨b, off, none⟩ ∧ b < B ∧ ∀ j u, xs[j]? = some u → w.cell? ⟨b, off + j, none⟩ = some u)
section
variable {w w' : World} {B B' sz n : Nat} {A : Option Addr} {xs : List Value}
theorem Reads.keep (h : Reads w B sz A n xs) (hk : ∀ p : Addr, p.block < B → w'.cell? p = w.cell? p) : Reads w' B sz A n xs :=
  ⟨h.1, fun hn => by
    obtain ⟨b, off, e, hb, hc⟩ := h.2 hn
    exact ⟨b, off, e, hb, fun j u hu => (hk _ hb).trans (hc j u hu)⟩⟩
theorem Reads.more (h : Reads w B sz A n xs) (hB : B ≤ B') : Reads w B' sz A n xs :=
  ⟨h.1, fun hn => by
    obtain ⟨b, off, e, hb, hc⟩ := h.2 hn
    exact ⟨b, off, e, by omega, hc⟩⟩
theorem Reads.below (h : Reads w B sz A n xs) (hb : Below B w w') : Reads w' B sz A n xs := h.keep fun _ hp => hb.cell hp
theorem Reads.nil : Reads w B sz A 0 [] := ⟨by simp, fun h => absurd h (by omega)⟩
theorem Reads.at1 (h : Reads w B 1 A n xs) {k : Nat} (hk : k < n) : ∃ b off u, A = some ⟨b, off, none⟩ ∧ b < B ∧ xs[k]? = some u ∧ w.cell? ⟨b, off + k, none⟩ = some u := by
  obtain ⟨b, off, e, hb, hc⟩ := h.2 (by omega)
  have hl : k < xs.length := by have := h.1; omega
  exact ⟨b, off, xs[k], e, hb, List.getElem?_eq_getElem hl, hc k _ (List.getElem?_eq_getElem hl)⟩
/-- the first part of a slice, 's[:k]' -/
theorem Reads.take (h : Reads w B sz A n xs) {k : Nat} (hk : k ≤ n) : Reads w B sz A k (xs.take (k * sz)) := by
  have hle : k * sz ≤ n * sz := Nat.mul_le_mul_right _ hk
  refine ⟨by rw [List.length_take, h.1]; omega, fun h0 => ?_⟩
  obtain ⟨b, off, e, hb, hc⟩ := h.2 (by omega)
  refine ⟨b, off, e, hb, fun j u hu => hc j u ?_⟩
  rw [List.getElem?_take] at hu
  split at hu
  · exact hu
  · cases hu
end

/-- a row that the call owns: nil, or a part of a block from 'base' on -/
def Row (w : World) (base : Nat) (e : TypeId) (sz : Nat) (v : Value) (n : Nat) (xs : List Value) : Prop :=
  xs.length = n * sz ∧
  ((v = .slice none 0 0 ∧ n = 0) ∨
   ∃ g off cap cur, v = .slice (some ⟨g, off, none⟩) n cap ∧ base ≤ g ∧ Blk w g e cur ∧ n ≤ cap ∧ cap ≤ maxLen ∧ off + cap * sz ≤ cur.size ∧ (cur.toList.drop off).take (n * sz) = xs)

section
variable {w w' : World} {base base' : Nat} {e : TypeId} {sz : Nat} {v : Value} {n : Nat} {xs : List Value}
theorem Row.nil (w : World) (base : Nat) (e : TypeId) (sz : Nat) : Row w base e sz (.slice none 0 0) 0 [] := ⟨by simp, .inl ⟨rfl, rfl⟩⟩
theorem Row.of_own (h : w.ownsRow base e sz v n xs) : Row w base e sz v n xs := by
  obtain ⟨h1, h2⟩ := h
  refine ⟨h1, h2.imp id ?_⟩
  rintro ⟨g, cap, cur, hv, hb, hh, hn, hm, hs, ht⟩
  exact ⟨g, 0, cap, cur, hv, hb, hh, hn, hm, by omega, by simpa using ht⟩
/-- kept where every block from base on is as it was -/
theorem Row.keep (h : Row w base e sz v n xs) (hk : ∀ g, base ≤ g → g < w.heap.size → w'.heap[g]? = w.heap[g]?) : Row w' base e sz v n xs := by
  obtain ⟨h1, h2⟩ := h
  refine ⟨h1, h2.imp id ?_⟩
  rintro ⟨g, off, cap, cur, hv, hb, hh, r⟩
  exact ⟨g, off, cap, cur, hv, hb, (hk g hb hh.lt).trans hh, r⟩
theorem Row.alloc (h : Row w base e sz v n xs) (o : Obj) : Row (w.alloc o) base e sz v n xs := h.keep fun g _ hg => Below.heap_alloc w o g hg
theorem Row.call (h : Row w base e sz v n xs) (hb : Below w.heap.size w w') : Row w' base e sz v n xs := h.keep fun g _ hg => hb.block g hg
theorem Row.setCell (h : Row w base e sz v n xs) {p : Addr} (hp : p.block < base) (u : Value) : Row (w.setCell p u) base e sz v n xs :=
  h.keep fun g hg _ => Below.heap_setCell w p u g (by omega)
theorem Row.less (h : Row w base e sz v n xs) (hb : base' ≤ base) : Row w base' e sz v n xs := by
  obtain ⟨h1, h2⟩ := h
  refine ⟨h1, h2.imp id ?_⟩
  rintro ⟨g, off, cap, cur, hv, hb, r⟩
  exact ⟨g, off, cap, cur, hv, by omega, r⟩
theorem Row.val (h : Row w base e sz v n xs) : ∃ A c, v = .slice A n c := by
  rcases h.2 with ⟨rfl, rfl⟩ | ⟨g, off, cap, cur, rfl, _⟩
  · exact ⟨_, _, rfl⟩
  · exact ⟨_, _, rfl⟩
theorem Row.reads {A : Option Addr} {c : Nat} (h : Row w base e sz (.slice A n c) n xs) : Reads w w.heap.size sz A n xs := by
  refine ⟨h.1, fun hn => ?_⟩
  rcases h.2 with ⟨hv, h0⟩ | ⟨g, off, cap, cur, hv, hb, hh, hnc, hm, hs, ht⟩
  · omega
  · injection hv with hA _ _
    refine ⟨g, off, hA, hh.lt, fun j u hu => ?_⟩
    rw [hh.cell]
    rw [← ht, List.getElem?_take] at hu
    split at hu
    · simpa using hu
    · cases hu
/-- the cells behind the value, for a value that is not empty -/
theorem Row.form (h : Row w base e sz v n xs) (hn : 0 < n) : ∃ g off cap cur, v = .slice (some ⟨g, off, none⟩) n cap ∧ base ≤ g ∧ Blk w g e cur ∧ n ≤ cap ∧ cap ≤ maxLen ∧ off + cap * sz ≤ cur.size ∧ (cur.toList.drop off).take (n * sz) = xs := by
  rcases h.2 with ⟨_, h0⟩ | h2
  · omega
  · exact h2
end

/-- the value behind a reslice of a row, from place k on -/
theorem Row.cut {w : World} {base : Nat} {e : TypeId} {sz : Nat} {xs : List Value} {g off n cap : Nat} (h : Row w base e sz (.slice (some ⟨g, off, none⟩) n cap) n xs) (k : Nat) (hk : k ≤ n) :
    Row w base e sz (sliced (some ⟨g, off, none⟩) k n cap sz) (n - k) (xs.drop (k * sz)) := by
  rcases h.2 with ⟨hv, h0⟩ | ⟨g', off', cap', cur, hv, hb, hh, hnc, hm, hs, htk⟩
  · cases hv
  · injection hv with hA _ hc
    injection hA with hA
    injection hA with hg ho
    subst hg ho hc
    refine ⟨by rw [List.length_drop, h.1, Nat.sub_mul], .inr ?_⟩
    by_cases hck : cap = k
    · refine ⟨g, off, cap - k, cur, by simp [sliced, hck], hb, hh, by omega, by omega, ?_, ?_⟩
      · rw [hck]; simp; have : 0 ≤ cap * sz := Nat.zero_le _; omega
      · have h1 : n - k = 0 := by omega
        have h2 : xs.drop (k * sz) = [] := by
          apply List.drop_eq_nil_of_le
          rw [h.1]
          exact Nat.mul_le_mul_right _ (by omega)
        simp [h1, h2]
    · refine ⟨g, off + k * sz, cap - k, cur, by simp [sliced, hck, Addr.add_lit], hb, hh, by omega, by omega, ?_, ?_⟩
      · rw [Nat.sub_mul]
        have : k * sz ≤ cap * sz := Nat.mul_le_mul_right _ (by omega)
        omega
      · rw [← htk, List.drop_take, List.drop_drop, Nat.sub_mul]
theorem run_cut {P : Program} {e t : TypeId} {sz : Nat} (ht : P.underlying t = some (.slice e)) (hz : ∀ W : World, (sizeOf e).run P W = .ok sz W) (A : Option Addr) (n cap : Nat) (l : Int) (h0 : 0 ≤ l) (h1 : l ≤ n) (W : World) :
    (Instr.sliceAt t (.slice A n cap) (some (.int .i64 l)) none none).run P W = .ok (sliced A l.toNat n cap sz) W := by
  have he : P.elem t = e := by simp [Program.elem, ht]
  have ht' : P.underlying t = some (.slice (P.elem t)) := by rw [he]; exact ht
  rw [run_sliceAt_slice W t _ _ _ _ ht', run_slice_l W t A n cap ht' .i64 l h0 h1, he, hz]
  rfl

/-- append where there is room, the slice's first cell at whatever place of its block -/
theorem run_append_room_off {P : Program} (w : World) (t ty e : TypeId) (i : TypeInfo) (ht : P.underlying t = some (.slice e)) (hi : P.info? e = some i)
    (g off n cap : Nat) (cur : Array Value) (hg : Blk w g e cur) (ad : Addr) (m c : Nat) (news : List Value) (hl : news.length = m * i.size) (hnews : ∀ j u, news[j]? = some u → w.cell? (ad.add j) = some u) (h1 : ∀ u ∈ news, u.oneCell' = true)
    (hroom : n + m ≤ cap) (hfit : off + n * i.size + news.length ≤ cur.size) :
    (Builtin.append_ #[t, t] ty #[.slice (some ⟨g, off, none⟩) n cap, .slice (some ad) m c]).run P w =
      .ok (.slice (some ⟨g, off, none⟩) (n + m) cap) (w.setRow g (cur.toList.take (off + n * i.size) ++ news ++ cur.toList.drop (off + n * i.size + news.length)).toArray) := by
  have hfc := run_firstCells_some (P := P) w i.size m ad m c news hl hnews
  have hst := run_storeCells_at P g (off + n * i.size) e news 0 cur w hg (by simpa using hfit) h1
  simp only [Nat.add_zero] at hst
  simp [Builtin.append_, run_underlying ht, sizeOf, typeInfo, hi, Builtin.lenOf, hroom, hfc, Addr.add_lit, hst]

theorem run_append_nothing {P : Program} (w : World) (base : Nat) (t ty e : TypeId) (i : TypeInfo) (ht : P.underlying t = some (.slice e)) (hi : P.info? e = some i) (sz n : Nat) (v : Value) (xs : List Value)
    (hr : Row w base e sz v n xs) (c : Nat) : (Builtin.append_ #[t, t] ty #[v, .slice none 0 c]).run P w = .ok v w := by
  rcases hr.2 with ⟨rfl, rfl⟩ | ⟨g, off, cap, cur, rfl, _, _, hnc, _⟩
  · simp [Builtin.append_, run_underlying ht, sizeOf, typeInfo, hi, Builtin.lenOf, Builtin.firstCells]
  · simp [Builtin.append_, run_underlying ht, sizeOf, typeInfo, hi, Builtin.lenOf, Builtin.firstCells, hnc, storeCells]

theorem room_list {cur news xs : List Value} {off n m : Nat} (hx : (cur.drop off).take n = xs) (hxl : xs.length = n) (hn : news.length = m) (hfit : off + n + m ≤ cur.length) :
    ((cur.take (off + n) ++ news ++ cur.drop (off + n + m)).drop off).take (n + m) = xs ++ news := by
  have h1 : cur.take (off + n) = cur.take off ++ xs := by rw [List.take_add, hx]
  rw [h1, List.append_assoc, List.append_assoc, List.drop_append_of_le_length (by simp; omega), List.drop_of_length_le (by simp; omega), List.nil_append, ← List.append_assoc]
  rw [List.take_append_of_le_length (by simp; omega), List.take_of_length_le (by simp; omega)]

/-- append to a row of the call's own, from whatever source -/
theorem run_append_row {P : Program} (w : World) (base : Nat) (t ty e : TypeId) (i : TypeInfo) (z : Value) (sz bytes : Nat) (ht : P.underlying t = some (.slice e)) (hi : P.info? e = some i) (hz : i.zero = some z)
    (hsize : i.size = sz) (hby : i.bytes = bytes) (hzs : z.cells.size = sz) (hsz : 0 < sz)
    (v : Value) (n : Nat) (xs : List Value) (hr : Row w base e sz v n xs)
    (B : Nat) (A : Option Addr) (m c : Nat) (news : List Value) (hs : Reads w B sz A m news) (h1 : ∀ u ∈ news, u.oneCell' = true)
    (h63 : n + m ≤ maxLen) (hbytes : (n + m) * bytes ≤ 140737488355328) (hbase : base ≤ w.heap.size) :
    ∃ v' w', (Builtin.append_ #[t, t] ty #[v, .slice A m c]).run P w = .ok v' w' ∧ Row w' base e sz v' (n + m) (xs ++ news) ∧ Below base w w' := by
  have keep : ∀ {w' : World} {row : Option Nat}, w.grownBy w' row → (∀ k, row = some k → base ≤ k) → Below base w w' :=
    fun hg hk => (Below.refl base w).grown hg hbase hk
  rcases A with _ | ad
  · have hm : m = 0 := by
      rcases Nat.eq_zero_or_pos m with h0 | h0
      · exact h0
      · obtain ⟨b, off, h, _⟩ := hs.2 h0
        cases h
    subst hm
    have hn : news = [] := List.eq_nil_of_length_eq_zero (by simpa using hs.1)
    subst hn
    exact ⟨v, w, run_append_nothing w base t ty e i ht hi sz n v xs hr c, by simpa using hr, Below.refl _ _⟩
  · have hcells : ∀ j u, news[j]? = some u → w.cell? (ad.add j) = some u := by
      intro j u hu
      rcases Nat.eq_zero_or_pos m with h0 | h0
      · subst h0
        have hn : news = [] := List.eq_nil_of_length_eq_zero (by simpa using hs.1)
        subst hn
        simp at hu
      · obtain ⟨b, off, h, _, hc⟩ := hs.2 h0
        injection h with h
        subst h
        rw [Addr.add_lit]
        exact hc j u hu
    rcases hr.2 with ⟨rfl, rfl⟩ | ⟨g, off, cap, cur, rfl, hbg, hg, hnc, hcm, hcs, htake⟩
    · have hx : xs = [] := List.eq_nil_of_length_eq_zero (by simpa using hr.1)
      subst hx
      obtain ⟨v', w', hrun, h2, h3, _⟩ := run_append_own (P := P) w base t ty e i z sz bytes ht hi hz hsize hby hzs hsz (.slice none 0 0) 0 [] (World.ownsRow_nil w _ e sz) ad m c news hs.1 hcells h1 h63 hbytes hbase
      exact ⟨v', w', hrun, Row.of_own h2, keep h3 (by simp [Value.ownBlock])⟩
    · by_cases hroom : n + m ≤ cap
      · subst hsize
        have hle : (n + m) * i.size ≤ cap * i.size := Nat.mul_le_mul_right _ hroom
        rw [Nat.add_mul] at hle
        have hl := hs.1
        have hfit : off + n * i.size + news.length ≤ cur.size := by omega
        refine ⟨_, _, run_append_room_off w t ty e i ht hi g off n cap cur hg ad m c news hs.1 hcells h1 hroom hfit, ⟨by rw [List.length_append, hr.1, hl, Nat.add_mul], .inr ⟨g, off, cap, _, rfl, hbg, setRow_heap w g cur _ e _ hg, hroom, hcm, ?_, ?_⟩⟩, ?_⟩
        · simp only [List.size_toArray, List.length_append, List.length_take, List.length_drop, Array.length_toList]
          omega
        · simp only
          rw [Nat.add_mul, ← hl]
          have := room_list (m := news.length) htake hr.1 rfl (by simpa using hfit)
          exact this
        · exact ⟨rfl, rfl, rfl, by simp [World.setRow], fun k hk => setRow_other w g k _ (by omega)⟩
      · have holds : ∀ j u, xs[j]? = some u → w.cell? ((⟨g, off, none⟩ : Addr).add j) = some u := by
          intro j u hu
          rw [Addr.add_lit, hg.cell]
          rw [← htake, List.getElem?_take] at hu
          split at hu
          · simpa using hu
          · cases hu
        obtain ⟨v', w', hrun, h2, h3⟩ := run_append_arg_grows (P := P) w t ty e i z sz bytes ht hi hz hsize hby hzs hsz ⟨g, off, none⟩ n cap xs hr.1 holds ad m c news hs.1 hcells (by omega) h63 hbytes
        exact ⟨v', w', hrun, (Row.of_own h2).less hbase, keep h3 (by simp)⟩

theorem wpList_append_row {P : Program} {w : World} {ops : Array Oper} {rest : List Oper} {o : Oper} {a : Act} {Q : Exit → Act → World → Prop} (hgd : o.guard = none) (s x : Operand) (t : TypeId)
    (ho : o.op = .call { callee := .builtin .append, args := #[s, x], argTypes := #[t, t] })
    (base : Nat) (e : TypeId) (i : TypeInfo) (z : Value) (sz bytes : Nat) (ht : P.underlying t = some (.slice e)) (hi : P.info? e = some i) (hz : i.zero = some z)
    (hsize : i.size = sz) (hby : i.bytes = bytes) (hzs : z.cells.size = sz) (hsz : 0 < sz)
    (v : Value) (n : Nat) (xs : List Value) (hsv : a.eval s = v) (hr : Row w base e sz v n xs)
    (B : Nat) (A : Option Addr) (m c : Nat) (news : List Value) (hx : a.eval x = .slice A m c) (hs : Reads w B sz A m news) (h1 : ∀ u ∈ news, u.oneCell' = true)
    (h63 : n + m ≤ maxLen) (hbytes : (n + m) * bytes ≤ 140737488355328) (hbase : base ≤ w.heap.size)
    (h : ∀ v' w', Row w' base e sz v' (n + m) (xs ++ news) → Below base w w' → wpList P ops Q rest (a.put o.dst v') w') : wpList P ops Q (o :: rest) a w := by
  refine wpList_plain hgd fun K hK => ?_
  obtain ⟨v', w', hrun, h2, h3⟩ := run_append_row (P := P) w base t o.type e i z sz bytes ht hi hz hsize hby hzs hsz v n xs hr B A m c news hs h1 h63 hbytes hbase
  unfold Oper.wp execOp
  simp only [ho, resolve, invoke, builtin, Sem.run_bind, Sem.run_pure, Result.andThen_ok, List.map_toArray, List.map_cons, List.map_nil, hsv, hx, hrun]
  exact hK _ _ (h v' w' h2 h3)

/-- the cell of a new block of one cell, read as a slice -/
theorem reads_one (w : World) (t : TypeId) (u : Value) : Reads (w.alloc (.cells #[u] t)) (w.heap.size + 1) 1 (some ⟨w.heap.size, 0, none⟩) 1 [u] := by
  refine ⟨rfl, fun _ => ⟨_, _, rfl, by omega, fun j x hx => ?_⟩⟩
  rw [(Blk.new w t #[u]).cell]
  cases j with
  | zero => simpa using hx
  | succ j => simp at hx

theorem Row.ints {w : World} {base : Nat} {e : TypeId} {v : Value} {xs : List Int} {n : Nat} (h : Row w base e 1 v n (xs.map I)) (hn : 0 < n) :
    ∃ b off cap, v = .slice (some ⟨b, off, none⟩) n cap ∧ b < w.heap.size ∧ n ≤ cap ∧ ∀ i, i < n → w.cell? ⟨b, off + i, none⟩ = some (I (xs.getD i 0)) := by
  obtain ⟨g, off, cap, cur, rfl, hb, hh, hnc, hm, hs, ht⟩ := h.form hn
  refine ⟨g, off, cap, rfl, hh.lt, hnc, fun i hi => ?_⟩
  obtain ⟨b', off', e', _, hc⟩ := h.reads.2 hn
  injection e' with e'
  injection e' with e1 e2
  subst e1 e2
  have hl := h.1
  have hlt : i < xs.length := by simp at hl; omega
  exact hc i _ (by simp [hlt])
theorem Row.one (w : World) (base : Nat) (e : TypeId) (u : Value) (hb : base ≤ w.heap.size) : Row (w.alloc (.cells #[u] e)) base e 1 (.slice (some ⟨w.heap.size, 0, none⟩) 1 1) 1 [u] :=
  ⟨rfl, .inr ⟨w.heap.size, 0, 1, #[u], rfl, hb, Blk.new w e _, Nat.le_refl _, by simp [maxLen], by simp, by simp⟩⟩
/-- the first element of a row, and what is left behind a reslice from 1 on -/
theorem Row.pop {w : World} {base : Nat} {e : TypeId} {v : Value} {n : Nat} {x : Value} {xs : List Value} (h : Row w base e 1 v (n + 1) (x :: xs)) :
    ∃ g off cap, v = .slice (some ⟨g, off, none⟩) (n + 1) cap ∧ base ≤ g ∧ g < w.heap.size ∧ w.cell? ⟨g, off, none⟩ = some x ∧ Row w base e 1 (sliced (some ⟨g, off, none⟩) 1 (n + 1) cap 1) n xs := by
  obtain ⟨g, off, cap, cur, rfl, hb, hh, hn, hm, hs, ht⟩ := h.form (by omega)
  refine ⟨g, off, cap, rfl, hb, hh.lt, ?_, ?_⟩
  · obtain ⟨b, off', e', _, hc⟩ := h.reads.2 (by omega)
    injection e' with e'
    injection e' with e1 e2
    subst e1 e2
    exact hc 0 x rfl
  · exact h.cut 1 (by omega)

/-- the cells of a list of pairs -/
def cells2 (l : List (Int × Int)) : List Value := l.flatMap fun x => [I x.1, I x.2]
theorem cells2_len (l : List (Int × Int)) : (cells2 l).length = l.length * 2 := by
  induction l with
  | nil => rfl
  | cons x l ih => simp only [cells2, List.flatMap_cons, List.length_append, List.length_cons, List.length_nil] at ih ⊢; omega
theorem cells2_at (l : List (Int × Int)) (k : Nat) (x : Int × Int) (h : l[k]? = some x) : (cells2 l)[k * 2]? = some (I x.1) ∧ (cells2 l)[k * 2 + 1]? = some (I x.2) := by
  induction l generalizing k with
  | nil => simp at h
  | cons y l ih =>
    cases k with
    | zero => simp at h; subst h; exact ⟨rfl, rfl⟩
    | succ k =>
      have := ih k (by simpa using h)
      simp only [cells2, List.flatMap_cons] at this ⊢
      have e1 : (k + 1) * 2 = k * 2 + 2 := by omega
      rw [e1]
      exact this
theorem cells2_take (l : List (Int × Int)) (k : Nat) : (cells2 l).take (k * 2) = cells2 (l.take k) := by
  induction l generalizing k with
  | nil => simp [cells2]
  | cons y l ih =>
    cases k with
    | zero => simp [cells2]
    | succ k =>
      have := ih k
      have e1 : (k + 1) * 2 = k * 2 + 2 := by omega
      simp only [cells2, List.flatMap_cons, List.take_succ_cons, e1] at this ⊢
      simp [this]
theorem reads2_at {w : World} {B n : Nat} {A : Option Addr} {l : List (Int × Int)} (h : Reads w B 2 A n (cells2 l)) {k : Nat} (hk : k < l.length) :
    ∃ b off, A = some ⟨b, off, none⟩ ∧ b < B ∧ w.cell? ⟨b, off + k * 2, none⟩ = some (I (l[k]).1) ∧ w.cell? ⟨b, off + k * 2 + 1, none⟩ = some (I (l[k]).2) := by
  have hl : n = l.length := by have := h.1; rw [cells2_len] at this; omega
  obtain ⟨b, off, e, hb, hc⟩ := h.2 (by omega)
  have := cells2_at l k l[k] (by simp [hk])
  exact ⟨b, off, e, hb, hc _ _ this.1, by have := hc _ _ this.2; rwa [← Nat.add_assoc] at this⟩
end Go.Proofs.YtglbelmljdgaoaaGreatDoor
