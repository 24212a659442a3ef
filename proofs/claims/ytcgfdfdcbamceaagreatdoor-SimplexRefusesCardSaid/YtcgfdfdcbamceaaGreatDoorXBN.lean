/- Appends to rows of values that are no words, at any type. A table of a linear program in the making: its memory. -/
import Derived.Test.YtcgfdfdcbamceaaGreatDoorXBA
import Derived.Test.YtcgfdfdcbamceaaGreatDoorXAY
import Derived.Test.YtcgfdfdcbamceaaGreatDoorXAX
import Derived.Test.YtcgfdfdcbamceaaGreatDoorXG
import Derived.Test.YtcgfdfdcbamceaaGreatDoorXBF
import Derived.Test.YtcgfdfdcbamceaaGreatDoorXAC
import Derived.Test.YtcgfdfdcbamceaaGreatDoorXBM
import Derived.Test.YtcgfdfdcbamceaaGreatDoorXAZ
namespace Go.Proofs.YtcgfdfdcbamceaaGreatDoor
open Go.RowKit
structure AppT (t e : TypeId) : Prop where
 und : Tryz.prog.underlying t = some (.slice e)
 inf : ∃ i z bytes, Tryz.prog.info? e = some i ∧ i.zero = some z ∧ i.size = 1 ∧ i.bytes = bytes ∧ bytes ≤ 1000 ∧ z.cells.size = 1 ∧ ∀ n, ∀ u ∈ (Builtin.zeroCells z.cells n).toList, noWord u
theorem app_run {t e : TypeId} (h : AppT t e) (w : World) (base : Nat) (ty : TypeId) (v : Value) (xs : List Value) (hr : NRow w base e v xs) (A : Option Addr) (m c : Nat) (news : List Value) (hs : Reads w w.heap.size 1 A m news) (hl : ∀ u ∈ news, noWord u ∧ u.oneCell' = true)
  (hlen : xs.length + m ≤ 1000000) (hbase : base ≤ w.heap.size) : ∃ v' w', (Builtin.append_ #[t, t] ty #[v, .slice A m c]).run Tryz.prog w = .ok v' w' ∧ NApd w base e v (xs ++ news) v' w' := by
 obtain ⟨i, z, bytes, h1, h2, h3, h4, h5, h6, h7⟩ := h.inf
 have hb : (xs.length + m) * bytes ≤ 1000000 * 1000 := Nat.mul_le_mul hlen h5
 exact run_append_nw (P := Tryz.prog) w base t ty e i z bytes h.und h1 h2 h3 h4 h6 h7 v xs hr w.heap.size A m c news hs hl (by unfold maxLen; omega) (by omega) hbase
theorem wpList_appG {w : World} {ops : Array Oper} {rest : List Oper} {o : Oper} {a : Act} {Q : Exit → Act → World → Prop} (hgd : o.guard = none) (s x : Operand) {t e : TypeId} (h : AppT t e)
  (ho : o.op = .call { callee := .builtin .append, args := #[s, x], argTypes := #[t, t] }) (base : Nat) (v : Value) (xs : List Value) (hsv : a.eval s = v) (hr : NRow w base e v xs)
  (A : Option Addr) (m c : Nat) (hx : a.eval x = .slice A m c) (news : List Value) (hs : Reads w w.heap.size 1 A m news) (hl : ∀ u ∈ news, noWord u ∧ u.oneCell' = true) (hlen : xs.length + m ≤ 1000000) (hbase : base ≤ w.heap.size)
  (hk : ∀ v' w', NApd w base e v (xs ++ news) v' w' → wpList Tryz.prog ops Q rest (a.put o.dst v') w') : wpList Tryz.prog ops Q (o :: rest) a w := by
 refine wpList_plain hgd fun K hK => ?_
 obtain ⟨v', w', hrun, hap⟩ := app_run h w base o.type v xs hr A m c news hs hl hlen hbase
 unfold Oper.wp execOp
 simp only [ho, resolve, invoke, builtin, Sem.run_bind, Sem.run_pure, Result.andThen_ok, List.map_toArray, List.map_cons, List.map_nil, hsv, hx, hrun]
 exact hK _ _ (hk v' w' hap)
theorem zero_noWord1 {z : Value} (hz : z.cells = #[z]) (hn : noWord z) (n : Nat) : ∀ u ∈ (Builtin.zeroCells z.cells n).toList, noWord u := by
 intro u hu
 unfold Builtin.zeroCells at hu
 rw [Array.toList_map, List.mem_map] at hu
 obtain ⟨i, _, rfl⟩ := hu
 rw [hz]
 have h1 : (#[z] : Array Value).size = 1 := rfl
 rw [h1, Nat.mod_one]
 exact hn
theorem NApd.below {w w' : World} {base : Nat} {e : TypeId} {v v' : Value} {xs ys : List Value} (h : NApd w base e v ys v' w') (hr : NRow w base e v xs) (hb : base ≤ w.heap.size) : Below base w w' := hr.row.belowG h.grown hb
theorem one_reads (w : World) (t : TypeId) (u : Value) : Reads (w.alloc (.cells #[u] t)) (w.alloc (.cells #[u] t)).heap.size 1 (some ⟨w.heap.size, 0, none⟩) 1 [u] := by
 have h := reads_lits w t [u]
 rw [World.size_alloc]
 exact h
theorem zero_slice_noWord (n : Nat) : ∀ u ∈ (Builtin.zeroCells (Value.slice none 0 0).cells n).toList, noWord u := by
 intro u hu
 unfold Builtin.zeroCells at hu
 rw [Array.toList_map, List.mem_map] at hu
 obtain ⟨i, _, rfl⟩ := hu
 have h1 : (Value.slice none 0 0).cells.size = 1 := rfl
 rw [h1, Nat.mod_one]
 intro n e
 cases e
theorem wpList_appRow {w : World} {ops : Array Oper} {rest : List Oper} {o : Oper} {a : Act} {Q : Exit → Act → World → Prop} (hgd : o.guard = none) (s x : Operand)
  (ho : o.op = .call { callee := .builtin .append, args := #[s, x], argTypes := #[76, 76] }) (base : Nat) (v : Value) (xs : List Value) (hsv : a.eval s = v) (hr : NRow w base rowT v xs)
  (g : Nat) (hx : a.eval x = .slice (some ⟨g, 0, none⟩) 1 1) {B : Option Addr} {n c : Nat} (hB : Blk w g rowT #[.slice B n c]) (hl : xs.length ≤ 1000000) (hbase : base ≤ w.heap.size)
  (h : ∀ v' w', NApd w base rowT v (xs ++ [.slice B n c]) v' w' → wpList Tryz.prog ops Q rest (a.put o.dst v') w') : wpList Tryz.prog ops Q (o :: rest) a w := by
 refine wpList_plain hgd fun K hK => ?_
 obtain ⟨i, hi, hz0, hz1, hz2⟩ := info_parts info_row
 have hs : Reads w w.heap.size 1 (some ⟨g, 0, none⟩) 1 [.slice B n c] := ⟨rfl, fun _ => ⟨g, 0, rfl, hB.lt, fun j u hu => by
  rw [Nat.zero_add, hB.cell]
  simpa using hu⟩⟩
 obtain ⟨v', w', hrun, hap⟩ := run_append_nw (P := Tryz.prog) w base 76 o.type rowT i _ 24 Tryz.underlying76 hi hz0 hz1 hz2 rfl zero_slice_noWord v xs hr w.heap.size (some ⟨g, 0, none⟩) 1 1 [.slice B n c] hs (fun u hu => by
  obtain rfl : u = .slice B n c := by simpa using hu
  exact ⟨noWord_slice _ _ _, rfl⟩) (by unfold maxLen; omega) (by omega) hbase
 unfold Oper.wp execOp
 simp only [ho, resolve, invoke, builtin, Sem.run_bind, Sem.run_pure, Result.andThen_ok, List.map_toArray, List.map_cons, List.map_nil, hsv, hx, hrun]
 exact hK _ _ (h v' w' hap)
theorem LM.snoc {w w' : World} {base : Nat} {v v' u : Value} {vs : List Value} {m : MQ} {qs : List Rat} (h : LM w base v vs m) (hN : NRow w base rowT v vs) (hr : RRow w base u qs)
  (hap : ∀ (j : Nat) (u' : Value) (g : Nat), vs[j]? = some u' → u.ownBlock = some g → u'.ownBlock ≠ some g) (ha : NApd w base rowT v (vs ++ [u]) v' w') : LM w' base v' (vs ++ [u]) (m ++ [qs]) := by
 have hl := h.len
 have key : ∀ {x : Value} {ys : List Rat}, RRow w base x ys → RRow w' base x ys := fun {x ys} hx => by
  refine hx.keep ha.kw fun g hg => ha.grown.block g (hx.lt hg).2 fun e => ?_
  obtain ⟨_, _, cur, hC⟩ := hN.blk e.symm
  exact hx.ne_outer hC hg
 refine ⟨?_, fun i x ys h1 h2 => ?_, fun i j x y g hij h1 h2 h3 => ?_⟩
 ·have := ha.row.row
  rw [List.length_append, List.length_singleton, hl] at this
  rw [List.length_append, List.length_singleton]
  exact this
 ·by_cases hi : i < vs.length
  ·rw [List.getElem?_append_left hi] at h1
   rw [List.getElem?_append_left (by omega)] at h2
   exact key (h.inner i x ys h1 h2)
  ·have hi2 : i = vs.length := by
    have := (List.getElem?_eq_some_iff.1 h1).1
    rw [List.length_append, List.length_singleton] at this
    omega
   subst hi2
   rw [List.getElem?_append_right (Nat.le_refl _), Nat.sub_self] at h1
   rw [List.getElem?_append_right (by omega), show vs.length - m.length = 0 by omega] at h2
   have h1 := Option.some.inj h1
   have h2 := Option.some.inj h2
   subst h1 h2
   exact key hr
 ·have at_ : ∀ {k : Nat} {z : Value}, (vs ++ [u])[k]? = some z → (k < vs.length ∧ vs[k]? = some z) ∨ (k = vs.length ∧ z = u) := fun {k z} hz => by
   by_cases hk : k < vs.length
   ·rw [List.getElem?_append_left hk] at hz
    exact .inl ⟨hk, hz⟩
   ·have := (List.getElem?_eq_some_iff.1 hz).1
    rw [List.length_append, List.length_singleton] at this
    obtain rfl : k = vs.length := by omega
    rw [List.getElem?_append_right (Nat.le_refl _), Nat.sub_self] at hz
    exact .inr ⟨rfl, (Option.some.inj hz).symm⟩
  rcases at_ h1 with ⟨a1, a2⟩ | ⟨a1, a2⟩ <;> rcases at_ h2 with ⟨b1, b2⟩ | ⟨b1, b2⟩
  ·exact h.apart i j x y g hij a2 b2 h3
  ·subst b2
   intro h4
   exact hap i x g a2 h4 h3
  ·subst a2
   exact hap j y g b2 h3
  ·omega
theorem info_int1 : (Tryz.prog.info? intT).map (fun i => (i.zero, i.size, i.bytes)) = some (some (I 0), 1, 8) := by kernel_rfl
theorem app_int : AppT 110 intT := ⟨Tryz.underlying110, by
 obtain ⟨i, hi, hz0, hz1, hz2⟩ := info_parts info_int1
 exact ⟨i, _, _, hi, hz0, hz1, hz2, by omega, rfl, zero_noWord1 rfl (fun m e => by cases e)⟩⟩
structure SB (w : World) (base g : Nat) (v0 : Value) (vs : List Value) (v2 : Value) (rows : List (List Rat)) (bas : List Nat) (K : Nat) : Prop where
 blk : Blk w g tabT #[v0, .slice none 0 0, v2, I K]
 lm : LM w base v0 vs rows
 nr : NRow w base rowT v0 vs
 ba : NRow w base intT v2 (ints bas)
section
variable {w w' : World} {base g K : Nat} {v0 v2 : Value} {vs : List Value} {rows : List (List Rat)} {bas : List Nat}
theorem SB.call (h : SB w base g v0 vs v2 rows bas K) (hb : Below w.heap.size w w') : SB w' base g v0 vs v2 rows bas K := ⟨h.blk.below hb h.blk.lt, h.lm.call hb, h.nr.call hb, h.ba.call hb⟩
theorem SB.start (w : World) (K : Nat) : SB (w.alloc (.cells #[.slice none 0 0, .slice none 0 0, .slice none 0 0, I K] tabT)) w.heap.size w.heap.size (.slice none 0 0) [] (.slice none 0 0) [] [] K :=
 ⟨Blk.new _ _ _, ⟨Row.nil _ _ _ _, fun i u qs h => by simp at h, fun i j u u' g _ h => by simp at h⟩, NRow.nil _ _ _, NRow.nil _ _ _⟩
theorem SB.off {b : Nat} {cur : Array Value} (h : SB w base g v0 vs v2 rows bas K) (F : Far base b w w') (hB : Blk w b ratT cur) (hne : ∀ (i : Nat) (u : Value), vs[i]? = some u → u.ownBlock ≠ some b) : SB w' base g v0 vs v2 rows bas K := by
 refine ⟨F.blk_ h.blk (TBx.ne_ty hB h.blk (by decide)), F.lm0 h.lm hB hne, F.nrow h.nr fun e => ?_, F.nrow h.ba fun e => ?_⟩
 ·obtain ⟨_, _, cs, hC⟩ := h.nr.blk e
  exact TBx.ne_ty hB hC (by decide) rfl
 ·obtain ⟨_, _, cs, hC⟩ := h.ba.blk e
  exact TBx.ne_ty hB hC (by decide) rfl
theorem SB.v0_val (h : SB w base g v0 vs v2 rows bas K) : ∃ A c, v0 = .slice A rows.length c := h.lm.outer.val
theorem SB.v2_val (h : SB w base g v0 vs v2 rows bas K) : ∃ A c, v2 = .slice A bas.length c := by
 obtain ⟨A, c, e⟩ := h.ba.val
 rw [ints_len] at e
 exact ⟨A, c, e⟩
theorem SB.kw (h : SB w base g v0 vs v2 rows bas K) (i : Nat) (u : Value) : Kw w (w.setCell ⟨g, i, none⟩ u) := by
 obtain ⟨A, c, rfl⟩ := h.v0_val
 obtain ⟨A2, c2, rfl⟩ := h.v2_val
 exact kw_tab h.blk (fun u hu => by
  simp only [List.mem_cons, List.not_mem_nil, or_false] at hu
  rcases hu with rfl | rfl | rfl | rfl
  ·exact noWord_slice _ _ _
  ·exact noWord_slice _ _ _
  ·exact noWord_slice _ _ _
  ·exact noWord_int _) i u
theorem SB.row1 (h : SB w base g v0 vs v2 rows bas K) {u v' : Value} {q : List Rat} (hr : RRow w base u q) (hap : ∀ (j : Nat) (u' : Value) (x : Nat), vs[j]? = some u' → u.ownBlock = some x → u'.ownBlock ≠ some x) (ha : NApd w base rowT v0 (vs ++ [u]) v' w') (hb : base ≤ w.heap.size) (hg : base ≤ g) :
  w'.cell? ⟨g, 0, none⟩ = some v0 ∧ w'.frozen? ⟨g, 0, none⟩ = false ∧ SB (w'.setCell ⟨g, 0, none⟩ v') base g v' (vs ++ [u]) v2 (rows ++ [q]) bas K ∧ Below base w (w'.setCell ⟨g, 0, none⟩ v') := by
 have hB : Blk w' g tabT #[v0, .slice none 0 0, v2, I K] := (ha.grown.block g h.blk.lt fun e => by
  obtain ⟨_, _, cs, hC⟩ := h.nr.blk e.symm
  exact TBx.ne_ty hC h.blk (by decide) rfl).trans h.blk
 have hba : NRow w' base intT v2 (ints bas) := h.ba.keep fun x hx => ha.grown.block x (h.ba.blk hx).2.1 fun e => by
  obtain ⟨_, _, cs, hC⟩ := h.nr.blk e.symm
  obtain ⟨_, _, cs', hD⟩ := h.ba.blk hx
  exact TBx.ne_ty hC hD (by decide) rfl
 have hlm := LM.snoc h.lm h.nr hr hap ha
 have hbl := ha.below h.nr hb
 obtain ⟨A, c, e0⟩ := h.v0_val
 obtain ⟨A2, c2, e2⟩ := h.v2_val
 have hk : Kw w' (w'.setCell ⟨g, 0, none⟩ v') := kw_tab hB (fun u hu => by
  simp only [List.mem_cons, List.not_mem_nil, or_false] at hu
  rcases hu with rfl | rfl | rfl | rfl
  ·rw [e0]; exact noWord_slice _ _ _
  ·exact noWord_slice _ _ _
  ·rw [e2]; exact noWord_slice _ _ _
  ·exact noWord_int _) 0 v'
 exact ⟨hB.cell 0, hB.frozen 0, ⟨hB.set_ 0 _, hlm.far1 hB hk (by decide) (by decide), ha.row.far1 hB (by decide), hba.far1 hB (by decide)⟩, hbl.trans ((Below.refl _ _).setCell (p := ⟨g, 0, none⟩) hg _)⟩
theorem SB.bas1 (h : SB w base g v0 vs v2 rows bas K) {v' : Value} {x : Nat} (ha : NApd w base intT v2 (ints bas ++ [I x]) v' w') (hb : base ≤ w.heap.size) (hg : base ≤ g) :
  w'.cell? ⟨g, 2, none⟩ = some v2 ∧ w'.frozen? ⟨g, 2, none⟩ = false ∧ SB (w'.setCell ⟨g, 2, none⟩ v') base g v0 vs v' rows (bas ++ [x]) K ∧ Below base w (w'.setCell ⟨g, 2, none⟩ v') := by
 have hne : ∀ {y : Nat} {cs : Array Value} {T : TypeId}, Blk w y T cs → intT ≠ T → w'.heap[y]? = w.heap[y]? := fun {y cs T} hY hT => ha.grown.block y hY.lt fun e => by
  obtain ⟨_, _, cs, hC⟩ := h.ba.blk e.symm
  exact TBx.ne_ty hC hY hT rfl
 have hB : Blk w' g tabT #[v0, .slice none 0 0, v2, I K] := (hne h.blk (by decide)).trans h.blk
 have hnr : NRow w' base rowT v0 vs := h.nr.keep fun y hy => by
  obtain ⟨_, _, cs, hC⟩ := h.nr.blk hy
  exact hne hC (by decide)
 have hlm : LM w' base v0 vs rows := ⟨h.lm.outer.keepO fun y hy => by
   obtain ⟨_, _, cs, hC⟩ := own_lt h.lm.outer hy
   exact hne hC (by decide), fun i u qs a d => (h.lm.inner i u qs a d).keep ha.kw fun y hy => by
   obtain ⟨cs, hC⟩ := (h.lm.inner i u qs a d).blk hy
   exact hne hC (by decide), h.lm.apart⟩
 have hbl := ha.below h.ba hb
 obtain ⟨A, c, e0⟩ := h.v0_val
 obtain ⟨A2, c2, e2⟩ := h.v2_val
 have hk : Kw w' (w'.setCell ⟨g, 2, none⟩ v') := kw_tab hB (fun u hu => by
  simp only [List.mem_cons, List.not_mem_nil, or_false] at hu
  rcases hu with rfl | rfl | rfl | rfl
  ·rw [e0]; exact noWord_slice _ _ _
  ·exact noWord_slice _ _ _
  ·rw [e2]; exact noWord_slice _ _ _
  ·exact noWord_int _) 2 v'
 have hrow : NRow w' base intT v' (ints (bas ++ [x])) := by
  have := ha.row
  unfold ints at this ⊢
  rw [List.map_append]
  exact this
 exact ⟨hB.cell 2, hB.frozen 2, ⟨hB.set_ 2 _, hlm.far1 hB hk (by decide) (by decide), hnr.far1 hB (by decide), hrow.far1 hB (by decide)⟩, hbl.trans ((Below.refl _ _).setCell (p := ⟨g, 2, none⟩) hg _)⟩
theorem SB.tb0 {V W m : Nat} (h : SB w base g v0 vs v2 rows bas K) (hl : rows.length = m) (hbl : bas.length = m) (hV : V = W + 1) (hr : ∀ r ∈ rows, r.length = W + 1) : ∃ A cv Ab cb, v0 = .slice A m cv ∧ v2 = .slice Ab m cb ∧ TB0 w base g A cv vs (.slice none 0 0) Ab cb m V W ⟨rows, [], bas, K⟩ := by
 obtain ⟨A, cv, rfl⟩ := h.v0_val
 obtain ⟨Ab, cb, rfl⟩ := h.v2_val
 rw [hl, hbl] at h
 exact ⟨A, cv, Ab, cb, by rw [hl], by rw [hbl], ⟨h.blk, h.lm, h.ba, hl, hr, hbl, hV⟩⟩
end
theorem rat_one_int : ((1 : Int) : Rat) = 1 := rfl
theorem rat_m1_int : ((-1 : Int) : Rat) = -1 := rfl
theorem rows0_take {a : List (List Rat)} {b : List Rat} {i : Nat} {x : List Rat} (hx : a[i]? = some x) : (rows0Q a b).take (i + 1) = (rows0Q a b).take i ++ [startRow x a.length i (b.getD i 0)] := by
 rw [List.take_add_one]
 congr 1
 unfold rows0Q
 rw [List.getElem?_mapIdx, hx]
 rfl
theorem base0_take {m i : Nat} (n : Nat) (hi : i < m) : (base0Q m n).take (i + 1) = (base0Q m n).take i ++ [n + i] := by
 rw [List.take_add_one]
 congr 1
 unfold base0Q
 rw [List.getElem?_map, List.getElem?_range hi]
 rfl
end Go.Proofs.YtcgfdfdcbamceaaGreatDoor
