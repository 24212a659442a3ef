/- 'out[k] = append(out[k], x)' at matrices of numbers. matrix.transposed. matrix.Text: rows of texts that the call owns. -/
import Derived.Test.YtgecdcjfncfmcaaGreatDoorJQ
import Derived.Test.YtgecdcjfncfmcaaGreatDoorJDO
namespace Go.Proofs.YtgecdcjfncfmcaaGreatDoor
open Go.RowKit

/-- another row in place of row k: the other rows lie as before -/
theorem LM.put2 {w : World} {base g off cap n k : Nat} {vs : List Value} {m : List (List Rat)} {v' : Value} {qs : List Rat} (hm : m.length = n) (hk : k < n) (ho : Row w base rowT 1 (.slice (some ⟨g, off, none⟩) n cap) n vs)
    (hin : ∀ (j : Nat) (u : Value) (ys : List Rat), j ≠ k → vs[j]? = some u → m[j]? = some ys → RRow w base u ys)
    (hap : ∀ (i j : Nat) (u u' : Value) (g : Nat), i ≠ j → i ≠ k → j ≠ k → vs[i]? = some u → vs[j]? = some u' → u.ownBlock = some g → u'.ownBlock ≠ some g)
    (hr : RRow w base v' qs) (hnew : ∀ (j : Nat) (u : Value) (g' : Nat), j ≠ k → vs[j]? = some u → v'.ownBlock = some g' → u.ownBlock ≠ some g')
    {A : Option Addr} {l c : Nat} (hc : w.cell? ⟨g, off + k, none⟩ = some (.slice A l c)) :
    LM (w.setCell ⟨g, off + k, none⟩ v') base (.slice (some ⟨g, off, none⟩) n cap) (vs.set k v') (m.set k qs) := by
  have hkw : Kw w (w.setCell ⟨g, off + k, none⟩ v') := kw_set hc (noWord_slice _ _ _) v'
  have hl : vs.length = n := by have := ho.1; omega
  obtain ⟨cs, hB⟩ : ∃ cs, Blk w g rowT cs := by
    obtain ⟨g', off', cap', cur, e, _, hh, _⟩ := ho.form (by omega)
    injection e with e
    injection e with e
    injection e with e
    subst e
    exact ⟨_, hh⟩
  have away : ∀ {x : Value} {ys : List Rat}, RRow w base x ys → RRow (w.setCell ⟨g, off + k, none⟩ v') base x ys := fun hx => hx.keep hkw fun g' hg' =>
    Below.heap_setCell w _ v' g' fun e => hx.ne_outer hB (by rw [hg', e])
  refine ⟨?_, fun j x ys h1 h2 => ?_, fun i j x y g' hij h1 h2 h3 => ?_⟩
  · have := ho.set_at (j := k) (by omega) v'
    simpa [hm] using this
  · by_cases hjk : j = k
    · subst hjk
      rw [List.getElem?_set_self (by omega)] at h1 h2
      injection h1 with h1
      injection h2 with h2
      subst h1 h2
      exact away hr
    · rw [List.getElem?_set_ne (Ne.symm hjk)] at h1 h2
      exact away (hin j x ys hjk h1 h2)
  · by_cases hik : i = k
    · subst hik
      rw [List.getElem?_set_self (by omega)] at h1
      injection h1 with h1
      subst h1
      rw [List.getElem?_set_ne hij] at h2
      exact hnew j y g' (Ne.symm hij) h2 h3
    · rw [List.getElem?_set_ne (Ne.symm hik)] at h1
      by_cases hjk : j = k
      · subst hjk
        rw [List.getElem?_set_self (by omega)] at h2
        injection h2 with h2
        subst h2
        intro h4
        exact hnew i x g' hik h1 h4 h3
      · rw [List.getElem?_set_ne (Ne.symm hjk)] at h2
        exact hap i j x y g' hij hik hjk h1 h2 h3
/-- what is known of the world behind the append, ahead of the store -/
theorem LM.app {w w' : World} {base g off cap n k : Nat} {vs : List Value} {m : List (List Rat)} {u v' : Value} {qs qs' : List Rat} (h : LM w base (.slice (some ⟨g, off, none⟩) n cap) vs m) (hm : m.length = n) (hk : k < n) (hu : vs[k]? = some u) (hq : m[k]? = some qs)
    (ha : Apd w base u qs' v' w') (hb : base ≤ w.heap.size) :
    LM (w'.setCell ⟨g, off + k, none⟩ v') base (.slice (some ⟨g, off, none⟩) n cap) (vs.set k v') (m.set k qs') ∧ Below base w w' ∧ w'.cell? ⟨g, off + k, none⟩ = some u ∧ w'.frozen? ⟨g, off + k, none⟩ = false ∧ base ≤ g := by
  have hru := h.inner k u qs hu hq
  obtain ⟨xs, hrow, _⟩ := hru.row
  have ho : Row w' base rowT 1 (.slice (some ⟨g, off, none⟩) n cap) n vs := by
    have := h.outer
    rw [hm] at this
    exact this.apart hrow (by decide) ha.grown
  obtain ⟨A, c, rfl⟩ := hru.val
  have hcell : w'.cell? ⟨g, off + k, none⟩ = some (.slice A qs.length c) := by
    obtain ⟨b', off', e', _, hc⟩ := ho.reads.2 (by omega)
    injection e' with e'
    injection e' with e1 e2
    subst e1 e2
    exact hc k _ hu
  refine ⟨LM.put2 hm hk ho (fun j x ys hj h1 h2 => ?_) (fun i j x y g' hij _ _ h1 h2 h3 => h.apart i j x y g' hij h1 h2 h3) ha.row (fun j x g' hj h1 h2 h3 => ?_) hcell, hrow.belowG ha.grown hb, hcell, ?_, ?_⟩
  · have hx := h.inner j x ys h1 h2
    exact hx.keep ha.kw fun g' hg' => ha.grown.block g' (hx.lt hg').2 fun e => h.apart j k x _ g' hj h1 hu hg' e.symm
  · have hx : j < m.length := by have := (List.getElem?_eq_some_iff.1 h1).1; have := h.len; omega
    have hxr := h.inner j x m[j] h1 (List.getElem?_eq_getElem hx)
    rcases ha.own g' h2 with h4 | h4
    · exact h.apart j k x _ g' hj h1 hu h3 h4
    · have := (hxr.lt h3).2; omega
  · obtain ⟨g', off', cap', cur, e, _, hh, _⟩ := ho.form (by omega)
    obtain ⟨rfl, rfl⟩ := sl_inj e
    exact hh.frozen _
  · obtain ⟨g', off', cap', cur, e, hb', _⟩ := ho.form (by omega)
    obtain ⟨rfl, rfl⟩ := sl_inj e
    exact hb'
/-- the step of a walk that appends one number to a row -/
theorem step_app1 {w : World} {ops : Array Oper} {o : Oper} {a : Act} {K : Act → World → Prop} {Q : Exit → Act → World → Prop} {E : Prop} (hgd : o.guard = none) (s x : Operand)
    (ho : o.op = .call { callee := .builtin .append, args := #[s, x], argTypes := #[rowT, rowT] }) (base : Nat) (v : Value) (qs : List Rat) (hsv : a.eval s = v) (hr : RRow w base v qs)
    (g : Nat) (hx : a.eval x = .slice (some ⟨g, 0, none⟩) 1 1) {x0 x1 x2 x3 : Value} (hB : Blk w g ratT #[x0, x1, x2, x3]) {q : Rat} (hq : Rt w (.agg #[x0, x1, x2, x3]) q) (hl : qs.length ≤ 1000000) (hbase : base ≤ w.heap.size)
    (h : ∀ v' w', Apd w base v (qs ++ [q]) v' w' → K (a.put o.dst v') w') : if Region.wanted o (yielded ops a.tmps) = true then Oper.wp Tryz.prog o a w K Q else E := by
  have hw : Region.wanted o (yielded ops a.tmps) = true := by simp [Region.wanted, hgd]
  rw [if_pos hw]
  obtain ⟨i, hi, hz0, hz1, hz2⟩ := info_parts info_rat
  have hs : Reads w w.heap.size 4 (some ⟨g, 0, none⟩) 1 [x0, x1, x2, x3] := ⟨rfl, fun _ => ⟨g, 0, rfl, hB.lt, fun j u hu => by
    rw [Nat.zero_add, hB.cell]
    simpa using hu⟩⟩
  obtain ⟨v', w', hrun, hap⟩ := run_append_rats (P := Tryz.prog) w base rowT o.type i _ 64 Tryz.underlying111 hi hz0 hz1 hz2 rfl v qs hr w.heap.size (some ⟨g, 0, none⟩) 1 1 [x0, x1, x2, x3] [q] hs (RtL.one hq) (by unfold maxLen; omega) (by omega) hbase
  unfold Oper.wp execOp
  simp only [ho, resolve, invoke, builtin, Sem.run_bind, Sem.run_pure, Result.andThen_ok, List.map_toArray, List.map_cons, List.map_nil, hsv, hx, hrun]
  exact h v' w' hap
/-- the same in a region without an order of its own -/
theorem wpList_app1 {w : World} {ops : Array Oper} {rest : List Oper} {o : Oper} {a : Act} {Q : Exit → Act → World → Prop} (hgd : o.guard = none) (s x : Operand)
    (ho : o.op = .call { callee := .builtin .append, args := #[s, x], argTypes := #[rowT, rowT] }) (base : Nat) (v : Value) (qs : List Rat) (hsv : a.eval s = v) (hr : RRow w base v qs)
    (g : Nat) (hx : a.eval x = .slice (some ⟨g, 0, none⟩) 1 1) {x0 x1 x2 x3 : Value} (hB : Blk w g ratT #[x0, x1, x2, x3]) {q : Rat} (hq : Rt w (.agg #[x0, x1, x2, x3]) q) (hl : qs.length ≤ 1000000) (hbase : base ≤ w.heap.size)
    (h : ∀ v' w', Apd w base v (qs ++ [q]) v' w' → wpList Tryz.prog ops Q rest (a.put o.dst v') w') : wpList Tryz.prog ops Q (o :: rest) a w := by
  refine wpList_plain hgd fun K hK => ?_
  obtain ⟨i, hi, hz0, hz1, hz2⟩ := info_parts info_rat
  have hs : Reads w w.heap.size 4 (some ⟨g, 0, none⟩) 1 [x0, x1, x2, x3] := ⟨rfl, fun _ => ⟨g, 0, rfl, hB.lt, fun j u hu => by
    rw [Nat.zero_add, hB.cell]
    simpa using hu⟩⟩
  obtain ⟨v', w', hrun, hap⟩ := run_append_rats (P := Tryz.prog) w base rowT o.type i _ 64 Tryz.underlying111 hi hz0 hz1 hz2 rfl v qs hr w.heap.size (some ⟨g, 0, none⟩) 1 1 [x0, x1, x2, x3] [q] hs (RtL.one hq) (by unfold maxLen; omega) (by omega) hbase
  unfold Oper.wp execOp
  simp only [ho, resolve, invoke, builtin, Sem.run_bind, Sem.run_pure, Result.andThen_ok, List.map_toArray, List.map_cons, List.map_nil, hsv, hx, hrun]
  exact hK _ _ (h v' w' hap)
theorem Apd.below {w w' : World} {base : Nat} {v v' : Value} {qs qs' : List Rat} (h : Apd w base v qs' v' w') (hr : RRow w base v qs) (hb : base ≤ w.heap.size) : Below base w w' := by
  obtain ⟨xs, hrow, _⟩ := hr.row
  exact hrow.belowG h.grown hb
theorem cell_below {w w' : World} {p : Addr} {v : Value} (h : w.cell? p = some v) (hb : Below w.heap.size w w') : w'.cell? p = some v := (hb.cell (World.block_lt_of_cell? w p h)).trans h
theorem Vr.keepB {w w' : World} {g : Nat} {x0 x1 x2 x3 : Value} (h : Vr w g x0 x1 x2 x3) (hk : w'.heap[g]? = w.heap[g]?) : Vr w' g x0 x1 x2 x3 :=
  ⟨(World.cell?_of_block (a := ⟨g, 0, none⟩) hk).trans h.c0, (World.cell?_of_block (a := ⟨g, 1, none⟩) hk).trans h.c1, (World.cell?_of_block (a := ⟨g, 2, none⟩) hk).trans h.c2, (World.cell?_of_block (a := ⟨g, 3, none⟩) hk).trans h.c3,
    (World.frozen?_of_block (a := ⟨g, 0, none⟩) hk).trans h.f0, (World.frozen?_of_block (a := ⟨g, 1, none⟩) hk).trans h.f1, (World.frozen?_of_block (a := ⟨g, 2, none⟩) hk).trans h.f2, (World.frozen?_of_block (a := ⟨g, 3, none⟩) hk).trans h.f3⟩
theorem below_draw (w : World) : Below w.heap.size w w.drew := (Below.refl _ _).drew
theorem below_new (w : World) (o : Obj) : Below w.heap.size w (w.alloc o) := (Below.refl _ _).alloc (Nat.le_refl _) _
theorem C4.kw {w w' : World} {b o : Nat} {nb : Bool} {B1 B2 : Option Addr} {l1 c1 l2 c2 : Nat} (h : C4 w b o (.bool nb) (.slice B1 l1 c1) (.bool false) (.slice B2 l2 c2)) (hk : w'.heap[b]? = w.heap[b]?) : C4 w' b o (.bool nb) (.slice B1 l1 c1) (.bool false) (.slice B2 l2 c2) :=
  ⟨(World.cell?_of_block (a := ⟨b, o, none⟩) hk).trans h.c0, (World.cell?_of_block (a := ⟨b, o + 1, none⟩) hk).trans h.c1, (World.cell?_of_block (a := ⟨b, o + 2, none⟩) hk).trans h.c2, (World.cell?_of_block (a := ⟨b, o + 3, none⟩) hk).trans h.c3⟩
end Go.Proofs.YtgecdcjfncfmcaaGreatDoor
namespace Go.Proofs.YtgecdcjfncfmcaaGreatDoor
open Go.RowKit

/-- the transposed matrix in the making: i rows are laid, and k numbers of row i -/
def trP (m : List (List Rat)) (wd i k : Nat) : List (List Rat) := (List.range wd).map fun j => ((m.take i).map fun r => r.getD j 0) ++ if j < k then [(m.getD i []).getD j 0] else []
theorem trP_len (m : List (List Rat)) (wd i k : Nat) : (trP m wd i k).length = wd := by simp [trP]
theorem trP_get (m : List (List Rat)) {wd : Nat} (i : Nat) {k : Nat} (hk : k < wd) : (trP m wd i k)[k]? = some ((m.take i).map fun r => r.getD k 0) := by
  unfold trP
  rw [List.getElem?_map, List.getElem?_range hk, Option.map_some, if_neg (by omega), List.append_nil]
theorem trP_set (m : List (List Rat)) {wd : Nat} (i : Nat) {k : Nat} (hk : k < wd) : (trP m wd i k).set k (((m.take i).map fun r => r.getD k 0) ++ [(m.getD i []).getD k 0]) = trP m wd i (k + 1) := by
  apply List.ext_getElem?
  intro j
  by_cases hj : j = k
  · subst hj
    rw [List.getElem?_set_self (by rw [trP_len]; exact hk)]
    unfold trP
    rw [List.getElem?_map, List.getElem?_range hk, Option.map_some, if_pos (by omega)]
  · rw [List.getElem?_set_ne (Ne.symm hj)]
    unfold trP
    rw [List.getElem?_map, List.getElem?_map]
    by_cases h : j < wd
    · rw [List.getElem?_range h, Option.map_some, Option.map_some]
      by_cases h2 : j < k
      · rw [if_pos h2, if_pos (by omega)]
      · rw [if_neg h2, if_neg (by omega)]
    · rw [List.getElem?_eq_none (by simp; omega)]
      rfl
theorem trP_next (m : List (List Rat)) (wd : Nat) {i : Nat} (hi : i < m.length) : trP m wd i wd = trP m wd (i + 1) 0 := by
  unfold trP
  refine List.map_congr_left fun j hj => ?_
  rw [if_pos (List.mem_range.1 hj), if_neg (by omega), List.append_nil, List.take_add_one, List.getElem?_eq_getElem hi, List.map_append]
  have e : m.getD i [] = m[i] := by rw [List.getD_eq_getElem?_getD, List.getElem?_eq_getElem hi]; rfl
  rw [e]
  rfl
theorem trP_start (m : List (List Rat)) (wd : Nat) : trP m wd 0 0 = List.replicate wd [] := by
  apply List.ext_getElem
  · simp [trP]
  · intro j h1 h2
    simp [trP]
theorem trP_end (m : List (List Rat)) (wd : Nat) : trP m wd m.length 0 = trQ m wd := by
  unfold trP trQ
  refine List.map_congr_left fun j _ => ?_
  rw [if_neg (by omega), List.append_nil, List.take_length]
set_option maxRecDepth 100000 in
set_option maxHeartbeats 4000000 in
theorem transposed_any (m : List (List Rat)) (n wd : Nat) (A : Option Addr) (c : Nat) (w : World) (hm : RM w A n m) (hr : Rect m n wd) (hwd : wdQ m = wd) (hn : n ≤ 1000000) (hw : wd ≤ 1000000) :
    Calls Tryz.prog 103 #[.slice A n c] w (RetLM w (trQ m wd)) := by
  have hmk := make_mat wd (by omega)
  have HP := Lib.hid (show ∃ vs, LM (w.alloc (.cells (Array.replicate wd (Value.slice none 0 0)) rowT)) w.heap.size (.slice (some ⟨w.heap.size, 0, none⟩) wd wd) vs (trP m wd 0 0) from ⟨_, by rw [trP_start]; exact LM.start w wd (by unfold maxLen; omega)⟩)
  have HB := Lib.hid (below_new w (.cells (Array.replicate wd (Value.slice none 0 0)) rowT))
  have HM := Lib.hid hm
  have HR := Lib.hid hr
  have HC := Lib.hid (lwidth_any m n A c w hm)
  rw [hwd] at HC
  clear hm hr hwd
  unfold rowT at hmk
  go_enter Tryz.func103, Tryz.ntmps103
  go_wp2_with fail
  refine HC.out.mono ?_
  rintro e w1 ⟨rfl, rfl⟩
  clear HC
  go_wp2
  clear hmk
  go_loopg [13] (n - 0) (fun r v wr => ∃ i : Nat, r = n - i ∧ v = I i ∧ i ≤ n ∧ Hid (∃ vs, LM wr w1.heap.size (.slice (some ⟨w1.heap.size, 0, none⟩) wd wd) vs (trP m wd i 0)) ∧ Hid (Below w1.heap.size w1 wr))
  case atStart => exact ⟨0, rfl, rfl, by omega, HP, HB⟩
  case round =>
    clear HP HB
    obtain ⟨i, rfl, rfl, hi, HP, HB⟩ := hrel
    obtain ⟨wa, rfl⟩ : ∃ wa : World, wa = wr := ⟨_, rfl⟩
    by_cases hlt : i < n
    · obtain ⟨x, hx⟩ : ∃ x, m[i]? = some x := ⟨_, List.getElem?_eq_getElem (by rw [HR.out.len]; exact hlt)⟩
      obtain ⟨b, off, B, d, rfl, _, hc, hrx⟩ := HM.out.at_ hlt x hx
      have hc := (HB.out.cell (World.block_lt_of_cell? _ _ hc)).trans hc
      have hxl : x.length = wd := HR.out.row x (List.mem_of_getElem? hx)
      have HRX := Lib.hid hrx
      have HX := Lib.hid (show m.getD i [] = x by rw [List.getD_eq_getElem?_getD, hx]; rfl)
      rw [hxl] at hc HRX
      have HXL := Lib.hid hxl
      clear hx hrx hxl
      go_wp2
      clear hc
      go_loopg [19] (wd - 0) (fun r v wr => ∃ k : Nat, r = wd - k ∧ v = I k ∧ k ≤ wd ∧ Hid (∃ vs, LM wr w1.heap.size (.slice (some ⟨w1.heap.size, 0, none⟩) wd wd) vs (trP m wd i k)) ∧ Hid (Below w1.heap.size w1 wr))
      case atStart => exact ⟨0, rfl, rfl, by omega, HP, HB⟩
      case round =>
        clear HP HB
        obtain ⟨k, rfl, rfl, hk, HP, HB⟩ := hrel
        obtain ⟨wb, rfl⟩ : ∃ wb : World, wb = wr := ⟨_, rfl⟩
        by_cases hkl : k < wd
        · obtain ⟨q, hq⟩ : ∃ q, x[k]? = some q := ⟨_, List.getElem?_eq_getElem (by rw [HXL.out]; exact hkl)⟩
          obtain ⟨b2, o2, nb, B1, l1, c1, B2, l2, c2, rfl, _, hC, hrt⟩ := (HRX.out.below HB.out).form hkl q hq
          have HQ := Lib.hid (show (m.getD i []).getD k 0 = q by rw [HX.out, List.getD_eq_getElem?_getD, hq]; rfl)
          have hb1 := below_new wb (.cells #[.bool nb, .slice B1 l1 c1, .bool false, .slice B2 l2 c2] ratT)
          have hb2 := below_draw (wb.alloc (.cells #[.bool nb, .slice B1 l1 c1, .bool false, .slice B2 l2 c2] ratT))
          have HBox := Lib.hid ((boxes1 wb (.bool nb) (.slice B1 l1 c1) (.bool false) (.slice B2 l2 c2)).1.below hb2)
          have HRT := Lib.hid ((hrt.ext hb1).ext hb2)
          have HB1 := Lib.hid ((HB.out.trans (hb1.mono HB.out.size)).trans (hb2.mono (HB.out.trans (hb1.mono HB.out.size)).size))
          obtain ⟨vs, hLM⟩ := HP.out
          have hL1 := (hLM.call hb1).call hb2
          obtain ⟨g, o3, cap, Bu, cu, e3, _, _, hu, hcell, _, _⟩ := hL1.at_ (i := k) (by rw [trP_len]; exact hkl)
          obtain ⟨rfl, rfl⟩ := sl_inj e3
          rw [Nat.zero_add] at hcell
          have hget := trP_get m i hkl
          rw [List.getD_eq_getElem?_getD, hget, Option.getD_some] at hu hcell
          have HLT := Lib.hid (fun g hg => ((hLM.inner k _ _ hu hget).lt (g := g) hg).2)
          have HC0 := Lib.hid hcell
          have HU := Lib.hid hu
          have HL1 := Lib.hid hL1
          have HG := Lib.hid hget
          have q0 := hC.c0
          have q1 := hC.c1
          have q2 := hC.c2
          have q3 := hC.c3
          generalize hlu : ((m.take i).map fun r => r.getD k 0).length = lu at *
          have HLU := Lib.hid hlu
          have hlu6 : lu ≤ 1000000 := by rw [← hlu, List.length_map, List.length_take]; omega
          clear e3 hcell hu hget hL1 hLM hb1 hb2 hq hrt hC HP HB hlu
          unfold ratT at *
          go_upto_region 8 with (fail)
          clear q0 q1 q2 q3
          generalize hbx : wb.heap.size = bx at *
          refine wp_region_c (fun w' => w'.cell? ⟨w1.heap.size, k, none⟩ = some (.slice Bu lu cu) ∧ w'.cell? ⟨bx, 0, none⟩ = some (.bool nb) ∧ w'.cell? ⟨bx, 1, none⟩ = some (.slice B1 l1 c1) ∧ w'.cell? ⟨bx, 2, none⟩ = some (.bool false) ∧ w'.cell? ⟨bx, 3, none⟩ = some (.slice B2 l2 c2)) 10 (by kernel_rfl) ?_
          generalize (wb.alloc (Obj.cells #[Value.bool nb, Value.slice B1 l1 c1, Value.bool false, Value.slice B2 l2 c2] 121)).drew = W1 at *
          refine wpAnyC_take8 (i := 0) (oi := _) (v := .slice (some ⟨w1.heap.size, 0, none⟩) wd wd) rfl (by kernel_rfl) (by kernel_rfl) (by kernel_rfl) (by kernel_rfl) (by kernel_rfl) (by kernel_rfl) (fun _ _ _ h => h) (Or.inl ⟨by rfl, ?_⟩) ⟨HC0.out, HBox.out.c0, HBox.out.c1, HBox.out.c2, HBox.out.c3⟩ ?_
          · intro w hSw
            obtain ⟨s0, s1, s2, s3, s4⟩ := hSw
            go_simp
          try simp only [Act.put, List.setIfInBounds_toArray]
          refine wpAnyC_take8 (i := 1) (oi := _) (v := I k) rfl (by kernel_rfl) (by kernel_rfl) (by kernel_rfl) (by kernel_rfl) (by kernel_rfl) (by kernel_rfl) (fun _ _ _ h => h) (Or.inl ⟨by rfl, ?_⟩) ⟨HC0.out, HBox.out.c0, HBox.out.c1, HBox.out.c2, HBox.out.c3⟩ ?_
          · intro w hSw
            obtain ⟨s0, s1, s2, s3, s4⟩ := hSw
            go_simp
          try simp only [Act.put]
          refine wpAnyC_take8 (i := 2) (oi := _) (v := .slice (some ⟨w1.heap.size, 0, none⟩) wd wd) rfl (by kernel_rfl) (by kernel_rfl) (by kernel_rfl) (by kernel_rfl) (by kernel_rfl) (by kernel_rfl) (fun _ _ _ h => h) (Or.inl ⟨by rfl, ?_⟩) ⟨HC0.out, HBox.out.c0, HBox.out.c1, HBox.out.c2, HBox.out.c3⟩ ?_
          · intro w hSw
            obtain ⟨s0, s1, s2, s3, s4⟩ := hSw
            go_simp
          try simp only [Act.put]
          refine wpAnyC_take8 (i := 3) (oi := _) (v := I k) rfl (by kernel_rfl) (by kernel_rfl) (by kernel_rfl) (by kernel_rfl) (by kernel_rfl) (by kernel_rfl) (fun _ _ _ h => h) (Or.inl ⟨by rfl, ?_⟩) ⟨HC0.out, HBox.out.c0, HBox.out.c1, HBox.out.c2, HBox.out.c3⟩ ?_
          · intro w hSw
            obtain ⟨s0, s1, s2, s3, s4⟩ := hSw
            go_simp
          try simp only [Act.put]
          refine wpAnyC_take8 (i := 4) (oi := _) (v := .pointer (some ⟨w1.heap.size, k, none⟩)) rfl (by kernel_rfl) (by kernel_rfl) (by kernel_rfl) (by kernel_rfl) (by kernel_rfl) (by kernel_rfl) (fun _ _ _ h => h) (Or.inl ⟨by rfl, ?_⟩) ⟨HC0.out, HBox.out.c0, HBox.out.c1, HBox.out.c2, HBox.out.c3⟩ ?_
          · intro w hSw
            obtain ⟨s0, s1, s2, s3, s4⟩ := hSw
            go_simp
          try simp only [Act.put]
          refine wpAnyC_take8 (i := 5) (oi := _) (v := .slice Bu lu cu) rfl (by kernel_rfl) (by kernel_rfl) (by kernel_rfl) (by kernel_rfl) (by kernel_rfl) (by kernel_rfl) (fun _ _ _ h => h) (Or.inl ⟨by rfl, ?_⟩) ⟨HC0.out, HBox.out.c0, HBox.out.c1, HBox.out.c2, HBox.out.c3⟩ ?_
          · intro w hSw
            obtain ⟨s0, s1, s2, s3, s4⟩ := hSw
            go_simp
          try simp only [Act.put]
          refine wpAnyC_take8 (i := 6) (oi := _) (v := .agg #[.bool nb, .slice B1 l1 c1, .bool false, .slice B2 l2 c2]) rfl (by kernel_rfl) (by kernel_rfl) (by kernel_rfl) (by kernel_rfl) (by kernel_rfl) (by kernel_rfl) (fun _ _ _ h => h) (Or.inl ⟨by rfl, ?_⟩) ⟨HC0.out, HBox.out.c0, HBox.out.c1, HBox.out.c2, HBox.out.c3⟩ ?_
          · intro w hSw
            obtain ⟨s0, s1, s2, s3, s4⟩ := hSw
            go_simp
          try simp only [Act.put]
          refine wpAnyC_one (i := 7) (by kernel_rfl) rfl (fun K hK => ?_)
          go_simp
          have hb3 := below_new W1 (.cells #[.bool nb, .slice B1 l1 c1, .bool false, .slice B2 l2 c2] 121)
          have HC1 := Lib.hid (cell_below HC0.out hb3)
          have HBox1 := Lib.hid (HBox.out.below hb3)
          have HL2 := Lib.hid (HL1.out.call hb3)
          have HRT2 := Lib.hid (HRT.out.ext hb3)
          have HB2 := Lib.hid (HB1.out.trans (hb3.mono HB1.out.size))
          have hBlk := Blk.new W1 121 #[.bool nb, .slice B1 l1 c1, .bool false, .slice B2 l2 c2]
          refine hK.out _ _ (fun _ => ⟨HC1.out, HBox1.out.c0, HBox1.out.c1, HBox1.out.c2, HBox1.out.c3⟩) ?_
          clear hK K hb3 HC0 HBox HL1 HRT HB1
          try simp only [Act.put, List.setIfInBounds_toArray, List.set_cons_zero, List.set_cons_succ]
          generalize hgx : W1.heap.size = gx at *
          generalize W1.alloc (.cells #[.bool nb, .slice B1 l1 c1, .bool false, .slice B2 l2 c2] 121) = W2 at *
          have hru := HL2.out.inner k _ _ HU.out HG.out
          refine wpAnyC_one (i := 8) (by kernel_rfl) rfl (fun K hK => ?_)
          refine step_app1 (by rfl) _ _ (by rfl) w1.heap.size (.slice Bu lu cu) _ (by kernel_rfl) hru gx (by kernel_rfl) hBlk HRT2.out (by rw [HLU.out]; exact hlu6) HB2.out.size ?_
          intro v3 W3 hap
          obtain ⟨h1, h2, h3, h4, h5⟩ := HL2.out.app (trP_len _ _ _ _) hkl HU.out HG.out hap HB2.out.size
          rw [Nat.zero_add] at h1 h3 h4
          have HBox2 := Lib.hid (HBox1.out.keepB (hap.grown.block bx HBox1.out.lt (fun e => Nat.lt_irrefl _ (HLT.out bx e.symm))))
          refine hK.out _ _ (fun _ => ⟨h3, HBox2.out.c0, HBox2.out.c1, HBox2.out.c2, HBox2.out.c3⟩) ?_
          clear hK K
          try simp only [Act.put, List.setIfInBounds_toArray]
          refine wpAnyC_one (i := 9) (by kernel_rfl) rfl (fun K hK => ?_)
          go_simp
          refine hK.out _ _ (fun _ => ⟨h3, HBox2.out.c0, HBox2.out.c1, HBox2.out.c2, HBox2.out.c3⟩) ?_
          clear hK K HBox2 HBox1
          have hN := trP_set m i hkl
          rw [HQ.out] at hN
          rw [hN] at h1
          obtain ⟨A3, c3, rfl⟩ := hap.row.val
          have HN := Lib.hid (show ∃ vs, LM (W3.setCell ⟨w1.heap.size, k, none⟩ _) w1.heap.size (.slice (some ⟨w1.heap.size, 0, none⟩) wd wd) vs (trP m wd i (k + 1)) from ⟨_, h1⟩)
          have HB4 := Lib.hid ((HB2.out.trans h2).setCell (p := ⟨w1.heap.size, k, none⟩) (Nat.le_refl _) (.slice A3 (((m.take i).map fun r => r.getD k 0) ++ [q]).length c3))
          generalize (((m.take i).map fun r => r.getD k 0) ++ [q]).length = l3 at *
          clear h1 h2 h5 hap hru hN hBlk HL2 HRT2 HB2 HC1 HU HG HLT HLU HQ
          try simp only [Act.put, List.setIfInBounds_toArray, List.set_cons_zero, List.set_cons_succ]
          refine wpAnyC_one (i := 10) (by kernel_rfl) rfl (fun K hK => ?_)
          go_simp
          refine hK.out _ _ (fun h => absurd h (by decide)) ?_
          clear hK K
          refine wpAnyC_done (by kernel_rfl) ?_ _
          go_wp2
          go_roundg (wd - (k + 1))
          case measure => omega
          case rel => exact ⟨k + 1, rfl, by go_num, by omega, HN, HB4⟩
        · have hkn : k = wd := by omega
          subst hkn
          have HN := Lib.hid (show ∃ vs, LM wb w1.heap.size (.slice (some ⟨w1.heap.size, 0, none⟩) k k) vs (trP m k (i + 1) 0) by
            have := HP.out
            rwa [trP_next m k (by rw [HR.out.len]; exact hlt)] at this)
          clear HP
          go_wp2
          go_roundg (n - (i + 1))
          case measure => omega
          case rel => exact ⟨i + 1, rfl, by go_num, by omega, HN, HB⟩
    · have hin : i = n := by omega
      subst hin
      obtain ⟨vs, hLM⟩ := HP.out
      have he := trP_end m wd
      rw [HR.out.len] at he
      rw [he] at hLM
      have HF := Lib.hid hLM
      clear hLM HP he
      go_wp2
      go_ret
      exact ⟨_, _, rfl, HF.out, HB.out⟩
end Go.Proofs.YtgecdcjfncfmcaaGreatDoor
namespace Go.Proofs.YtgecdcjfncfmcaaGreatDoor
open Go.RowKit

/-- a matrix of strings that the call owns -/
def Sows (w : World) (base : Nat) (v : Value) (m : List (List ByteArray)) : Prop :=
  ∃ vs, Row w base vecT 1 v m.length vs ∧ ∀ (i : Nat) (u : Value) (l : List ByteArray), vs[i]? = some u → m[i]? = some l → Row w base strT 1 u l.length (l.map Sv)
theorem Sows.nil (w : World) (base : Nat) : Sows w base (.slice none 0 0) [] := ⟨[], Row.nil _ _ _ _, fun i u l h => by simp at h⟩
theorem Sows.call {w w' : World} {base : Nat} {v : Value} {m : List (List ByteArray)} (h : Sows w base v m) (hb : Below w.heap.size w w') : Sows w' base v m := by
  obtain ⟨vs, h1, h2⟩ := h
  exact ⟨vs, h1.call hb, fun i u l a b => (h2 i u l a b).call hb⟩
theorem Sows.smat {w : World} {base : Nat} {A : Option Addr} {n c : Nat} {m : List (List ByteArray)} (h : Sows w base (.slice A n c) m) : SMat w A n m := by
  obtain ⟨vs, h1, h2⟩ := h
  have hn : n = m.length := by
    obtain ⟨A', c', e⟩ := h1.val
    injection e
  subst hn
  refine ⟨vs, h1.reads, rfl, fun i u l a b => ?_⟩
  have hr := h2 i u l a b
  obtain ⟨B, c', rfl⟩ := hr.val
  exact ⟨B, c', rfl, by have := hr.reads; simpa using this⟩
theorem Sows.snoc {w w' : World} {base : Nat} {v v' u : Value} {m : List (List ByteArray)} {l : List ByteArray} {vs : List Value} (h1 : Row w base vecT 1 v m.length vs) (h2 : ∀ (i : Nat) (u : Value) (l : List ByteArray), vs[i]? = some u → m[i]? = some l → Row w base strT 1 u l.length (l.map Sv))
    (hu : Row w base strT 1 u l.length (l.map Sv)) (hr : Row w' base vecT 1 v' (m.length + 1) (vs ++ [u])) (hg : w.grownBy w' v.ownBlock) : Sows w' base v' (m ++ [l]) := by
  have hl : vs.length = m.length := by have := h1.1; omega
  refine ⟨vs ++ [u], by simpa using hr, fun i x y hx hy => ?_⟩
  by_cases hlt : i < m.length
  · rw [List.getElem?_append_left (by omega)] at hx
    rw [List.getElem?_append_left hlt] at hy
    exact (h2 i x y hx hy).apart h1 (by decide) hg
  · rw [List.getElem?_append_right (by omega)] at hx hy
    have hi : i - m.length = 0 := by
      have := (List.getElem?_eq_some_iff.1 hy).1
      simp at this; omega
    rw [hl, hi] at hx
    rw [hi] at hy
    simp at hx hy
    subst hx hy
    exact hu.apart h1 (by decide) hg
/-- what Text returns -/
def RetMT (w : World) (r : MT × Int) (e : Ending) (w' : World) : Prop :=
  ∃ A n c m, e = .returned (.tuple #[.slice A n c, I r.2]) ∧ SMat w' A n m ∧ tx2 m = r.1 ∧ Sh2 m ∧ Below w.heap.size w w'
theorem RetMT.none_ {w w' : World} {c : Int} {r : MT × Int} (h : r = ([], c)) (hb : Below w.heap.size w w') : RetMT w r (.returned (.tuple #[.slice none 0 0, I c])) w' :=
  ⟨none, 0, 0, [], by rw [h], ⟨[], Reads.nil, rfl, fun i u l h => by simp at h⟩, by rw [h]; rfl, fun l h => by simp at h, hb⟩
def mkM (m : List (List Rat)) : List (List ByteArray) := m.map fun r => mkS (r.map qText)
theorem tx_mkM (m : List (List Rat)) : tx2 (mkM m) = m.map fun r => r.map qText := by
  unfold tx2 mkM
  rw [List.map_map]
  exact List.map_congr_left fun r _ => tx_mk _
theorem sh_mkM {m : List (List Rat)} (h : m.all (fun r => r.all fitQ) = true) : Sh2 (mkM m) := by
  intro l hl
  obtain ⟨r, hr, rfl⟩ := List.mem_map.1 hl
  rw [List.all_eq_true] at h
  exact sh_mk (h r hr)
set_option maxRecDepth 100000 in
set_option maxHeartbeats 1000000 in
theorem textM_any (m : List (List Rat)) (n : Nat) (A : Option Addr) (c : Nat) (w : World) (hm : RM w A n m) (hn : n ≤ 1000000) (hw : ∀ r ∈ m, r.length ≤ 1000000) (htab : Tab w) :
    Calls Tryz.prog 89 #[.slice A n c] w (RetMT w (txM m)) := by
  have hl := hm.len
  have HM := Lib.hid hm
  have HTB := Lib.hid htab
  have HW := Lib.hid hw
  obtain ⟨i0, hi, hz0, hz1, hz2⟩ := info_parts info_vec
  have HI := Lib.hid hi
  have HZ0 := Lib.hid hz0
  have HZ1 := Lib.hid hz1
  have HZ2 := Lib.hid hz2
  clear hm htab hw hi hz0 hz1 hz2
  unfold vecT at *
  go_enter Tryz.func89, Tryz.ntmps89
  go_wp2
  go_loopg [4, 11] (n - 0) (fun r o v wr => ∃ k : Nat, r = n - k ∧ v = I k ∧ k ≤ n ∧ Hid (Sows wr w.heap.size o (mkM (m.take k))) ∧ Hid ((m.take k).all (fun r => r.all fitQ) = true) ∧ Hid (Below w.heap.size w wr))
  case atStart => exact ⟨0, rfl, rfl, by omega, Sows.nil _ _, rfl, Below.refl _ _⟩
  case round =>
    obtain ⟨k, rfl, rfl, hk, HS, HF, HB⟩ := hrel
    obtain ⟨wa, rfl⟩ : ∃ wa : World, wa = wr := ⟨_, rfl⟩
    by_cases hlt : k < n
    · obtain ⟨x, hx⟩ : ∃ x, m[k]? = some x := ⟨_, List.getElem?_eq_getElem (by omega)⟩
      obtain ⟨b, off, B, d, rfl, _, hc, hr⟩ := (HM.out.below HB.out).at_ hlt x hx
      have HC := Lib.hid (textVec_any x x.length B d wa hr (HW.out x (List.mem_of_getElem? hx)) (tab_below HTB.out HB.out))
      have HX := Lib.hid (show m.take (k + 1) = m.take k ++ [x] by rw [List.take_add_one, hx]; rfl)
      have HL := Lib.hid (show m = m.take k ++ x :: m.drop (k + 1) by
        obtain ⟨h1, h2⟩ := List.getElem?_eq_some_iff.1 hx
        rw [← h2, ← List.drop_eq_getElem_cons h1, List.take_append_drop])
      clear hx hr
      go_wp2_with fail
      refine HC.out.mono ?_
      rintro e w1 ⟨u, rfl, h1, h2, hb⟩
      have HB1 := Lib.hid (HB.out.trans (hb.mono HB.out.size))
      cases hf : x.all fitQ with
      | true =>
        have HU := Lib.hid ((h1 hf).less HB.out.size)
        have HF1 := Lib.hid (show (m.take (k + 1)).all (fun r => r.all fitQ) = true by rw [HX.out, List.all_append, HF.out]; simp [hf])
        have te : (txV x).2 = 0 := by rw [txV, if_pos hf]
        obtain ⟨Au, cu, hu⟩ := (h1 hf).val
        obtain ⟨vs, hs1, hs2⟩ := HS.out.call hb
        have HS1 := Lib.hid hs1
        have HS2 := Lib.hid hs2
        have hml : (mkM (m.take k)).length = k := by simp [mkM]; omega
        rw [hml] at HS1
        rw [te]
        have hbs := HB1.out.size
        clear hs1 hs2 h1 h2 hb HC HF HB hc te
        generalize hlx : x.length = lx at *
        subst hu
        go_wp2_with (at_builtin; refine wpList_append_rowG rfl _ _ 57 rfl w.heap.size 31 i0 _ 1 24 Tryz.underlying57 HI.out HZ0.out HZ1.out HZ2.out rfl (by decide) _ k vs rfl (HS1.out.alloc _) (w1.heap.size + 1) (some ⟨w1.heap.size, 0, none⟩) 1 1 [.slice Au lx cu] rfl (reads_one w1 _ _) (by intro u hu; simp at hu; subst hu; rfl) ?c1 ?c2 ?c3 ?_)
        case c1 => unfold maxLen; omega
        case c2 => omega
        case c3 => simp; omega
        intro v' w2 hr2 hg2
        have HSN := Lib.hid (show Sows w2 w.heap.size v' (mkM (m.take (k + 1))) by
          rw [HX.out, mkM, List.map_append]
          refine Sows.snoc (w := w1.alloc _) (u := .slice Au lx cu) (l := mkS (x.map qText)) (vs := vs) ?_ (fun i u l a b => (HS2.out i u l a b).alloc _) ?_ ?_ hg2
          · show Row _ _ _ _ _ (mkM (m.take k)).length _
            rw [hml]; exact HS1.out.alloc _
          · have := HU.out.alloc (.cells #[.slice Au lx cu] 31)
            rwa [show (mkS (x.map qText)).length = lx by simp [mkS, hlx]]
          · show Row _ _ _ _ _ ((mkM (m.take k)).length + 1) _
            rw [hml]; exact hr2)
        have HB2 := Lib.hid (show Below w.heap.size w w2 from (HB1.out.alloc hbs _).trans ((HS1.out.alloc _).belowG hg2 (by simp; omega)))
        obtain ⟨A2, c2, rfl⟩ := hr2.val
        clear hr2 hg2 HS1 HS2 HU HB1 HL HX hml hbs
        go_wp2
        go_roundg (n - (k + 1))
        case measure => omega
        case rel => exact ⟨k + 1, rfl, by go_num, by omega, HSN, HF1, HB2⟩
      | false =>
        have HQ := Lib.hid (RetMT.none_ (c := 2) (show txM m = ([], 2) by
          rw [txM, if_neg]
          rw [HL.out, List.all_append, List.all_cons, hf]; simp) HB1.out)
        have te : (txV x).2 = 2 := by rw [txV, if_neg (by simp [hf])]
        rw [te]
        obtain rfl := h2 hf
        clear h1 h2 hb HC HF HS HB hc te hf HL HX
        go_wp2
        go_ret2
        exact HQ.out
    · have hkn : k = n := by omega
      subst hkn
      have hs := HS.out
      have hf := HF.out
      rw [List.take_of_length_le (by omega)] at hs hf
      have hml : (mkM m).length = k := by simp [mkM, hl]
      obtain ⟨vs, h1, h2⟩ := id hs
      rw [hml] at h1
      obtain ⟨A2, c2, rfl⟩ := h1.val
      have HQ := Lib.hid (show RetMT w (txM m) (.returned (.tuple #[.slice A2 k c2, I 0])) wa from ⟨A2, k, c2, mkM m, by rw [txM_fit hf], hs.smat, by rw [txM_fit hf]; exact tx_mkM m, sh_mkM hf, HB.out⟩)
      clear hs hf HS HF h1 h2 hml
      go_wp2
      go_ret2
      exact HQ.out
end Go.Proofs.YtgecdcjfncfmcaaGreatDoor
