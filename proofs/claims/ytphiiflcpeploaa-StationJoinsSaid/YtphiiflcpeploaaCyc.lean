/- graph.all, graph.Path, graph.Cycles; slices.Contains at ints. -/
import Derived.Test.YtphiiflcpeploaaPath
import Derived.Test.YtphiiflcpeploaaMem2
namespace Go.Proofs.Ytphiiflcpeploaa
open Go.RowKit

def allTo (i n : Nat) : List Int := (List.range n).map fun j => if j < i then (j : Int) else 0
def allL (n : Nat) : List Int := (List.range n).map Int.ofNat
theorem allTo_len (i n : Nat) : (allTo i n).length = n := by simp [allTo]
theorem allTo_set {i n : Nat} (_h : i < n) : (allTo i n).set i i = allTo (i + 1) n := by
  apply List.ext_getElem
  · simp [allTo]
  · intro j h1 h2
    simp [allTo, List.getElem_set]
    by_cases e : i = j
    · subst e; simp
    · simp [e]
      have : j < i ↔ j < i + 1 := by omega
      simp [this]
theorem allTo_end (n : Nat) : allTo n n = allL n := by
  apply List.ext_getElem
  · simp [allTo, allL]
  · intro j h1 h2
    simp [allTo, allL] at h1 ⊢
    intro h; omega
theorem allTo_zero (n : Nat) : allTo 0 n = List.replicate n 0 := by
  apply List.ext_getElem
  · simp [allTo]
  · intro j h1 h2
    simp [allTo]
theorem nums_row {w : World} {g n : Nat} {o : List Int} {wr : World} (h : Nums w g n o wr) (hg : w.heap.size ≤ g) (hn : n ≤ 1000000) : Row wr w.heap.size 3 1 (.slice (some ⟨g, 0, none⟩) n n) o.length (o.map I) := by
  have hl := h.len
  subst hl
  refine ⟨by simp, .inr ⟨g, 0, o.length, _, rfl, hg, h.blk, Nat.le_refl _, by unfold maxLen; omega, by simp, ?_⟩⟩
  simp
  rw [List.take_of_length_le (by simp)]

set_option maxRecDepth 100000 in
set_option maxHeartbeats 1000000 in
theorem all_any (n : Nat) (A : Option Addr) (c : Nat) (w : World) (hn : n ≤ 1000000) :
    Calls Try.prog 40 #[.slice A n c] w (RetInts w (allL n)) := by
  have hmk := make28 n (by omega)
  go_enter Try.func40, Try.ntmps40
  go_wp2
  have HN : Nums w w.heap.size n (allTo 0 n) (w.alloc (.cells (Array.replicate n (I 0)) 3)) := by
    refine ⟨allTo_len _ _, ?_, (Below.refl _ _).alloc (Nat.le_refl _) _⟩
    rw [allTo_zero, List.map_replicate, List.toArray_replicate]
    exact Blk.new w 3 _
  clear hmk
  go_loopg [10] (n - 0) (fun r v wr => ∃ i : Nat, r = n - i ∧ v = I i ∧ i ≤ n ∧ Nums w w.heap.size n (allTo i n) wr)
  case atStart => exact ⟨0, rfl, rfl, by omega, HN⟩
  case round =>
    clear HN
    obtain ⟨i, rfl, rfl, hi, hN⟩ := hrel
    by_cases hlt : i < n
    · have hc := hN.cell hlt
      have hf : wr.frozen? ⟨w.heap.size, i, none⟩ = false := hN.blk.frozen i
      obtain ⟨oi, hoi⟩ : ∃ oi, (allTo i n).getD i 0 = oi := ⟨_, rfl⟩
      rw [hoi] at hc
      clear hoi
      go_wp2
      go_roundg (n - (i + 1))
      case measure => omega
      case rel => exact ⟨i + 1, rfl, by go_num, by omega, by rw [← allTo_set hlt]; exact hN.set i i (Nat.le_refl _)⟩
    · obtain rfl : i = n := by omega
      go_wp2
      go_ret
      refine ⟨_, rfl, ?_, hN.below⟩
      rw [← allTo_end]
      exact nums_row hN (Nat.le_refl _) hn

theorem contains_any (l : List Int) (n : Nat) (A : Option Addr) (c : Nat) (x : Int) (w : World) (hln : l.length = n) (hr : Reads w w.heap.size 1 A n (l.map I)) (hl : n ≤ 1000000) :
    Calls Try.prog 13 #[.slice A n c, I x] w fun e w' => e = .returned (.bool (l.contains x)) ∧ w = w' := by
  subst hln
  by_cases h0 : l.length = 0
  · have : l = [] := List.eq_nil_of_length_eq_zero h0
    subst this
    exact (Try.slices_Contains_int_empty A c x w).mono fun e w' ⟨h1, h2⟩ => ⟨by simpa using h1, h2.symm⟩
  · obtain ⟨b, off, rfl, _, hc⟩ := hr.2 (by omega)
    refine (Try.slices_Contains_int b off l.length c l x w (Nat.le_refl _) (by omega) (fun j hj => hc j _ (by simp [hj]))).mono fun e w' ⟨h1, h2⟩ => ⟨by rw [h1, List.take_of_length_le (Nat.le_refl _)], h2.symm⟩

/-- graph.Path -/
def pathE (n : Int) (l : List (Int × Int)) (a to : Int) : List Int × Int :=
  if chk n l = 0 then
    if a < 0 ∨ n ≤ a ∨ to < 0 ∨ n ≤ to then ([], 4)
    else if (pathL n.toNat l (allL l.length) a to).2 = true then ((pathL n.toNat l (allL l.length) a to).1, 0) else ([], 8)
  else ([], chk n l)
theorem all_within (l : List (Int × Int)) : Within l (allL l.length) := by
  intro k hk
  simp only [allL, List.mem_map, List.mem_range] at hk
  obtain ⟨i, hi, rfl⟩ := hk
  exact ⟨Int.natCast_nonneg i, by simpa using hi⟩

theorem path_call (n : Nat) (l : List (Int × Int)) (es : List Int) (ne : Nat) (a to : Int) (A EA : Option Addr) (c ec : Nat) (w : World) (hne : es.length = ne) (hP : PArgs w n l es a to A EA) :
    Calls Try.prog 36 #[I n, .slice A l.length c, .slice EA ne ec, I a, I to] w (RetIntsB w (pathL n l es a to)) := by
  subst hne; exact path_any n l es a to A EA c ec w hP
theorem path_args {w w1 w2 : World} {n : Nat} {l : List (Int × Int)} {A EA : Option Addr} {c ec : Nat} {a to : Int} (hG : GArgs w n l A c) (hb1 : Below w.heap.size w w1) (hb2 : Below w1.heap.size w1 w2) (hv : Valid n l) (hn : (n : Int) ≤ 24) (hl : l.length ≤ 64)
    (hrow : Row w2 w1.heap.size 3 1 (.slice EA l.length ec) l.length ((allL l.length).map I)) (ha : 0 ≤ a ∧ a < n) (hto : 0 ≤ to ∧ to < n) : PArgs w2 n l (allL l.length) a to A EA :=
  ⟨((hG.below hb1).below hb2).reads, by have := hrow.reads; simpa [allL] using this, hv, all_within l, by omega, hl, by simpa [allL] using hl, ha, hto⟩

set_option maxRecDepth 100000 in
set_option maxHeartbeats 1000000 in
theorem pathE_any (n : Int) (l : List (Int × Int)) (A : Option Addr) (c : Nat) (a to : Int) (w : World) (hG : GArgs w n l A c) :
    Calls Try.prog 17 #[I n, .slice A l.length c, I a, I to] w (RetIntsE w (pathE n l a to)) := by
  by_cases h0 : chk n l = 0
  · obtain ⟨hn0, hn, hl, hv⟩ := chk_ok h0
    have t0 : (chk n l != 0) = false := by simp [h0]
    by_cases hr : a < 0 ∨ n ≤ a ∨ to < 0 ∨ n ≤ to
    · have HP : Hid (pathE n l a to = ([], 4)) := by rw [pathE, if_pos h0, if_pos hr]; exact rfl
      clear h0
      by_cases r1 : a < 0
      · clear hr
        go_enter Try.func17, Try.ntmps17
        go_wp2_with (first | (go_at_call 34; refine (check_call hG).mono ?_; rintro e w1 ⟨rfl, hb1⟩))
        go_ret2
        rw [HP.out]
        exact ⟨_, rfl, Row.nil _ _ _ _, hb1⟩
      · by_cases r2 : n ≤ a
        · clear hr
          go_enter Try.func17, Try.ntmps17
          go_wp2_with (first | (go_at_call 34; refine (check_call hG).mono ?_; rintro e w1 ⟨rfl, hb1⟩))
          go_ret2
          rw [HP.out]
          exact ⟨_, rfl, Row.nil _ _ _ _, hb1⟩
        · by_cases r3 : to < 0
          · clear hr
            go_enter Try.func17, Try.ntmps17
            go_wp2_with (first | (go_at_call 34; refine (check_call hG).mono ?_; rintro e w1 ⟨rfl, hb1⟩))
            go_ret2
            rw [HP.out]
            exact ⟨_, rfl, Row.nil _ _ _ _, hb1⟩
          · have r4 : n ≤ to := by omega
            clear hr
            go_enter Try.func17, Try.ntmps17
            go_wp2_with (first | (go_at_call 34; refine (check_call hG).mono ?_; rintro e w1 ⟨rfl, hb1⟩))
            go_ret2
            rw [HP.out]
            exact ⟨_, rfl, Row.nil _ _ _ _, hb1⟩
    · have HP := Lib.hid (show pathE n l a to = if (pathL n.toNat l (allL l.length) a to).2 = true then ((pathL n.toNat l (allL l.length) a to).1, 0) else ([], 8) by rw [pathE, if_pos h0, if_neg hr])
      have ra : 0 ≤ a := by omega
      have rb : a < n := by omega
      have rc : 0 ≤ to := by omega
      have rd : to < n := by omega
      clear h0 hr
      obtain ⟨n, rfl⟩ := Int.eq_ofNat_of_zero_le hn0
      simp only [Int.toNat_natCast] at hv HP
      have hlen : (allL l.length).length = l.length := by simp [allL]
      have HL := Lib.hid hlen
      clear hlen
      obtain ⟨r, hr⟩ : ∃ r, pathL n l (allL l.length) a to = r := ⟨_, rfl⟩
      rw [hr] at HP
      have HR := Lib.hid hr
      clear hr
      cases hrb : r.2
      · rw [hrb] at HP
        go_enter Try.func17, Try.ntmps17
        go_wp2_with (first | (go_at_call 34; refine (check_call hG).mono ?_; rintro e w1 ⟨rfl, hb1⟩) | (go_at_call 40; refine (all_any l.length _ _ _ (by omega)).mono ?_; rintro e w2 ⟨va, rfl, hrow, hb2⟩; rw [HL.out] at hrow; obtain ⟨EA, ec, rfl⟩ := hrow.val) | (go_at_call 36; refine (path_call n l (allL l.length) l.length a to _ _ _ _ _ HL.out (path_args hG hb1 hb2 hv hn hl hrow ⟨ra, rb⟩ ⟨rc, rd⟩)).mono ?_; rintro e w3 ⟨v, rfl, hrow3, hb3⟩; rw [HR.out] at hrow3 ⊢; rw [hrb]))
        go_ret2
        rw [HP.out]
        exact ⟨_, rfl, Row.nil _ _ _ _, (hb1.trans (hb2.mono hb1.size)).trans (hb3.mono (Nat.le_trans hb1.size hb2.size))⟩
      · rw [hrb] at HP
        go_enter Try.func17, Try.ntmps17
        go_wp2_with (first | (go_at_call 34; refine (check_call hG).mono ?_; rintro e w1 ⟨rfl, hb1⟩) | (go_at_call 40; refine (all_any l.length _ _ _ (by omega)).mono ?_; rintro e w2 ⟨va, rfl, hrow, hb2⟩; rw [HL.out] at hrow; obtain ⟨EA, ec, rfl⟩ := hrow.val) | (go_at_call 36; refine (path_call n l (allL l.length) l.length a to _ _ _ _ _ HL.out (path_args hG hb1 hb2 hv hn hl hrow ⟨ra, rb⟩ ⟨rc, rd⟩)).mono ?_; rintro e w3 ⟨v, rfl, hrow3, hb3⟩; rw [HR.out] at hrow3 ⊢; rw [hrb]))
        go_ret2
        rw [HP.out, if_pos trivial]
        exact ⟨_, rfl, hrow3.less (Nat.le_trans hb1.size hb2.size), (hb1.trans (hb2.mono hb1.size)).trans (hb3.mono (Nat.le_trans hb1.size hb2.size))⟩
  · have HP : Hid (pathE n l a to = ([], chk n l)) := by rw [pathE, if_neg h0]; exact rfl
    have t0 : (chk n l != 0) = true := by simp [h0]
    clear h0
    go_enter Try.func17, Try.ntmps17
    go_wp2_with (first | (go_at_call 34; refine (check_call hG).mono ?_; rintro e w1 ⟨rfl, hb1⟩))
    go_ret2
    rw [HP.out]
    exact ⟨_, rfl, Row.nil _ _ _ _, hb1⟩

theorem tree_within (n : Nat) (l : List (Int × Int)) : Within l (treeL n l) := by
  intro k hk
  obtain ⟨i, hi, _, rfl⟩ := mem_sel.1 hk
  omega
theorem tree_len (n : Nat) (l : List (Int × Int)) : (treeL n l).length ≤ l.length := sel_len _ _

/-- the cycle that edge k closes -/
def cycleAt (n : Nat) (l : List (Int × Int)) (k : Nat) : List Int := (k : Int) :: (pathL n l (treeL n l) (edgeAt l k).2 (edgeAt l k).1).1
def cycB (n : Nat) (l : List (Int × Int)) (k : Nat) : Bool := !(treeL n l).contains (k : Int)
def cycTo (n : Nat) (l : List (Int × Int)) (k : Nat) : List (List Int) := ((List.range k).filter (cycB n l)).map (cycleAt n l)
def cyclesL (n : Nat) (l : List (Int × Int)) : List (List Int) := cycTo n l l.length
theorem cycTo_yes {n : Nat} {l : List (Int × Int)} {k : Nat} (h : cycB n l k = true) : cycTo n l (k + 1) = cycTo n l k ++ [cycleAt n l k] := by simp [cycTo, List.range_succ, List.filter_append, h]
theorem cycTo_no {n : Nat} {l : List (Int × Int)} {k : Nat} (h : cycB n l k = false) : cycTo n l (k + 1) = cycTo n l k := by simp [cycTo, List.range_succ, List.filter_append, h]
theorem cycTo_len (n : Nat) (l : List (Int × Int)) (k : Nat) : (cycTo n l k).length ≤ k := by
  have := List.length_filter_le (cycB n l) (List.range k)
  simp [cycTo] at this ⊢; omega

theorem Try.info28 : (Try.prog.info? 28).map (fun i => (i.zero, i.size, i.bytes)) = some (some (.slice none 0 0), 1, 24) := by kernel_rfl
/-- append of one slice to a row of slices, behind the block of the new element -/
theorem wpList_app24 {ops : Array Oper} {rest : List Oper} {o : Oper} {a : Act} {Q : Exit → Act → World → Prop} {W : World} (hgd : o.guard = none) (s x : Operand)
    (ho : o.op = .call { callee := .builtin .append, args := #[s, x], argTypes := #[24, 24] }) (base : Nat) (v : Value) (n : Nat) (vs : List Value) (u : Value) (hu1 : u.oneCell' = true) (N : Nat) (hN : W.heap.size = N)
    (hsv : a.eval s = v) (hx : a.eval x = .slice (some ⟨N, 0, none⟩) 1 1) (hr : Row W base 28 1 v n vs) (hq : n ≤ 1000000) (hb : base ≤ W.heap.size)
    (h : ∀ v' w', Row w' base 28 1 v' (n + 1) (vs ++ [u]) → (W.alloc (.cells #[u] 28)).grownBy w' v.ownBlock → wpList Try.prog ops Q rest (a.put o.dst v') w') :
    wpList Try.prog ops Q (o :: rest) a (W.alloc (.cells #[u] 28)) := by
  obtain ⟨i0, hi0, hz0, hz1, hz2⟩ := info_parts Try.info28
  subst hN
  exact wpList_append_rowG hgd s x 24 ho base 28 i0 (.slice none 0 0) 1 24 Try.underlying24 hi0 hz0 hz1 hz2 rfl (by decide) v n vs hsv (hr.alloc _) (W.heap.size + 1) (some ⟨W.heap.size, 0, none⟩) 1 1 [u] hx
    (reads_one W 28 u) (by simpa using hu1) (by unfold maxLen; omega) (by omega) (by simp; omega) h
/-- append of a slice's ints to a row of one int -/
theorem wpList_app28s {ops : Array Oper} {rest : List Oper} {o : Oper} {a : Act} {Q : Exit → Act → World → Prop} {W : World} (hgd : o.guard = none) (s x : Operand)
    (ho : o.op = .call { callee := .builtin .append, args := #[s, x], argTypes := #[28, 28] }) (y : Int) (N : Nat) (hN : W.heap.size = N) (A : Option Addr) (c m : Nat) (ys : List Int) (hm : ys.length = m)
    (hsv : a.eval s = .slice (some ⟨N, 0, none⟩) 1 1) (hx : a.eval x = .slice A m c) (hr : Reads W W.heap.size 1 A m (ys.map I)) (hq : m ≤ 1000000)
    (h : ∀ v' w', Row w' N 3 1 v' (m + 1) ((y :: ys).map I) → Below N (W.alloc (.cells #[I y] 3)) w' → wpList Try.prog ops Q rest (a.put o.dst v') w') :
    wpList Try.prog ops Q (o :: rest) a (W.alloc (.cells #[I y] 3)) := by
  obtain ⟨i0, hi0, hz0, hz1, hz2⟩ := info_parts Try.info3
  subst hN hm
  refine wpList_append_row hgd s x 28 ho W.heap.size 3 i0 (.int .i64 0) 1 8 Try.underlying28 hi0 hz0 hz1 hz2 rfl (by decide) _ 1 [I y] hsv (Row.one W W.heap.size 3 (I y) (Nat.le_refl _)) W.heap.size A ys.length c (ys.map I) hx
    (hr.below ((Below.refl _ _).alloc (Nat.le_refl _) _)) (by intro u hu; obtain ⟨z, _, rfl⟩ := List.mem_map.1 hu; rfl) (by unfold maxLen; omega) (by omega) (by simp) ?_
  intro v' w' h1 h2
  exact h v' w' (by rw [Nat.add_comm]; simpa using h1) h2

/-- a call that returns a new slice of slices of ints and an error -/
def RetRowsE (w : World) (r : List (List Int) × Int) (e : Ending) (w' : World) : Prop := ∃ v, e = .returned (.tuple #[v, I r.2]) ∧ Rows2 w' w.heap.size 28 3 v r.1 ∧ Below w.heap.size w w'

structure CycInv (w : World) (n : Nat) (l : List (Int × Int)) (k : Nat) (v : Value) (wr : World) : Prop where
  hk : k ≤ l.length
  rows : Rows2 wr w.heap.size 28 3 v (cycTo n l k)
  below : Below w.heap.size w wr

theorem row_oneCell {w : World} {base : Nat} {e : TypeId} {sz : Nat} {v : Value} {n : Nat} {xs : List Value} (h : Row w base e sz v n xs) : v.oneCell' = true := by
  obtain ⟨A, c, rfl⟩ := h.val
  rfl

theorem back_len (l : List (Int × Int)) (es far : List Int) (to : Int) (f : Nat) (a : Int) : (back l es far to f a).length ≤ f := by
  induction f generalizing a with
  | zero => simp [back]
  | succ f ih =>
    rw [back]
    split
    · simp
    · split
      · simp
      · have := ih (nxt l a (by assumption))
        simp; exact ih _
theorem path_len {n : Nat} {l : List (Int × Int)} {es : List Int} {a to : Int} (hv : Valid n l) (hes : Within l es) (ha : 0 ≤ a ∧ a < n) (hto : 0 ≤ to ∧ to < n) : (pathL n l es a to).1.length ≤ n + 1 := by
  unfold pathL
  split
  · simp
  · have := back_len l es (farL n l es to) to (((farL n l es to).getD a.toNat 0).toNat + 1) a
    have hb := (far_inv hv hes hto).bound a ha.1 ha.2
    unfold at_ at hb
    simp only
    omega

set_option maxRecDepth 100000 in
set_option maxHeartbeats 1000000 in
theorem cycles_any (n : Int) (l : List (Int × Int)) (A : Option Addr) (c : Nat) (w : World) (hG : GArgs w n l A c) :
    Calls Try.prog 11 #[I n, .slice A l.length c] w (RetRowsE w (guardE n l [] (cyclesL n.toNat l))) := by
  by_cases h0 : chk n l = 0
  · have H0 := Lib.hid h0
    obtain ⟨hn0, hn, hl, hv⟩ := chk_ok h0
    have t0 : (chk n l != 0) = false := by simp [h0]
    clear h0
    obtain ⟨n, rfl⟩ := Int.eq_ofNat_of_zero_le hn0
    simp only [Int.toNat_natCast] at hv ⊢
    have hn : n ≤ 24 := by omega
    have HV := Lib.hid hv
    clear hv
    have htl := tree_len n l
    have HT := Lib.hid (tree_within n l)
    go_enter Try.func11, Try.ntmps11
    go_wp2_with (first | (go_at_call 34; refine (check_call hG).mono ?_; rintro e wc ⟨rfl, hbc⟩) | (go_at_call 35; refine (tree_any n l _ _ _ (hG.below hbc).reads HV.out hn hl hG.cap).mono ?_; rintro e wt ⟨vt, rfl, htrow, hbt⟩; obtain ⟨EA, ec, rfl⟩ := htrow.val))
    have hb0 : Below w.heap.size w wt := hbc.trans (hbt.mono hbc.size)
    have HTR := Lib.hid htrow.reads
    clear htrow
    go_loopg [8, 24] (l.length - 0) (fun r v8 v24 wr => ∃ k : Nat, r = l.length - k ∧ v24 = I k ∧ CycInv wt n l k v8 wr)
    case atStart => exact ⟨0, rfl, rfl, ⟨by omega, Rows2.nil _ _ _ _, Below.refl _ _⟩⟩
    case round =>
      obtain ⟨k, rfl, rfl, hS⟩ := hrel
      have hk := hS.hk
      have hbtr := hS.below
      have hbw : Below w.heap.size w wr := hb0.trans (hbtr.mono hb0.size)
      by_cases hlt : k < l.length
      · obtain ⟨b, off, rfl, hbl, hx0, hx1⟩ := reads2_at (hG.reads.below hbw) hlt
        have hval := HV.out l[k] (List.getElem_mem hlt)
        obtain ⟨y1, hy1⟩ : ∃ y, l[k].1 = y := ⟨_, rfl⟩
        obtain ⟨y2, hy2⟩ : ∃ y, l[k].2 = y := ⟨_, rfl⟩
        rw [hy1] at hx0 hval
        rw [hy2] at hx1 hval
        obtain ⟨hva, hvb, hvc, hvd⟩ := hval
        have HE := Lib.hid (show (edgeAt l k).1 = y1 ∧ (edgeAt l k).2 = y2 by
          have e : edgeAt l k = l[k] := by simp [edgeAt, hlt]
          rw [e]; exact ⟨hy1, hy2⟩)
        clear hy1 hy2
        have HTR2 := Lib.hid ((HTR.out.below hbtr).more hbtr.size)
        have HRK := Lib.hid ((hG.below hbw).reads)
        have HBA := Lib.hid (fun ob : Obj => (Below.refl wr.heap.size wr).alloc (Nat.le_refl _) ob)
        cases htc : (treeL n l).contains (k : Int)
        · have HC := Lib.hid (show cycB n l k = true by rw [cycB, htc]; rfl)
          have HPL := Lib.hid (path_len (n := n) HV.out HT.out (a := y2) (to := y1) ⟨hvc, hvd⟩ ⟨hva, hvb⟩)
          have HCA := Lib.hid (show cycleAt n l k = (k : Int) :: (pathL n l (treeL n l) y2 y1).1 by rw [cycleAt, HE.out.1, HE.out.2])
          obtain ⟨r, hr⟩ : ∃ r, pathL n l (treeL n l) y2 y1 = r := ⟨_, rfl⟩
          rw [hr] at HPL HCA
          have HR := Lib.hid hr
          clear hr
          have hcl := cycTo_len n l k
          obtain ⟨vs, hrows, hin⟩ := hS.rows
          have HROWS := Lib.hid hrows
          have HIN := Lib.hid hin
          have hpl : r.1.length ≤ 1000000 := by have := HPL.out; omega
          clear hrows hin
          go_wp2_with (first | (go_at_call 13; refine (contains_any (treeL n l) _ EA ec k _ rfl ?_ (by omega)).mono ?_; exact (HTR2.out.below (HBA.out _)).more (by simp); rintro e w1 ⟨rfl, rfl⟩; rw [htc]) | (go_at_call 36; refine (path_any n l (treeL n l) y2 y1 _ _ _ _ _ ?_).mono ?_; exact ⟨(HRK.out.below (HBA.out _)).more (by simp), (HTR2.out.below (HBA.out _)).more (by simp), HV.out, HT.out, hn, hl, by omega, ⟨hvc, hvd⟩, ⟨hva, hvb⟩⟩; rintro e w2 ⟨vw, rfl, hrow2, hb2⟩; rw [HR.out] at hrow2 ⊢; obtain ⟨WA, wcap, rfl⟩ := hrow2.val; have HRD := Lib.hid hrow2.reads; clear hrow2; have HB2 := Lib.hid ((HBA.out _).trans (hb2.mono (by simp))); clear hb2) | (at_builtin; refine wpList_app28s rfl _ _ rfl k w2.heap.size rfl WA wcap r.1.length r.1 rfl (by rfl) (by rfl) HRD.out hpl ?_; intro v48 w3 hrow48 hb48; have HB3 := Lib.hid (HB2.out.trans (((Below.refl _ _).alloc HB2.out.size _).trans (hb48.mono HB2.out.size))); obtain ⟨A48, c48, hv48⟩ := hrow48.val; rw [hv48] at hrow48 ⊢; have H48 := Lib.hid hrow48; clear hb48 hrow48 hv48) | (at_builtin; refine wpList_app24 rfl _ _ rfl wt.heap.size u8 (cycTo n l k).length vs (.slice A48 (r.1.length + 1) c48) rfl w3.heap.size rfl (by rfl) (by rfl) (HROWS.out.call HB3.out) (by omega) (Nat.le_trans hbtr.size HB3.out.size) ?_; intro v50 w4 hrow50 hg50))
          go_roundg (l.length - (k + 1))
          case measure => omega
          case rel =>
            refine ⟨k + 1, rfl, by go_num, ⟨by omega, ?_, ?_⟩⟩
            · rw [cycTo_yes HC.out, HCA.out]
              refine Rows2.snoc (w := w3.alloc (.cells #[.slice A48 (r.1.length + 1) c48] 28)) (v := u8) (u := .slice A48 (r.1.length + 1) c48) (vs := vs) (by decide) ((HROWS.out.call HB3.out).alloc _) (fun i hi x hx => ((HIN.out i hi x hx).call HB3.out).alloc _) ?_ hrow50 hg50
              exact (H48.out.less (Nat.le_trans hbtr.size HB2.out.size)).alloc _
            · have h1 : Below wt.heap.size wt w3 := hbtr.trans (HB3.out.mono hbtr.size)
              exact (h1.alloc h1.size _).trans (((HROWS.out.call HB3.out).alloc _).belowG hg50 (by simp; have := h1.size; omega))
        · have HC := Lib.hid (show cycB n l k = false by rw [cycB, htc]; rfl)
          go_wp2_with (first | (go_at_call 13; refine (contains_any (treeL n l) _ EA ec k _ rfl ?_ (by omega)).mono ?_; exact (HTR2.out.below (HBA.out _)).more (by simp); rintro e w1 ⟨rfl, rfl⟩; rw [htc]))
          go_roundg (l.length - (k + 1))
          case measure => omega
          case rel => exact ⟨k + 1, rfl, by go_num, ⟨by omega, by rw [cycTo_no HC.out]; exact hS.rows.call (HBA.out _), hbtr.trans ((HBA.out _).mono hbtr.size)⟩⟩
      · obtain rfl : k = l.length := by omega
        go_wp2
        go_ret2
        rw [guardE, if_pos H0.out]
        exact ⟨_, rfl, hS.rows.less hb0.size, hbw⟩
  · have H0 := Lib.hid h0
    have t0 : (chk n l != 0) = true := by simp [h0]
    clear h0
    go_enter Try.func11, Try.ntmps11
    go_wp2_with (first | (go_at_call 34; refine (check_call hG).mono ?_; rintro e w1 ⟨rfl, hb1⟩))
    go_ret2
    rw [guardE, if_neg H0.out]
    exact ⟨_, rfl, Rows2.nil _ _ _ _, hb1⟩
end Go.Proofs.Ytphiiflcpeploaa
