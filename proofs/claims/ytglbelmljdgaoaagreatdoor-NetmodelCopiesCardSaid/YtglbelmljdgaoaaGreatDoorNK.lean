/- nettext.Parse. The facts of package nettext. NettextBack: the walk. -/
import Derived.Test.YtglbelmljdgaoaaGreatDoorNG
import Derived.Test.YtglbelmljdgaoaaGreatDoorNF
import Derived.Test.YtglbelmljdgaoaaGreatDoorSetSw
import Derived.Test.YtglbelmljdgaoaaGreatDoorDJ
import Derived.Test.YtglbelmljdgaoaaGreatDoorFact
import Derived.Test.YtglbelmljdgaoaaGreatDoorEqS
namespace Go.Proofs.YtglbelmljdgaoaaGreatDoor
open Go.RowKit

theorem cut1_few (c : UInt8) : ∀ l : List UInt8, (cut1 c l).length ≤ l.length + 1
  | [] => by simp [cut1]
  | x :: r => by
    have ih := cut1_few c r
    rw [cut1]
    split
    · simp only [List.length_cons]; omega
    · split
      · simp
      · rename_i w ws e
        rw [e] at ih
        simp only [List.length_cons] at ih ⊢; omega
theorem cut1_short (c : UInt8) : ∀ (l : List UInt8), ∀ w ∈ cut1 c l, w.length ≤ l.length
  | [], w, h => by simp [cut1] at h; subst h; simp
  | x :: r, w, h => by
    have ih := cut1_short c r
    rw [cut1] at h
    split at h
    · rcases List.mem_cons.1 h with rfl | h
      · simp
      · have := ih w h; simp only [List.length_cons]; omega
    · split at h
      · simp at h; subst h; simp
      · rename_i v vs e
        rcases List.mem_cons.1 h with rfl | h
        · have := ih v (by rw [e]; exact List.mem_cons_self)
          simp only [List.length_cons]; omega
        · have := ih w (by rw [e]; exact List.mem_cons_of_mem _ h)
          simp only [List.length_cons]; omega
theorem cutB_few (c : UInt8) (s : ByteArray) : (cutB c s).length ≤ s.size + 1 := by
  rw [cutB, List.length_map]
  exact Nat.le_trans (cut1_few c (bs s)) (by rw [show (bs s).length = s.size from rfl]; exact Nat.le_refl _)
theorem cutB_short {c : UInt8} {s x : ByteArray} (h : x ∈ cutB c s) : x.size ≤ s.size := by
  rw [cutB] at h
  obtain ⟨y, hy, rfl⟩ := List.mem_map.1 h
  exact cut1_short c (bs s) y hy
/-- what the lines so far have made -/
structure Nin (n : NetD) (i : Nat) : Prop where
  ok : NetOk n
  f0 : n.nodes.length ≤ i
  f1 : n.switches.length ≤ i
  f2 : n.branches.length ≤ i
  f3 : n.gens.length ≤ i
  f4 : n.loads.length ≤ i
  f5 : n.stores.length ≤ i
theorem Nin.few {n : NetD} {i : Nat} (h : Nin n i) (hi : i ≤ 10000) : NetFew n :=
  ⟨Nat.le_trans h.f0 hi, Nat.le_trans h.f1 hi, Nat.le_trans h.f2 hi, Nat.le_trans h.f3 hi, Nat.le_trans h.f4 hi, Nat.le_trans h.f5 hi⟩
theorem mem_snoc {α : Type} {P : α → Prop} {l : List α} {a : α} (h : ∀ x ∈ l, P x) (ha : P a) : ∀ x ∈ l ++ [a], P x := by
  intro x hx
  rcases List.mem_append.1 hx with hx | hx
  · exact h x hx
  · rw [List.mem_singleton.1 hx]; exact ha
theorem len_snoc {α : Type} {l : List α} {a : α} {i : Nat} (h : l.length ≤ i) : (l ++ [a]).length ≤ i + 1 := by rw [List.length_append]; simp; exact h
theorem addW_nin {n m : NetD} {i : Nat} {l : List ByteArray} (h : Nin n i) (hs : ∀ s ∈ l, s.size ≤ 9223372036854775807) (ha : addW n l = some m) : Nin m (i + 1) := by
  have hk := h.ok
  have up : ∀ {k : Nat}, k ≤ i → k ≤ i + 1 := fun h => Nat.le_succ_of_le h
  unfold addW at ha
  split at ha
  · split at ha
    · injection ha with ha; subst ha
      exact ⟨⟨mem_snoc hk.nodes (hs _ (by simp)), hk.switches, hk.branches, hk.gens, hk.loads, hk.stores⟩, len_snoc h.f0, up h.f1, up h.f2, up h.f3, up h.f4, up h.f5⟩
    · cases ha
  · split at ha
    · obtain ⟨x, _, rfl⟩ := Option.map_eq_some_iff.1 ha
      exact ⟨⟨hk.nodes, hk.switches, hk.branches, hk.gens, mem_snoc hk.loads ⟨hs _ (by simp), hs _ (by simp)⟩, hk.stores⟩, up h.f0, up h.f1, up h.f2, up h.f3, len_snoc h.f4, up h.f5⟩
    · cases ha
  · split at ha
    · injection ha with ha; subst ha
      exact ⟨⟨hk.nodes, mem_snoc hk.switches ⟨hs _ (by simp), hs _ (by simp), hs _ (by simp)⟩, hk.branches, hk.gens, hk.loads, hk.stores⟩, up h.f0, len_snoc h.f1, up h.f2, up h.f3, up h.f4, up h.f5⟩
    · cases ha
  · split at ha
    · obtain ⟨x, _, ha⟩ := Option.bind_eq_some_iff.1 ha
      obtain ⟨y, _, ha⟩ := Option.bind_eq_some_iff.1 ha
      obtain ⟨z, _, rfl⟩ := Option.map_eq_some_iff.1 ha
      exact ⟨⟨hk.nodes, hk.switches, hk.branches, mem_snoc hk.gens ⟨hs _ (by simp), hs _ (by simp)⟩, hk.loads, hk.stores⟩, up h.f0, up h.f1, up h.f2, len_snoc h.f3, up h.f4, up h.f5⟩
    · split at ha
      · obtain ⟨x, _, ha⟩ := Option.bind_eq_some_iff.1 ha
        obtain ⟨y, _, ha⟩ := Option.bind_eq_some_iff.1 ha
        obtain ⟨z, _, rfl⟩ := Option.map_eq_some_iff.1 ha
        exact ⟨⟨hk.nodes, hk.switches, hk.branches, hk.gens, hk.loads, mem_snoc hk.stores ⟨hs _ (by simp), hs _ (by simp)⟩⟩, up h.f0, up h.f1, up h.f2, up h.f3, up h.f4, len_snoc h.f5⟩
      · cases ha
  · split at ha
    · obtain ⟨y1, _, ha⟩ := Option.bind_eq_some_iff.1 ha
      obtain ⟨y2, _, ha⟩ := Option.bind_eq_some_iff.1 ha
      obtain ⟨y3, _, ha⟩ := Option.bind_eq_some_iff.1 ha
      obtain ⟨y4, _, ha⟩ := Option.bind_eq_some_iff.1 ha
      obtain ⟨y5, _, ha⟩ := Option.bind_eq_some_iff.1 ha
      obtain ⟨y6, _, rfl⟩ := Option.map_eq_some_iff.1 ha
      exact ⟨⟨hk.nodes, hk.switches, mem_snoc hk.branches ⟨hs _ (by simp), hs _ (by simp), hs _ (by simp)⟩, hk.gens, hk.loads, hk.stores⟩, up h.f0, up h.f1, len_snoc h.f2, up h.f3, up h.f4, up h.f5⟩
    · cases ha
  · cases ha
theorem addAll_step {n m : NetD} {i : Nat} {ls : List ByteArray} {x : ByteArray} (hx : ls[i]? = some x) (h : addW n (cutB 32 x) = some m) : addAll n i (ls.drop i) = addAll m (i + 1) (ls.drop (i + 1)) := by
  obtain ⟨hi, e⟩ := List.getElem?_eq_some_iff.1 hx
  rw [List.drop_eq_getElem_cons hi, e, addAll, h]
theorem addAll_bad {n : NetD} {i : Nat} {ls : List ByteArray} {x : ByteArray} (hx : ls[i]? = some x) (h : addW n (cutB 32 x) = none) : addAll n i (ls.drop i) = .inr (i + 1) := by
  obtain ⟨hi, e⟩ := List.getElem?_eq_some_iff.1 hx
  rw [List.drop_eq_getElem_cons hi, e, addAll, h]
theorem nin_empty : Nin emptyN 0 := ⟨⟨by simp [emptyN], by simp [emptyN], by simp [emptyN], by simp [emptyN], by simp [emptyN], by simp [emptyN]⟩, Nat.le_refl _, Nat.le_refl _, Nat.le_refl _, Nat.le_refl _, Nat.le_refl _, Nat.le_refl _⟩
/-- what nettext.Parse returns -/
def RetParse (w : World) (r : NetD × Int × Int) (e : Ending) (w' : World) : Prop := ∃ v : NetV, e = .returned (.tuple #[v.val r.1, I r.2.1, I r.2.2]) ∧ NetIn w' r.1 v ∧ Below w.heap.size w w'
def nilV : NetV := ⟨none, 0, none, 0, none, 0, none, 0, none, 0, none, 0⟩
theorem nilV_in (w : World) : NetIn w emptyN nilV := ⟨Reads.nil, Reads.nil, Reads.nil, Reads.nil, Reads.nil, Reads.nil⟩
theorem ret_net {w w' : World} {n : NetD} {v : NetV} {r : NetD × Int × Int} (hr : r = (n, 0, 0)) (hin : NetIn w' n v) (hb : Below w.heap.size w w') : RetParse w r (.returned (.tuple #[.agg #[.slice v.na n.nodes.length v.nc, .slice v.sa n.switches.length v.sc, .slice v.ba n.branches.length v.bc, .slice v.ga n.gens.length v.gc, .slice v.la n.loads.length v.lc, .slice v.ta n.stores.length v.tc], I 0, I 0])) w' := by
  subst hr
  exact ⟨v, rfl, hin, hb⟩
theorem ret_none {w w' : World} {a b : Int} {r : NetD × Int × Int} (hr : r = (emptyN, a, b)) (hb : Below w.heap.size w w') : RetParse w r (.returned (.tuple #[.agg #[.slice none 0 0, .slice none 0 0, .slice none 0 0, .slice none 0 0, .slice none 0 0, .slice none 0 0], I a, I b])) w' := by
  subst hr
  exact ⟨nilV, rfl, nilV_in w', hb⟩
theorem NMk.net {w : World} {base g : Nat} {n : NetD} {v0 v1 v2 v3 v4 v5 : Value} (h : NMk w base g n v0 v1 v2 v3 v4 v5) : ∃ v : NetV, Blk w g 29 (v.parts n) ∧ NetIn w n v := by
  obtain ⟨A0, c0, rfl⟩ := h.r0.val
  obtain ⟨A1, c1, rfl⟩ := h.r1.val
  obtain ⟨A2, c2, rfl⟩ := h.r2.val
  obtain ⟨A3, c3, rfl⟩ := h.r3.val
  obtain ⟨A4, c4, rfl⟩ := h.r4.val
  obtain ⟨A5, c5, rfl⟩ := h.r5.val
  exact ⟨⟨A0, c0, A1, c1, A2, c2, A3, c3, A4, c4, A5, c5⟩, h.blk, ⟨h.r0.reads, h.r1.reads, h.r2.reads, h.r3.reads, h.r4.reads, h.r5.reads⟩⟩
theorem NMk.start (w : World) {base g : Nat} (hb : Blk w g 29 nils) (h : base ≤ g) : NMk w base g emptyN (.slice none 0 0) (.slice none 0 0) (.slice none 0 0) (.slice none 0 0) (.slice none 0 0) (.slice none 0 0) :=
  ⟨hb, Row.nil _ _ _ _, Row.nil _ _ _ _, Row.nil _ _ _ _, Row.nil _ _ _ _, Row.nil _ _ _ _, Row.nil _ _ _ _, h⟩
theorem trim_short (l k : List UInt8) : (Lib.trimSuffix l k).length ≤ l.length := by
  unfold Lib.trimSuffix
  split
  · rw [List.length_take]; omega
  · exact Nat.le_refl _
/-- what the lines give -/
def parseL (ls : List ByteArray) (ok : Bool) : NetD × Int × Int :=
  if ok = false then (emptyN, (ls.length : Int), 5)
  else match addAll emptyN 0 ls with
    | .inr i => (emptyN, (i : Int), 5)
    | .inl n => if checkN n ≠ 0 then (emptyN, 0, checkN n) else (n, 0, 0)
theorem parse_L {s : ByteArray} (h8 : ¬ 8192 < s.size) (h0 : s ≠ ⟨#[]⟩) : parseN s = parseL (cutB 10 (ba (Lib.trimSuffix (bs s) [10]))) (Lib.hasSuffix (bs s) [10]) := by
  rw [parseN, if_neg h8, if_neg h0, parseL]; rfl
set_option maxRecDepth 100000 in
set_option maxHeartbeats 4000000 in
theorem parse_any (s : ByteArray) (w : World) (hs : s.size ≤ 9223372036854775807) (hv : Vars w) : Calls Tryz.prog 20 #[.string s] w (RetParse w (parseN s)) := by
  have hb0 := (below_newF w (Obj.cells nils 29)).trans ((below_newF (w.alloc (Obj.cells nils 29)) (Obj.cells nils 29)).mono (below_newF w (Obj.cells nils 29)).size)
  have HB := Lib.hid hb0
  have HX2 := Lib.hid ((Blk.new w 29 nils).blkF (below_newF _ (Obj.cells nils 29)))
  have HX5 := Lib.hid (Blk.new (w.alloc (Obj.cells nils 29)) 29 nils)
  have HV := Lib.hid hv
  clear hb0 hv
  by_cases h8 : 8192 < s.size
  · have HP := Lib.hid (show parseN s = (emptyN, 0, 2) by rw [parseN, if_pos h8])
    have t1 : decide ((s.size : Int) > 8192) = true := decide_eq_true (by omega)
    go_enter Tryz.func20, Tryz.ntmps20
    go_wp2
    exact bodyPost_ret (v := .tuple #[.agg #[.slice none 0 0, .slice none 0 0, .slice none 0 0, .slice none 0 0, .slice none 0 0, .slice none 0 0], I 0, I 2]) (by simp [results, Tryz.results20, go_sem]) rfl (ret_none HP.out HB.out)
  · have t1 : decide ((s.size : Int) > 8192) = false := decide_eq_false (by omega)
    by_cases h0 : s = ⟨#[]⟩
    · have HP := Lib.hid (show parseN s = (emptyN, 0, 0) by rw [parseN, if_neg h8, if_pos h0])
      have t2 : (s.toList == []) = true := by rw [Lib.toList_data, h0]; rfl
      have t3 : s.toList.isEmpty = true := by rw [Lib.toList_data, h0]; rfl
      clear h0
      go_enter Tryz.func20, Tryz.ntmps20
      go_wp2
      exact bodyPost_ret (v := .tuple #[.agg #[.slice none 0 0, .slice none 0 0, .slice none 0 0, .slice none 0 0, .slice none 0 0, .slice none 0 0], I 0, I 0]) (by simp [results, Tryz.results20, go_sem]) rfl (ret_none HP.out HB.out)
    · have hne : bs s ≠ [] := fun e => h0 (by obtain ⟨⟨l⟩⟩ := s; exact congrArg ba e)
      have t2 : (s.toList == []) = false := by rw [Lib.toList_data]; exact beq_eq_false_iff_ne.2 hne
      have t3 : s.toList.isEmpty = false := by rw [Lib.toList_data]; exact Bool.eq_false_iff.2 fun e => hne (List.isEmpty_iff.1 e)
      have HP := Lib.hid (parse_L h8 h0)
      have hts : (ba (Lib.trimSuffix (bs s) [10])).size ≤ 8192 := by have h1 := trim_short (bs s) [10]; have h2 : (bs s).length = s.size := rfl; have h3 : (ba (Lib.trimSuffix (bs s) [10])).size = (Lib.trimSuffix (bs s) [10]).length := rfl; omega
      have HTR := Lib.hid fun W => Tryz.strings_TrimSuffix s ⟨#[10]⟩ W hs
      have HSU := Lib.hid (show ∀ W, Calls Tryz.prog 43 #[.string s, .string ⟨#[10]⟩] W fun e w' => e = .returned (.bool (Lib.hasSuffix (bs s) [10])) ∧ w' = W from fun W => Tryz.strings_HasSuffix s ⟨#[10]⟩ W hs)
      have hls := cutB_few 10 (ba (Lib.trimSuffix (bs s) [10]))
      have HSH := Lib.hid fun x (hx : x ∈ cutB 10 (ba (Lib.trimSuffix (bs s) [10]))) => Nat.le_trans (cutB_short hx) hts
      clear h0 hne
      have HL0 := Lib.hid (show w.heap.size < (w.alloc (Obj.cells nils 29)).heap.size by rw [World.size_alloc]; omega)
      have hne5 : w.heap.size ≠ w.heap.size + 1 := by omega
      go_enter Tryz.func20, Tryz.ntmps20
      go_wp2_with fail
      refine (HTR.out _).mono ?_
      rintro e w1 ⟨rfl, hw⟩
      rw [hw]
      clear hw w1 HTR
      rw [show (⟨(Lib.trimSuffix s.data.toList (⟨#[10]⟩ : ByteArray).data.toList).toArray⟩ : ByteArray) = ba (Lib.trimSuffix (bs s) [10]) from rfl]
      generalize ba (Lib.trimSuffix (bs s) [10]) = tr at *
      have HSP := Lib.hid fun W => split_any tr 10 W (by omega)
      go_wp2_with fail
      refine (HSP.out _).mono ?_
      rintro e w1 ⟨rfl, hw⟩
      have hne := cutB_ne 10 tr
      clear HSP
      generalize cutB 10 tr = ls at *
      have hL1 : 0 < ls.length := List.length_pos_iff.2 hne
      clear hne
      have hbl := below_newF ((w.alloc (Obj.cells nils 29)).alloc (Obj.cells nils 29)) (Obj.cells (ls.map S).toArray 9)
      have HBL := Lib.hid (Blk.new ((w.alloc (Obj.cells nils 29)).alloc (Obj.cells nils 29)) 9 (ls.map S).toArray)
      have HLS := Lib.hid (show Reads _ _ 1 (some ⟨((w.alloc (Obj.cells nils 29)).alloc (Obj.cells nils 29)).heap.size, 0, none⟩) ls.length (ls.map S) from reads_many HBL.out (by simp) rfl)
      have HX2b := Lib.hid (HX2.out.blkF hbl)
      have HX5b := Lib.hid (HX5.out.blkF hbl)
      have HBb := Lib.hid (HB.out.trans (hbl.mono HB.out.size))
      have HVb := Lib.hid (HV.out.below HBb.out)
      have HLT := Lib.hid (show w.heap.size < ((w.alloc (Obj.cells nils 29)).alloc (Obj.cells nils 29)).heap.size ∧ (w.alloc (Obj.cells nils 29)).heap.size < ((w.alloc (Obj.cells nils 29)).alloc (Obj.cells nils 29)).heap.size by rw [World.size_alloc, World.size_alloc]; omega)
      rw [hw]
      clear hw w1 hbl HBL HX2 HX5 HB HV HL0
      have HWL := Lib.hid (show (((w.alloc (Obj.cells nils 29)).alloc (Obj.cells nils 29)).alloc (Obj.cells (ls.map S).toArray 9)).heap.size = w.heap.size + 1 + 1 + 1 by simp only [World.size_alloc])
      simp only [World.size_alloc] at HX5b HLS HLT ⊢
      generalize ((w.alloc (Obj.cells nils 29)).alloc (Obj.cells nils 29)).alloc (Obj.cells (ls.map S).toArray 9) = wl at *
      obtain ⟨ok, hok⟩ : ∃ ok, Lib.hasSuffix (bs s) [10] = ok := ⟨_, rfl⟩
      rw [hok] at HSU HP
      clear hok
      go_wp2_with fail
      refine (HSU.out _).mono ?_
      rintro e w1 ⟨rfl, hw⟩
      rw [hw]
      clear hw w1 HSU
      cases ok with
      | false =>
        have HQ := Lib.hid (HP.out.trans (show parseL ls false = (emptyN, (ls.length : Int), 5) from if_pos rfl))
        have x0 := HX2b.out.cell 0
        have f0 := HX2b.out.frozen 0
        have y0 := HX5b.out.cell 0
        have x1 := HX2b.out.cell 1
        have f1 := HX2b.out.frozen 1
        have y1 := HX5b.out.cell 1
        have x2 := HX2b.out.cell 2
        have f2 := HX2b.out.frozen 2
        have y2 := HX5b.out.cell 2
        have x3 := HX2b.out.cell 3
        have f3 := HX2b.out.frozen 3
        have y3 := HX5b.out.cell 3
        have x4 := HX2b.out.cell 4
        have f4 := HX2b.out.frozen 4
        have y4 := HX5b.out.cell 4
        have x5 := HX2b.out.cell 5
        have f5 := HX2b.out.frozen 5
        have y5 := HX5b.out.cell 5
        have hX := set6_blk HX2b.out rfl (.slice none 0 0) (.slice none 0 0) (.slice none 0 0) (.slice none 0 0) (.slice none 0 0) (.slice none 0 0)
        have hS := set6_below wl w.heap.size w.heap.size (.slice none 0 0) (.slice none 0 0) (.slice none 0 0) (.slice none 0 0) (.slice none 0 0) (.slice none 0 0) (Nat.le_refl _)
        go_wp2
        rw [← set6_def]
        generalize set6 wl w.heap.size (.slice none 0 0) (.slice none 0 0) (.slice none 0 0) (.slice none 0 0) (.slice none 0 0) (.slice none 0 0) = WR at *
        have z0 := hX.cell 0
        have z1 := hX.cell 1
        have z2 := hX.cell 2
        have z3 := hX.cell 3
        have z4 := hX.cell 4
        have z5 := hX.cell 5
        exact bodyPost_ret (v := .tuple #[.agg #[.slice none 0 0, .slice none 0 0, .slice none 0 0, .slice none 0 0, .slice none 0 0, .slice none 0 0], I ls.length, I 5]) (by simp [results, Tryz.results20, go_sem, z0, z1, z2, z3, z4, z5]) rfl (ret_none HQ.out (HBb.out.trans hS))
      | true =>
        have HQ := Lib.hid (HP.out.trans (show parseL ls true = match addAll emptyN 0 ls with
          | .inr i => (emptyN, (i : Int), 5)
          | .inl n => if checkN n ≠ 0 then (emptyN, 0, checkN n) else (n, 0, 0) by rw [parseL, if_neg (by decide)]))
        clear HP
        have hz := below_newF wl (Obj.cells nils 29)
        have HK := Lib.hid (NMk.start _ (Blk.new wl 29 nils) (Nat.le_refl _))
        have HI := Lib.hid nin_empty
        have HA := Lib.hid (show addAll emptyN 0 ls = addAll emptyN 0 (ls.drop 0) from rfl)
        have HZ := Lib.hid hz
        replace HLS := Lib.hid (HLS.out.more (Nat.le_of_eq HWL.out.symm))
        have H2 := Lib.hid HX2b.out.lt
        have H5 := Lib.hid HX5b.out.lt
        clear hz
        go_wp2
        go_loopg [30] (ls.length - 0) (fun r t wr => ∃ k : Nat, ∃ (n : NetD) (v0 v1 v2 v3 v4 v5 : Value), r = ls.length - k ∧ t = I k ∧ k ≤ ls.length ∧ Hid (NMk wr wl.heap.size wl.heap.size n v0 v1 v2 v3 v4 v5) ∧ Hid (Nin n k) ∧ Hid (addAll emptyN 0 ls = addAll n k (ls.drop k)) ∧ Hid (Below wl.heap.size wl wr))
        case atStart => exact ⟨0, emptyN, _, _, _, _, _, _, rfl, rfl, by omega, HK, HI, HA, HZ⟩
        case round =>
          clear HK HI HA HZ
          obtain ⟨k, n, v0, v1, v2, v3, v4, v5, rfl, rfl, hk, HK, HI, HA, HZ⟩ := hrel
          obtain ⟨wa, rfl⟩ : ∃ wa : World, wa = wr := ⟨_, rfl⟩
          by_cases hlt : k < ls.length
          · obtain ⟨x, hx⟩ : ∃ x, ls[k]? = some x := ⟨_, List.getElem?_eq_getElem hlt⟩
            have hc : wa.cell? ⟨w.heap.size + 1 + 1, k, none⟩ = some (.string x) := by have := at_word (HLS.out.below HZ.out) hL1 hx; rwa [Nat.zero_add] at this
            have hxs := HSH.out x (List.mem_of_getElem? hx)
            have HX := Lib.hid hx
            have HSP := Lib.hid (split_any x 32 wa (by omega))
            clear hx
            go_wp2_with fail
            refine HSP.out.mono ?_
            rintro e w1 ⟨rfl, hw⟩
            clear HSP hc
            have hwl := cutB_few 32 x
            have hwn := List.length_pos_iff.2 (cutB_ne 32 x)
            have HWS := Lib.hid fun y (hy : y ∈ cutB 32 x) => Nat.le_trans (cutB_short hy) hxs
            have HST := Lib.hid fun m (h : addW n (cutB 32 x) = some m) => HA.out.trans (addAll_step HX.out h)
            have HBD := Lib.hid fun (h : addW n (cutB 32 x) = none) => HA.out.trans (addAll_bad HX.out h)
            clear HA HX
            generalize cutB 32 x = ws at *
            have hz := below_newF wa (Obj.cells (ws.map S).toArray 9)
            have HW := Lib.hid (show Reads _ _ 1 (some ⟨wa.heap.size, 0, none⟩) ws.length (ws.map S) from reads_many (Blk.new wa 9 (ws.map S).toArray) (by simp) rfl)
            have HZ3 := Lib.hid (HZ.out.trans (hz.mono HZ.out.size))
            have HAD := Lib.hid (add_any ws (some ⟨wa.heap.size, 0, none⟩) ws.length _ (HK.out.call hz) HW.out HZ3.out.size (HI.out.few (by omega)) hwn (by omega) (Nat.le_refl _) (fun y hy => Nat.le_trans (HWS.out y hy) (by omega)) (HVb.out.below HZ3.out))
            rw [hw]
            clear hw w1 hz HW HK HZ
            go_wp2_with fail
            refine HAD.out.mono ?_
            rintro e w4 ⟨hb4, (⟨m, ha, rfl, v0', v1', v2', v3', v4', v5', hk4⟩ | ⟨ha, rfl⟩)⟩
            · have HK4 := Lib.hid hk4
              have HI4 := Lib.hid (addW_nin HI.out (fun y hy => Nat.le_trans (HWS.out y hy) (by decide)) ha)
              have HA4 := Lib.hid (HST.out m ha)
              have HZ4 := Lib.hid (HZ3.out.trans hb4)
              clear hk4 ha hb4 HAD HI HST HBD HWS HZ3
              go_wp2
              go_roundg (ls.length - (k + 1))
              case measure => omega
              case rel => exact ⟨k + 1, m, v0', v1', v2', v3', v4', v5', rfl, by go_num, by omega, HK4, HI4, HA4, HZ4⟩
            · have HR := Lib.hid (HQ.out.trans (by rw [HBD.out ha]))
              have hz4 := HZ3.out.trans hb4
              have HZ4 := Lib.hid hz4
              clear ha HAD HI HST HBD HWS HZ3 hb4 hz4
              have x0 := (HX2b.out.below HZ4.out H2.out).cell 0
              have f0 := (HX2b.out.below HZ4.out H2.out).frozen 0
              have y0 := (HX5b.out.below HZ4.out H5.out).cell 0
              have x1 := (HX2b.out.below HZ4.out H2.out).cell 1
              have f1 := (HX2b.out.below HZ4.out H2.out).frozen 1
              have y1 := (HX5b.out.below HZ4.out H5.out).cell 1
              have x2 := (HX2b.out.below HZ4.out H2.out).cell 2
              have f2 := (HX2b.out.below HZ4.out H2.out).frozen 2
              have y2 := (HX5b.out.below HZ4.out H5.out).cell 2
              have x3 := (HX2b.out.below HZ4.out H2.out).cell 3
              have f3 := (HX2b.out.below HZ4.out H2.out).frozen 3
              have y3 := (HX5b.out.below HZ4.out H5.out).cell 3
              have x4 := (HX2b.out.below HZ4.out H2.out).cell 4
              have f4 := (HX2b.out.below HZ4.out H2.out).frozen 4
              have y4 := (HX5b.out.below HZ4.out H5.out).cell 4
              have x5 := (HX2b.out.below HZ4.out H2.out).cell 5
              have f5 := (HX2b.out.below HZ4.out H2.out).frozen 5
              have y5 := (HX5b.out.below HZ4.out H5.out).cell 5
              have hX := set6_blk (HX2b.out.below HZ4.out H2.out) rfl (.slice none 0 0) (.slice none 0 0) (.slice none 0 0) (.slice none 0 0) (.slice none 0 0) (.slice none 0 0)
              have hS := set6_below w4 w.heap.size w.heap.size (.slice none 0 0) (.slice none 0 0) (.slice none 0 0) (.slice none 0 0) (.slice none 0 0) (.slice none 0 0) (Nat.le_refl _)
              go_wp2
              rw [← set6_def]
              generalize set6 w4 w.heap.size (.slice none 0 0) (.slice none 0 0) (.slice none 0 0) (.slice none 0 0) (.slice none 0 0) (.slice none 0 0) = WR at *
              have z0 := hX.cell 0
              have z1 := hX.cell 1
              have z2 := hX.cell 2
              have z3 := hX.cell 3
              have z4 := hX.cell 4
              have z5 := hX.cell 5
              exact bodyPost_ret (v := .tuple #[.agg #[.slice none 0 0, .slice none 0 0, .slice none 0 0, .slice none 0 0, .slice none 0 0, .slice none 0 0], I ((k + 1 : Nat) : Int), I 5]) (by simp [results, Tryz.results20, go_sem, z0, z1, z2, z3, z4, z5]) rfl (ret_none HR.out ((HBb.out.trans (HZ4.out.mono HBb.out.size)).trans hS))
          · have hkn : k = ls.length := by omega
            subst hkn
            obtain ⟨v, hv2, hin⟩ := HK.out.net
            have HG := Lib.hid hv2
            have HN := Lib.hid (show Net wa n v from ⟨hin, HI.out.ok, Nat.le_trans HI.out.f0 (by omega), Nat.le_trans HI.out.f1 (by omega), Nat.le_trans HI.out.f2 (by omega), Nat.le_trans HI.out.f3 (by omega), Nat.le_trans HI.out.f4 (by omega), Nat.le_trans HI.out.f5 (by omega)⟩)
            have HR := Lib.hid (HQ.out.trans (by rw [HA.out, List.drop_length]; rfl) : parseN s = if checkN n ≠ 0 then (emptyN, 0, checkN n) else (n, 0, 0))
            have HCK := Lib.hid (netCheck_any n v wa HN.out)
            clear hv2 hin HK HI HA HQ
            unfold NetV.val NetV.parts at HCK
            unfold NetV.parts at HG
            have g0 := HG.out.cell 0
            have g1 := HG.out.cell 1
            have g2 := HG.out.cell 2
            have g3 := HG.out.cell 3
            have g4 := HG.out.cell 4
            have g5 := HG.out.cell 5
            go_wp2_with fail
            refine HCK.out.mono ?_
            rintro e w5 ⟨rfl, hb5⟩
            clear HCK g0 g1 g2 g3 g4 g5
            have HZ5 := Lib.hid (HZ.out.trans (hb5.mono HZ.out.size))
            have HG5 := Lib.hid (HG.out.blkF hb5)
            have HN5 := Lib.hid (HN.out.below hb5)
            clear HZ HG HN hb5
            have hne6 : w.heap.size ≠ wl.heap.size := by have := H2.out; omega
            by_cases hck : checkN n = 0
            · have tc : (checkN n != 0) = false := by rw [hck]; rfl
              have HR2 := Lib.hid (HR.out.trans (if_neg (fun q => q hck)))
              clear hck HR
              have g0 := HG5.out.cell 0
              have g1 := HG5.out.cell 1
              have g2 := HG5.out.cell 2
              have g3 := HG5.out.cell 3
              have g4 := HG5.out.cell 4
              have g5 := HG5.out.cell 5
              have x0 := (HX2b.out.below HZ5.out H2.out).cell 0
              have f0 := (HX2b.out.below HZ5.out H2.out).frozen 0
              have y0 := (HX5b.out.below HZ5.out H5.out).cell 0
              have x1 := (HX2b.out.below HZ5.out H2.out).cell 1
              have f1 := (HX2b.out.below HZ5.out H2.out).frozen 1
              have y1 := (HX5b.out.below HZ5.out H5.out).cell 1
              have x2 := (HX2b.out.below HZ5.out H2.out).cell 2
              have f2 := (HX2b.out.below HZ5.out H2.out).frozen 2
              have y2 := (HX5b.out.below HZ5.out H5.out).cell 2
              have x3 := (HX2b.out.below HZ5.out H2.out).cell 3
              have f3 := (HX2b.out.below HZ5.out H2.out).frozen 3
              have y3 := (HX5b.out.below HZ5.out H5.out).cell 3
              have x4 := (HX2b.out.below HZ5.out H2.out).cell 4
              have f4 := (HX2b.out.below HZ5.out H2.out).frozen 4
              have y4 := (HX5b.out.below HZ5.out H5.out).cell 4
              have x5 := (HX2b.out.below HZ5.out H2.out).cell 5
              have f5 := (HX2b.out.below HZ5.out H2.out).frozen 5
              have y5 := (HX5b.out.below HZ5.out H5.out).cell 5
              have hX := set6_blk (HX2b.out.below HZ5.out H2.out) rfl (Value.slice v.na n.nodes.length v.nc) (Value.slice v.sa n.switches.length v.sc) (Value.slice v.ba n.branches.length v.bc) (Value.slice v.ga n.gens.length v.gc) (Value.slice v.la n.loads.length v.lc) (Value.slice v.ta n.stores.length v.tc)
              have hS := set6_below w5 w.heap.size w.heap.size (Value.slice v.na n.nodes.length v.nc) (Value.slice v.sa n.switches.length v.sc) (Value.slice v.ba n.branches.length v.bc) (Value.slice v.ga n.gens.length v.gc) (Value.slice v.la n.loads.length v.lc) (Value.slice v.ta n.stores.length v.tc) (Nat.le_refl _)
              have hI := HN5.out.net.set6 (HX2b.out.below HZ5.out H2.out) (Value.slice v.na n.nodes.length v.nc) (Value.slice v.sa n.switches.length v.sc) (Value.slice v.ba n.branches.length v.bc) (Value.slice v.ga n.gens.length v.gc) (Value.slice v.la n.loads.length v.lc) (Value.slice v.ta n.stores.length v.tc)
              go_wp2
              rw [← set6_def]
              generalize set6 w5 w.heap.size (Value.slice v.na n.nodes.length v.nc) (Value.slice v.sa n.switches.length v.sc) (Value.slice v.ba n.branches.length v.bc) (Value.slice v.ga n.gens.length v.gc) (Value.slice v.la n.loads.length v.lc) (Value.slice v.ta n.stores.length v.tc) = WR at *
              have z0 := hX.cell 0
              have z1 := hX.cell 1
              have z2 := hX.cell 2
              have z3 := hX.cell 3
              have z4 := hX.cell 4
              have z5 := hX.cell 5
              exact bodyPost_ret (v := .tuple #[.agg #[Value.slice v.na n.nodes.length v.nc, Value.slice v.sa n.switches.length v.sc, Value.slice v.ba n.branches.length v.bc, Value.slice v.ga n.gens.length v.gc, Value.slice v.la n.loads.length v.lc, Value.slice v.ta n.stores.length v.tc], I 0, I 0]) (by simp [results, Tryz.results20, go_sem, z0, z1, z2, z3, z4, z5]) rfl (ret_net HR2.out hI ((HBb.out.trans (HZ5.out.mono HBb.out.size)).trans hS))
            · have tc : (checkN n != 0) = true := bne_iff_ne.2 hck
              have HR2 := Lib.hid (HR.out.trans (if_pos hck))
              clear hck HR
              generalize checkN n = cc at *
              have x0 := (HX2b.out.below HZ5.out H2.out).cell 0
              have f0 := (HX2b.out.below HZ5.out H2.out).frozen 0
              have y0 := (HX5b.out.below HZ5.out H5.out).cell 0
              have x1 := (HX2b.out.below HZ5.out H2.out).cell 1
              have f1 := (HX2b.out.below HZ5.out H2.out).frozen 1
              have y1 := (HX5b.out.below HZ5.out H5.out).cell 1
              have x2 := (HX2b.out.below HZ5.out H2.out).cell 2
              have f2 := (HX2b.out.below HZ5.out H2.out).frozen 2
              have y2 := (HX5b.out.below HZ5.out H5.out).cell 2
              have x3 := (HX2b.out.below HZ5.out H2.out).cell 3
              have f3 := (HX2b.out.below HZ5.out H2.out).frozen 3
              have y3 := (HX5b.out.below HZ5.out H5.out).cell 3
              have x4 := (HX2b.out.below HZ5.out H2.out).cell 4
              have f4 := (HX2b.out.below HZ5.out H2.out).frozen 4
              have y4 := (HX5b.out.below HZ5.out H5.out).cell 4
              have x5 := (HX2b.out.below HZ5.out H2.out).cell 5
              have f5 := (HX2b.out.below HZ5.out H2.out).frozen 5
              have y5 := (HX5b.out.below HZ5.out H5.out).cell 5
              have hX := set6_blk (HX2b.out.below HZ5.out H2.out) rfl (.slice none 0 0) (.slice none 0 0) (.slice none 0 0) (.slice none 0 0) (.slice none 0 0) (.slice none 0 0)
              have hS := set6_below w5 w.heap.size w.heap.size (.slice none 0 0) (.slice none 0 0) (.slice none 0 0) (.slice none 0 0) (.slice none 0 0) (.slice none 0 0) (Nat.le_refl _)
              go_wp2
              rw [← set6_def]
              generalize set6 w5 w.heap.size (.slice none 0 0) (.slice none 0 0) (.slice none 0 0) (.slice none 0 0) (.slice none 0 0) (.slice none 0 0) = WR at *
              have z0 := hX.cell 0
              have z1 := hX.cell 1
              have z2 := hX.cell 2
              have z3 := hX.cell 3
              have z4 := hX.cell 4
              have z5 := hX.cell 5
              exact bodyPost_ret (v := .tuple #[.agg #[.slice none 0 0, .slice none 0 0, .slice none 0 0, .slice none 0 0, .slice none 0 0, .slice none 0 0], I 0, I cc]) (by simp [results, Tryz.results20, go_sem, z0, z1, z2, z3, z4, z5]) rfl (ret_none HR2.out ((HBb.out.trans (HZ5.out.mono HBb.out.size)).trans hS))
end Go.Proofs.YtglbelmljdgaoaaGreatDoor
namespace Go.Proofs.YtglbelmljdgaoaaGreatDoor
open Go.RowKit

theorem Reads.callF {w w' : World} {sz n : Nat} {A : Option Addr} {xs : List Value} (h : Reads w w.heap.size sz A n xs) (hb : Below w.heap.size w w') : Reads w' w'.heap.size sz A n xs := (h.below hb).more hb.size
theorem below_drewF (w : World) (q : Nat) : Below w.heap.size w (w.drewN q) := ⟨rfl, rfl, rfl, Nat.le_refl _, fun _ _ => rfl⟩
theorem diffN_self {n : NetD} (h : checkN n = 0) : diffN n n = ([], 0) := by rw [diffN, if_neg (fun k => k h), if_neg (fun k => k h), diff_same]
def byA : ByteArray := ⟨#[65]⟩
def byD : ByteArray := ⟨#[68]⟩
def netA : NetD := ⟨[byA], [], [], [], [], []⟩
def netAD : NetD := ⟨[byA], [], [], [], [⟨byD, byA, 7⟩], []⟩
def txA : ByteArray := ⟨#[110, 111, 100, 101, 32, 65, 10]⟩
def txAD : ByteArray := ⟨#[110, 111, 100, 101, 32, 65, 10, 108, 111, 97, 100, 32, 68, 32, 65, 32, 55, 10]⟩
def txBad : ByteArray := ⟨#[110, 111, 100, 101, 32, 65, 10, 110, 111, 100, 101, 10]⟩
def lnAD : ByteArray := ⟨#[45, 32, 108, 111, 97, 100, 32, 68, 32, 65, 32, 55]⟩
theorem print_A : printN netA = (txA, 0) := by kernel_rfl
theorem parse_AD : parseN txAD = (netAD, 0, 0) := by kernel_rfl
theorem parse_Bad : parseN txBad = (emptyN, 2, 5) := by kernel_rfl
theorem diff_AD : diffN netAD netA = ([lnAD], 0) := by kernel_rfl
theorem netAD_ok : NetOk netAD := ⟨by decide, by decide, by decide, by decide, by decide, by decide⟩
theorem netA_in (w : World) (b : Nat) (h : Reads w w.heap.size 1 (some ⟨b, 0, none⟩) 1 [S byA]) : Net w netA ⟨some ⟨b, 0, none⟩, 1, none, 0, none, 0, none, 0, none, 0, none, 0⟩ :=
  ⟨⟨h, Reads.nil, Reads.nil, Reads.nil, Reads.nil, Reads.nil⟩, ⟨by decide, by decide, by decide, by decide, by decide, by decide⟩, by decide, by decide, by decide, by decide, by decide, by decide⟩
set_option maxRecDepth 100000 in
set_option maxHeartbeats 4000000 in
theorem nettextFact_any (w : World) (hv : Vars w) : Calls Tryz.prog 6 #[] w fun e w' => e = .returned (.bool true) ∧ Below w.heap.size w w' := by
  have hz := below_newF w (Obj.cells #[S byA] 9)
  have HN := Lib.hid (netA_in (w.alloc (Obj.cells #[S byA] 9)) w.heap.size (reads_many (Blk.new w 9 #[S byA]) rfl rfl))
  have HB := Lib.hid hz
  have HV := Lib.hid hv
  have HP := Lib.hid (show Calls _ _ _ _ (RetPr _ (txA, 0)) by have := print_any netA _ _ HN.out (hv.below hz).tab; rw [print_A] at this; exact this)
  unfold NetV.val NetV.parts at HP
  clear hz hv
  go_enter Tryz.func6, Tryz.ntmps6
  go_wp2_with fail
  refine HP.out.mono ?_
  rintro e w1 ⟨rfl, hb⟩
  clear HP HN
  replace HB := Lib.hid (HB.out.trans (hb.mono HB.out.size))
  clear hb
  have HP := Lib.hid (show Calls _ _ _ _ (fun e w' => ∃ v : NetV, e = .returned (.tuple #[.agg #[.slice v.na 1 v.nc, .slice v.sa 0 v.sc, .slice v.ba 0 v.bc, .slice v.ga 0 v.gc, .slice v.la 1 v.lc, .slice v.ta 0 v.tc], I 0, I 0]) ∧ NetIn w' netAD v ∧ Below w1.heap.size w1 w') by have := parse_any txAD w1 (by decide) (HV.out.below HB.out); rw [parse_AD] at this; exact this)
  go_wp2_with fail
  refine HP.out.mono ?_
  rintro e w2 ⟨v, rfl, hin, hb⟩
  clear HP
  have hz := below_newF w2 (Obj.cells #[.slice v.na 1 v.nc, .slice v.sa 0 v.sc, .slice v.ba 0 v.bc, .slice v.ga 0 v.gc, .slice v.la 1 v.lc, .slice v.ta 0 v.tc] 29)
  have HG := Lib.hid (Blk.new w2 29 #[.slice v.na 1 v.nc, .slice v.sa 0 v.sc, .slice v.ba 0 v.bc, .slice v.ga 0 v.gc, .slice v.la 1 v.lc, .slice v.ta 0 v.tc])
  replace HB := Lib.hid ((HB.out.trans (hb.mono HB.out.size)).trans (hz.mono (Nat.le_trans HB.out.size hb.size)))
  have HIN := Lib.hid (hin.below hz)
  clear hb hin hz
  go_upto_region 3 with (fail)
  generalize w2.heap.size = gn at *
  generalize w2.alloc (Obj.cells #[.slice v.na 1 v.nc, .slice v.sa 0 v.sc, .slice v.ba 0 v.bc, .slice v.ga 0 v.gc, .slice v.la 1 v.lc, .slice v.ta 0 v.tc] 29) = w3 at *
  have hz := below_newF w3 (Obj.cells #[S byA] 9)
  have HNA := Lib.hid (netA_in (w3.alloc (Obj.cells #[S byA] 9)) w3.heap.size (reads_many (Blk.new w3 9 #[S byA]) rfl rfl))
  have HND := Lib.hid (show Net _ netAD v from ⟨HIN.out.below hz, netAD_ok, by decide, by decide, by decide, by decide, by decide, by decide⟩)
  have HBz := Lib.hid (HB.out.trans (hz.mono HB.out.size))
  have HP := Lib.hid (show Calls Tryz.prog 11 #[.agg #[.slice v.na 1 v.nc, .slice v.sa 0 v.sc, .slice v.ba 0 v.bc, .slice v.ga 0 v.gc, .slice v.la 1 v.lc, .slice v.ta 0 v.tc], .agg #[.slice (some ⟨w3.heap.size, 0, none⟩) 1 1, .slice none 0 0, .slice none 0 0, .slice none 0 0, .slice none 0 0, .slice none 0 0]] _ (RetDf _ ([lnAD], 0)) by have := diff_any netAD netA v _ _ HND.out HNA.out (HV.out.below HBz.out).tab; rw [diff_AD] at this; exact this)
  have g0 := HG.out.cell 0
  have g1 := HG.out.cell 1
  have g2 := HG.out.cell 2
  have g3 := HG.out.cell 3
  have g4 := HG.out.cell 4
  have g5 := HG.out.cell 5
  go_wp2_with fail
  refine HP.out.mono ?_
  rintro e w4 ⟨A, c, rfl, hr, hb⟩
  clear HP HNA g0 g1 g2 g3 g4 g5
  have hb4 := hz.trans (hb.mono hz.size)
  have HRD := Lib.hid (show Reads w4 w4.heap.size 1 A 1 [S lnAD] from hr.reads)
  replace HB := Lib.hid (HB.out.trans (hb4.mono HB.out.size))
  replace HIN := Lib.hid (HIN.out.below hb4)
  replace HG := Lib.hid (HG.out.blkF hb4)
  clear hz hb hr HND HBz hb4
  have HP := Lib.hid (show Calls _ _ _ _ (fun e w' => ∃ v : NetV, e = .returned (.tuple #[.agg #[.slice v.na 0 v.nc, .slice v.sa 0 v.sc, .slice v.ba 0 v.bc, .slice v.ga 0 v.gc, .slice v.la 0 v.lc, .slice v.ta 0 v.tc], I 2, I 5]) ∧ NetIn w' emptyN v ∧ Below w4.heap.size w4 w') by have := parse_any txBad w4 (by decide) (HV.out.below HB.out); rw [parse_Bad] at this; exact this)
  simp only [List.length_cons, List.length_nil, Nat.zero_add]
  go_wp2_with fail
  refine HP.out.mono ?_
  rintro e w5 ⟨v2, rfl, _, hb⟩
  clear HP
  have hz := below_newF w5 (Obj.cells #[.slice v2.na 0 v2.nc, .slice v2.sa 0 v2.sc, .slice v2.ba 0 v2.bc, .slice v2.ga 0 v2.gc, .slice v2.la 0 v2.lc, .slice v2.ta 0 v2.tc] 29)
  have hb5 := hb.trans (hz.mono hb.size)
  replace HB := Lib.hid (HB.out.trans (hb5.mono HB.out.size))
  replace HIN := Lib.hid (HIN.out.below hb5)
  replace HG := Lib.hid (HG.out.blkF hb5)
  replace HRD := Lib.hid (HRD.out.callF hb5)
  clear hz hb hb5
  go_upto_region 5 with (fail)
  generalize w5.heap.size = g5 at *
  generalize w5.alloc (Obj.cells #[.slice v2.na 0 v2.nc, .slice v2.sa 0 v2.sc, .slice v2.ba 0 v2.bc, .slice v2.ga 0 v2.gc, .slice v2.la 0 v2.lc, .slice v2.ta 0 v2.tc] 29) = w6 at *
  have hz := below_newF w6 (Obj.cells #[I 0, I 0, I 0] 31)
  have HP := Lib.hid (fine_ok 3 (some ⟨w6.heap.size, 0, none⟩) 3 (w6.alloc (Obj.cells #[I 0, I 0, I 0] 31)) _ (reads_many (Blk.new w6 31 #[I 0, I 0, I 0]) rfl rfl) (by decide))
  replace HB := Lib.hid (HB.out.trans (hz.mono HB.out.size))
  replace HIN := Lib.hid (HIN.out.below hz)
  replace HG := Lib.hid (HG.out.blkF hz)
  replace HRD := Lib.hid (HRD.out.callF hz)
  clear hz
  go_wp2_with fail
  refine HP.out.mono ?_
  rintro e w7 ⟨rfl, hw⟩
  rw [← hw]
  clear hw w7 HP
  generalize w6.alloc (Obj.cells #[I 0, I 0, I 0] 31) = w8 at *
  obtain ⟨lb, lo, hla, _, hlx⟩ := reads_by (f := LoadD.cells) (sz := 3) (fun _ => rfl) (by decide) HIN.out.loads (show 0 < netAD.loads.length by decide)
  have hl2 : w8.cell? ⟨lb, lo + 2, none⟩ = some (I 7) := hlx 2 _ rfl
  have g4 : w8.cell? ⟨gn, 4, none⟩ = some (.slice (some ⟨lb, lo, none⟩) 1 v.lc) := by rw [← hla]; exact HG.out.cell 4
  have hz := below_newF w8 (Obj.cells #[S lnAD] 9)
  have HP := Lib.hid (show Calls _ _ _ _ (fun e w' => e = .returned (.bool true) ∧ Below (w8.alloc (Obj.cells #[S lnAD] 9)).heap.size (w8.alloc (Obj.cells #[S lnAD] 9)) w') from (equalS_any [lnAD] [lnAD] 1 1 A (some ⟨w8.heap.size, 0, none⟩) c 1 (w8.alloc (Obj.cells #[S lnAD] 9)) _ _ (HRD.out.callF hz) (reads_many (Blk.new w8 9 #[S lnAD]) rfl rfl) (by decide) (by decide)).mono fun _ _ ⟨h, q, hq⟩ => ⟨by rw [h, decide_eq_true rfl], by rw [hq]; exact below_drewF _ q⟩)
  replace HB := Lib.hid (HB.out.trans (hz.mono HB.out.size))
  clear hz hlx hla HIN HG HRD
  have ta : (txA.toList == [110, 111, 100, 101, 32, 65, 10]) = true := by rw [Lib.toList_data]; rfl
  go_wp2_with fail
  refine HP.out.mono ?_
  rintro e w9 ⟨rfl, hb⟩
  have HQ := Lib.hid (HB.out.trans (hb.mono HB.out.size))
  clear hb HP
  go_wp2
  go_ret
  exact ⟨rfl, HQ.out⟩
end Go.Proofs.YtglbelmljdgaoaaGreatDoor
namespace Go.Proofs.YtglbelmljdgaoaaGreatDoor
open Go.RowKit

theorem print_bad {n : NetD} (h : (printN n).2 ≠ 0) : (printN n).1 = ⟨#[]⟩ := by
  rw [printN] at h ⊢
  split
  · rfl
  · rename_i h1
    rw [if_neg h1] at h
    split
    · rfl
    · rename_i h2
      rw [if_neg h2] at h
      exact absurd rfl h
theorem print_good {n : NetD} (h : (printN n).2 = 0) : checkN n = 0 ∧ (textN n).size ≤ 8192 ∧ printN n = (textN n, 0) := by
  rw [printN] at h ⊢
  by_cases h1 : checkN n = 0
  · rw [if_neg (fun k => k h1)] at h ⊢
    by_cases h2 : 8192 < (textN n).size
    · rw [if_pos h2] at h; cases h
    · rw [if_neg h2]; exact ⟨h1, by omega, rfl⟩
  · rw [if_pos h1] at h; exact absurd h h1
theorem ok_of {n : NetD} (hc : checkN n = 0) : NetOk n := by
  have h := nok hc
  have q : ∀ {s : ByteArray}, nameOk s = true → s.size ≤ 9223372036854775807 := fun h => Nat.le_trans (name_size h) (by decide)
  exact ⟨fun s hs => q (h.no s hs), fun s hs => ⟨q (h.sw s hs).1, q (h.sw s hs).2.1, q (h.sw s hs).2.2⟩, fun s hs => ⟨q (h.br s hs).1, q (h.br s hs).2.1, q (h.br s hs).2.2.1⟩, fun s hs => ⟨q (h.ge s hs).1, q (h.ge s hs).2.1⟩, fun s hs => ⟨q (h.lo s hs).1, q (h.lo s hs).2.1⟩, fun s hs => ⟨q (h.st s hs).1, q (h.st s hs).2.1⟩⟩
theorem net_of {w : World} {n : NetD} {v : NetV} (h : NetIn w n v) (hc : checkN n = 0) : Net w n v :=
  have hv := vnet hc
  ⟨h, ok_of hc, Nat.le_trans hv.hn (by decide), Nat.le_trans hv.hw (by decide), Nat.le_trans hv.hb (by decide), Nat.le_trans hv.hg (by decide), Nat.le_trans hv.hl (by decide), Nat.le_trans hv.hs (by decide)⟩
end Go.Proofs.YtglbelmljdgaoaaGreatDoor
