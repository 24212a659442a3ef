/- TopologyFollows: the plain law, and what is kept from round to round. TopologyFollows: the walk. -/
import Derived.Test.YtglbelmljdgaoaaDoorTFact
import Derived.Test.YtglbelmljdgaoaaDoorDJ
namespace Go.Proofs.YtglbelmljdgaoaaDoor
open Go.RowKit

theorem sw_names {n : NetD} (h : VNet n) : (n.switches.map (·.name)).Nodup ∧ ∀ s ∈ n.switches, s.name ∉ n.nodes := by
  have hn := h.nodup
  simp only [NetD.items, List.map_append, List.map_map] at hn
  rw [List.nodup_append] at hn
  obtain ⟨_, h2, h3⟩ := hn
  rw [List.nodup_append] at h2
  refine ⟨?_, fun s hs hm => ?_⟩
  · have := h2.1
    exact this
  · exact h3 s.name (List.mem_map.2 ⟨s.name, hm, rfl⟩) s.name (List.mem_append_left _ (List.mem_map.2 ⟨s, hs, rfl⟩)) rfl
theorem nmIdx_at {l : List SwitchD} (hn : (l.map (·.name)).Nodup) : ∀ (i j : Nat) (hi : i < l.length), nmIdx SwitchD.name l[i].name l j = ((j + i : Nat) : Int) := by
  induction l with
  | nil => intro i j hi; simp at hi
  | cons x l ih =>
    intro i j hi
    rw [nmIdx]
    cases i with
    | zero => simp
    | succ i =>
      rw [List.map_cons, List.nodup_cons] at hn
      have hil : i < l.length := by simpa using hi
      have hne : x.name ≠ l[i].name := fun e => hn.1 (by rw [e]; exact List.mem_map.2 ⟨l[i], List.getElem_mem _, rfl⟩)
      simp only [List.getElem_cons_succ]
      rw [if_neg hne, ih hn.2 i (j + 1) (by simpa using hi)]
      congr 1
      omega
theorem idx_none {zs : List ByteArray} {x : ByteArray} (h : x ∉ zs) : Lib.idxOfS zs x < 0 := by
  have h1 := mt (Lib.containsS_iff zs x).1 h
  rw [Lib.containsS, decide_eq_true_eq] at h1
  omega
theorem set_switch {n : NetD} (hc : checkN n = 0) (o : Bool) {i : Nat} (hi : i < n.switches.length) : SetL n n.switches[i].name o = (setSw n i o, 0) := by
  have hv := vnet hc
  obtain ⟨h1, h2⟩ := sw_names hv
  have hix := nmIdx_at h1 i 0 hi
  have hno := idx_none (h2 _ (List.getElem_mem hi))
  have hf : findL n n.switches[i].name = (swB, (i : Int)) := by
    rw [findL, findE, if_neg (by omega), hix, if_pos (by omega)]
    simp [swB]
  have hF : FindL n n.switches[i].name = (swB, (i : Int), 0) := by
    rw [FindL, if_pos hc, hf, if_neg (by simp)]
  rw [SetL, hF]
  simp
theorem idx_switch {n : NetD} (hc : checkN n = 0) {i : Nat} (hi : i < n.switches.length) : nmIdx SwitchD.name n.switches[i].name n.switches 0 = (i : Int) := by
  rw [nmIdx_at (sw_names (vnet hc)).1 i 0 hi]
  simp
def slices6 (ds : Array Value) : Prop := ∀ (i : Nat) u, ds[i]? = some u → ∃ a n c, u = .slice a n c
theorem slices6_mk (a b c d e f : Option Addr) (n1 c1 n2 c2 n3 c3 n4 c4 n5 c5 n6 c6 : Nat) : slices6 #[.slice a n1 c1, .slice b n2 c2, .slice c n3 c3, .slice d n4 c4, .slice e n5 c5, .slice f n6 c6] := by
  intro i u hu
  have hi : i < 6 := by have := (Array.getElem?_eq_some_iff.1 hu).1; exact this
  have : i = 0 ∨ i = 1 ∨ i = 2 ∨ i = 3 ∨ i = 4 ∨ i = 5 := by omega
  rcases this with rfl | rfl | rfl | rfl | rfl | rfl <;> exact ⟨_, _, _, (Option.some.inj hu).symm⟩
theorem NetIn.put6 {w : World} {n : NetD} {v : NetV} (h : NetIn w n v) {b : Nat} {t : TypeId} {ds : Array Value} (hB : Blk w b t ds) (hd : slices6 ds) (x0 x1 x2 x3 x4 x5 : Value) : NetIn (YtglbelmljdgaoaaDoor.set6 w b x0 x1 x2 x3 x4 x5) n v := by
  have hz := set6_size w b x0 x1 x2 x3 x4 x5
  exact ⟨by rw [hz]; exact h.nodes.set6 (nsS _) hB hd _ _ _ _ _ _, by rw [hz]; exact h.switches.set6 (nsSwitch _) hB hd _ _ _ _ _ _, by rw [hz]; exact h.branches.set6 (nsBranch _) hB hd _ _ _ _ _ _,
    by rw [hz]; exact h.gens.set6 (nsGen _) hB hd _ _ _ _ _ _, by rw [hz]; exact h.loads.set6 (nsLoad _) hB hd _ _ _ _ _ _, by rw [hz]; exact h.stores.set6 (nsStore _) hB hd _ _ _ _ _ _⟩
theorem setSw_ok {n : NetD} (h : NetOk n) (i : Nat) (o : Bool) : NetOk (setSw n i o) := by
  refine ⟨h.nodes, fun s hs => ?_, h.branches, h.gens, h.loads, h.stores⟩
  have hm : ∀ (l : List SwitchD) (k : Nat) (t : SwitchD), t ∈ l.modify k (setOpn o) → ∃ u ∈ l, t.name = u.name ∧ t.a = u.a ∧ t.b = u.b := by
    intro l
    induction l with
    | nil => intro k t ht; simp at ht
    | cons x l ih =>
      intro k t ht
      cases k with
      | zero =>
        rcases List.mem_cons.1 (by simpa using ht) with rfl | ht
        · exact ⟨x, List.mem_cons_self, rfl, rfl, rfl⟩
        · exact ⟨t, List.mem_cons_of_mem _ ht, rfl, rfl, rfl⟩
      | succ k =>
        rw [List.modify_succ_cons] at ht
        rcases List.mem_cons.1 ht with rfl | ht
        · exact ⟨t, List.mem_cons_self, rfl, rfl, rfl⟩
        · obtain ⟨u, hu, hh⟩ := ih k t ht
          exact ⟨u, List.mem_cons_of_mem _ hu, hh⟩
  obtain ⟨u, hu, e1, e2, e3⟩ := hm _ _ _ hs
  rw [e1, e2, e3]
  exact h.switches u hu
theorem setSw_net {w w' : World} {n : NetD} {v v' : NetV} (h : Net w n v) (i : Nat) (o : Bool) (hin : NetIn w' (setSw n i o) v') : Net w' (setSw n i o) v' :=
  ⟨hin, setSw_ok h.ok i o, h.l1, by simpa [setSw] using h.l2, h.l3, h.l4, h.l5, h.l6⟩
theorem setSw_parts (n : NetD) (i : Nat) (o : Bool) (v : NetV) : v.parts (setSw n i o) = #[.slice v.na n.nodes.length v.nc, .slice v.sa n.switches.length v.sc, .slice v.ba n.branches.length v.bc, .slice v.ga n.gens.length v.gc, .slice v.la n.loads.length v.lc, .slice v.ta n.stores.length v.tc] := by
  simp [NetV.parts, setSw]
theorem Row.keepT {w w' : World} {base : Nat} {e T : TypeId} {sz n b : Nat} {v : Value} {xs : List Value} {ds : Array Value} (h : Row w base e sz v n xs) (hB : Blk w b T ds) (hne : e ≠ T) (hk : ∀ k, k ≠ b → k < w.heap.size → w'.heap[k]? = w.heap[k]?) : Row w' base e sz v n xs := by
  obtain ⟨h1, h2⟩ := h
  refine ⟨h1, ?_⟩
  rcases h2 with ⟨hv, h0⟩ | ⟨g, off, cap, cur, hv, hb, hh, r⟩
  · exact .inl ⟨hv, h0⟩
  · refine .inr ⟨g, off, cap, cur, hv, hb, ?_, r⟩
    refine (hk g ?_ hh.lt).trans hh
    rintro rfl
    unfold Blk at hh hB
    rw [hh] at hB
    injection hB with hB
    injection hB with _ hB
    exact hne hB
theorem Blk.keepT {w w' : World} {g b : Nat} {e T : TypeId} {cs ds : Array Value} (h : Blk w g e cs) (hB : Blk w b T ds) (hne : e ≠ T) (hk : ∀ k, k ≠ b → k < w.heap.size → w'.heap[k]? = w.heap[k]?) : Blk w' g e cs := by
  refine (hk g ?_ h.lt).trans h
  rintro rfl
  unfold Blk at h hB
  rw [h] at hB
  injection hB with hB
  injection hB with _ hB
  exact hne hB
section
variable {w w' : World} {base g b : Nat} {n : NetD} {v : NetV} {bus isl : List Int} {bA iA : Option Addr} {bc ic : Nat} {ds : Array Value}
theorem FollIn.put6 (h : FollIn w base g n v bus isl bA bc iA ic) (hB : Blk w b 29 ds) (hd : slices6 ds) (x0 x1 x2 x3 x4 x5 : Value) : FollIn (YtglbelmljdgaoaaDoor.set6 w b x0 x1 x2 x3 x4 x5) base g n v bus isl bA bc iA ic :=
  have hk : ∀ k, k ≠ b → k < w.heap.size → (YtglbelmljdgaoaaDoor.set6 w b x0 x1 x2 x3 x4 x5).heap[k]? = w.heap[k]? := fun k hk _ => set6_heap w b x0 x1 x2 x3 x4 x5 k hk
  ⟨h.blk.keepT hB (by decide) hk, h.net.put6 hB hd _ _ _ _ _ _, fun hp => (h.sw hp).keepT hB (by decide) hk, h.bus.keepT hB (by decide) hk, h.isl.keepT hB (by decide) hk, h.hb⟩
theorem FollIn.set2 {a0 a1 : Option Addr} {m0 m1 c0 c1 : Nat} (h : FollIn w base g n v bus isl bA bc iA ic) (hB : Blk w b 37 #[.slice a0 m0 c0, .slice a1 m1 c1]) (u0 u1 : Value) : FollIn ((w.setCell ⟨b, 0, none⟩ u0).setCell ⟨b, 1, none⟩ u1) base g n v bus isl bA bc iA ic :=
  have hk : ∀ k, k ≠ b → k < w.heap.size → ((w.setCell ⟨b, 0, none⟩ u0).setCell ⟨b, 1, none⟩ u1).heap[k]? = w.heap[k]? := fun k hk _ => (Below.heap_setCell _ ⟨b, 1, none⟩ _ _ hk).trans (Below.heap_setCell _ ⟨b, 0, none⟩ _ _ hk)
  have h1 := (hB.set_ 0 u0).cell 1
  ⟨h.blk.keepT hB (by decide) hk, (h.net.set_slice (hB.cell 0) u0).set_slice h1 u1, fun hp => (h.sw hp).keepT hB (by decide) hk, h.bus.keepT hB (by decide) hk, h.isl.keepT hB (by decide) hk, h.hb⟩
/-- the follower's Set leaves a network elsewhere as it is -/
theorem NetIn.fsch {m : NetD} {u : NetV} {T : TypeId} (h : NetIn w m u) (hc : FsCh w g v.sa w') (hg : Blk w g T ds) (hd : ∀ (i : Nat) u, ds[i]? = some u → ∃ a n c, u = .slice a n c) (hs : 0 < m.switches.length → (∀ b off c off', u.sa = some ⟨b, off, none⟩ → v.sa = some ⟨c, off', none⟩ → b ≠ c) ∧ ∃ c off', v.sa = some ⟨c, off', none⟩) : NetIn w' m u := by
  refine ⟨h.nodes.fsch hc hg hd (nsS _) (.inl (nbS _)), ?_, h.branches.fsch hc hg hd (nsBranch _) (.inl (nbBranch _)), h.gens.fsch hc hg hd (nsGen _) (.inl (nbGen _)), h.loads.fsch hc hg hd (nsLoad _) (.inl (nbLoad _)), h.stores.fsch hc hg hd (nsStore _) (.inl (nbStore _))⟩
  by_cases h0 : 0 < m.switches.length
  · exact h.switches.fsch hc hg hd (nsSwitch _) (.inr (hs h0))
  · exact ⟨h.switches.1, fun hn => absurd hn h0⟩
/-- a block of another kind is left as it is -/
theorem Blk.fsch {b : Nat} {T : TypeId} {cs : Array Value} (hB : Blk w b T cs) (h : FollIn w base g n v bus isl bA bc iA ic) (hc : FsCh w g v.sa w') (hs : 0 < n.switches.length) (h1 : T ≠ 66) (h2 : T ≠ 40) : Blk w' b T cs := by
  obtain ⟨_, q, y, _, hA, _, hh⟩ := hc
  refine (hh b hB.lt ?_ ?_).trans hB
  · rintro rfl
    have h0 := h.blk
    unfold Blk at h0 hB
    rw [h0] at hB
    injection hB with hB
    injection hB with _ hB
    exact h1 hB.symm
  · obtain ⟨c, off, cap, cur, hv, _, hh', _⟩ := (h.sw hs).form hs
    injection hv with hv
    rw [hA c off hv]
    rintro rfl
    unfold Blk at hh' hB
    rw [hh'] at hB
    injection hB with hB
    injection hB with _ hB
    exact h2 hB.symm
theorem FollIn.swAt (h : FollIn w base g n v bus isl bA bc iA ic) (hs : 0 < n.switches.length) : ∃ c off, v.sa = some ⟨c, off, none⟩ ∧ c < w.heap.size := by
  obtain ⟨c, off, e, hc, _⟩ := h.net.switches.2 hs
  exact ⟨c, off, e, hc⟩
theorem foll_slices {x0 x1 x2 x3 x4 x5 x6 x7 : Value} (h : ∀ u ∈ [x0, x1, x2, x3, x4, x5, x6, x7], ∃ a n c, u = .slice a n c) : ∀ (i : Nat) u, (#[x0, x1, x2, x3, x4, x5, x6, x7] : Array Value)[i]? = some u → ∃ a n c, u = .slice a n c := fun i u hu => h u (by
  have := Array.mem_of_getElem? hu
  simpa using this)
theorem FollIn.sls (h : FollIn w base g n v bus isl bA bc iA ic) : ∃ ds, Blk w g 66 ds ∧ ∀ (i : Nat) u, ds[i]? = some u → ∃ a n c, u = .slice a n c :=
  ⟨_, h.blk, foll_slices (by intro u hu; simp at hu; rcases hu with rfl | rfl | rfl | rfl | rfl | rfl | rfl | rfl <;> exact ⟨_, _, _, rfl⟩)⟩
end
theorem nsI (l : List Int) : ∀ u ∈ l.map I, notSlice u := by
  intro u hu a n c e
  obtain ⟨x, _, rfl⟩ := List.mem_map.1 hu
  cases e
theorem nbI (l : List Int) : ∀ u ∈ l.map I, notBool u := by
  intro u hu y e
  obtain ⟨x, _, rfl⟩ := List.mem_map.1 hu
  cases e
theorem foll_same (b b' i i' : List Int) : ((!(b' == b) || !(i' == i)) == ((b == b') && (i == i'))) = false := by
  rw [Bool.beq_comm (a := b) (b := b')]
  rw [show (i == i') = (i' == i) from Bool.beq_comm]
  cases (b' == b) <;> cases (i' == i) <;> rfl
end Go.Proofs.YtglbelmljdgaoaaDoor
namespace Go.Proofs.YtglbelmljdgaoaaDoor
open Go.RowKit

def pickN (x n : Int) : Int := IntKind.u64.wrap x % n
theorem pickN_range (x : Int) {n : Int} (h : 0 < n) : 0 ≤ pickN x n ∧ pickN x n < n := ⟨Int.emod_nonneg _ (by omega), Int.emod_lt_of_pos _ h⟩
set_option maxRecDepth 100000 in
set_option maxHeartbeats 400000 in
theorem pick_at (x n : Int) (w : World) (h0 : 0 < n) (h1 : n ≤ 1000000) : Calls Tryd.prog 9 #[I x, I n] w fun e w' => e = .returned (I (pickN x n)) ∧ w' = w := by
  have hb := pickN_range x h0
  have hn : IntKind.u64.wrap n = n := by rw [IntKind.wrap_u64]; omega
  have HE := Lib.hid (show wrap64 ((IntKind.u64.wrap x).tmod n) = pickN x n by
    rw [show (IntKind.u64.wrap x).tmod n = pickN x n from Int.tmod_eq_emod_of_nonneg (by rw [IntKind.wrap_u64]; exact Int.emod_nonneg _ (by decide))]
    exact IntWalk.wrap64_in _ (by omega))
  have hz : (n == 0) = false := by simp; omega
  clear hb
  go_enter Tryd.func9, Tryd.ntmps9
  go_wp2
  go_ret
  exact ⟨by rw [← HE.out]; rfl, rfl⟩
theorem cell_below {w w' : World} {p : Addr} {u : Value} (h : w.cell? p = some u) (hb : Below w.heap.size w w') : w'.cell? p = some u := (hb.cell (World.block_lt_of_cell? w _ h)).trans h
theorem nbS' (l : List Int) : ∀ u ∈ l.map I, notBool u := nbI l
/-- what holds at the head of a round, but for the network itself -/
structure TFI (W : World) (B0 TB base g : Nat) (A : Option Addr) (l : List Int) (ds : Array Value) (m : NetD) (vf : NetV) (bA : Option Addr) (bc : Nat) (iA : Option Addr) (ic : Nat) (b0 i0 : List Int) (tA : Option Addr) (tc : Nat) (jA : Option Addr) (jc : Nat) : Prop where
  box : Blk W B0 29 ds
  fol : FollIn W base g m vf (busesL m) (islandsL m) bA bc iA ic
  tb : Blk W TB 37 #[.slice tA b0.length tc, .slice jA i0.length jc]
  bus : Reads W W.heap.size 1 tA b0.length (b0.map I)
  isl : Reads W W.heap.size 1 jA i0.length (i0.map I)
  sc : Reads W W.heap.size 1 A l.length (l.map I)
  bs : base ≤ W.heap.size
section
variable {W W1 : World} {B0 TB base g : Nat} {A : Option Addr} {l : List Int} {ds : Array Value} {m m' : NetD} {vf : NetV} {bA iA bA' iA' : Option Addr} {bc ic bc' ic' : Nat} {b0 i0 : List Int} {tA jA : Option Addr} {tc jc : Nat}
theorem Reads.call {w w' : World} {sz n : Nat} {A : Option Addr} {xs : List Value} (h : Reads w w.heap.size sz A n xs) (hb : Below w.heap.size w w') : Reads w' w'.heap.size sz A n xs := (h.below hb).more hb.size
theorem TFI.call (h : TFI W B0 TB base g A l ds m vf bA bc iA ic b0 i0 tA tc jA jc) (hb : Below W.heap.size W W1) : TFI W1 B0 TB base g A l ds m vf bA bc iA ic b0 i0 tA tc jA jc :=
  ⟨h.box.below hb h.box.lt, h.fol.below hb, h.tb.below hb h.tb.lt, h.bus.call hb, h.isl.call hb, h.sc.call hb, Nat.le_trans h.bs hb.size⟩
/-- the follower's Set -/
theorem TFI.fset (h : TFI W B0 TB base g A l ds m vf bA bc iA ic b0 i0 tA tc jA jc) (hs : 0 < m.switches.length) (hf : FollIn W1 base g m' vf (busesL m') (islandsL m') bA' bc' iA' ic') (hc : FsCh W g vf.sa W1) : TFI W1 B0 TB base g A l ds m' vf bA' bc' iA' ic' b0 i0 tA tc jA jc := by
  obtain ⟨fs, hg, hd⟩ := h.fol.sls
  exact ⟨h.box.fsch h.fol hc hs (by decide) (by decide), hf, h.tb.fsch h.fol hc hs (by decide) (by decide), h.bus.fsch hc hg hd (nsI _) (.inl (nbI _)), h.isl.fsch hc hg hd (nsI _) (.inl (nbI _)), h.sc.fsch hc hg hd (nsI _) (.inl (nbI _)), Nat.le_trans h.bs hc.1⟩
theorem TFI.net (h : TFI W B0 TB base g A l ds m vf bA bc iA ic b0 i0 tA tc jA jc) {n : NetD} {u : NetV} (hn : NetIn W n u) (hc : FsCh W g vf.sa W1) (hs : 0 < m.switches.length) (ha : ∀ b off c off', u.sa = some ⟨b, off, none⟩ → vf.sa = some ⟨c, off', none⟩ → b ≠ c) : NetIn W1 n u := by
  obtain ⟨fs, hg, hd⟩ := h.fol.sls
  obtain ⟨c, off, e, _⟩ := h.fol.swAt hs
  exact hn.fsch hc hg hd fun _ => ⟨ha, c, off, e⟩
theorem TFI.put6 (h : TFI W B0 TB base g A l ds m vf bA bc iA ic b0 i0 tA tc jA jc) (h6 : ds.size = 6) (hd : slices6 ds) (x0 x1 x2 x3 x4 x5 : Value) : TFI (YtglbelmljdgaoaaDoor.set6 W B0 x0 x1 x2 x3 x4 x5) B0 TB base g A l #[x0, x1, x2, x3, x4, x5] m vf bA bc iA ic b0 i0 tA tc jA jc := by
  have hz := set6_size W B0 x0 x1 x2 x3 x4 x5
  exact ⟨set6_blk h.box h6 _ _ _ _ _ _, h.fol.put6 h.box hd _ _ _ _ _ _, h.tb.keepT h.box (by decide) fun k hk _ => set6_heap _ _ _ _ _ _ _ _ k hk, by rw [hz]; exact h.bus.set6 (nsI _) h.box hd _ _ _ _ _ _, by rw [hz]; exact h.isl.set6 (nsI _) h.box hd _ _ _ _ _ _, by rw [hz]; exact h.sc.set6 (nsI _) h.box hd _ _ _ _ _ _, by rw [hz]; exact h.bs⟩
theorem TFI.tput (h : TFI W B0 TB base g A l ds m vf bA bc iA ic b0 i0 tA tc jA jc) {b1 i1 : List Int} {qA rA : Option Addr} {qc rc : Nat} (hb : Reads W W.heap.size 1 qA b1.length (b1.map I)) (hi : Reads W W.heap.size 1 rA i1.length (i1.map I)) :
    TFI ((W.setCell ⟨TB, 0, none⟩ (.slice qA b1.length qc)).setCell ⟨TB, 1, none⟩ (.slice rA i1.length rc)) B0 TB base g A l ds m vf bA bc iA ic b1 i1 qA qc rA rc := by
  have h1 := (h.tb.set_ 0 (Value.slice qA b1.length qc)).cell 1
  have hk : ∀ k, k ≠ TB → k < W.heap.size → ((W.setCell ⟨TB, 0, none⟩ (.slice qA b1.length qc)).setCell ⟨TB, 1, none⟩ (.slice rA i1.length rc)).heap[k]? = W.heap[k]? := fun k hk _ => (Below.heap_setCell _ ⟨TB, 1, none⟩ _ _ hk).trans (Below.heap_setCell _ ⟨TB, 0, none⟩ _ _ hk)
  have hz : ((W.setCell ⟨TB, 0, none⟩ (.slice qA b1.length qc)).setCell ⟨TB, 1, none⟩ (.slice rA i1.length rc)).heap.size = W.heap.size := by simp [World.setCell]
  refine ⟨h.box.keepT h.tb (by decide) hk, h.fol.set2 h.tb _ _, (h.tb.set_ 0 _).set_ 1 _, ?_, ?_, ?_, by rw [hz]; exact h.bs⟩
  · rw [hz]; exact (hb.set_slice (nsI _) (h.tb.cell 0) _).set_slice (nsI _) h1 _
  · rw [hz]; exact (hi.set_slice (nsI _) (h.tb.cell 0) _).set_slice (nsI _) h1 _
  · rw [hz]; exact (h.sc.set_slice (nsI _) (h.tb.cell 0) _).set_slice (nsI _) h1 _
end
theorem fset_at {base g r : Nat} {m : NetD} {vf : NetV} {bA iA : Option Addr} {bc ic : Nat} (nm : ByteArray) (o : Bool) (W : World) (h : FollIn W base g m vf (busesL m) (islandsL m) bA bc iA ic) (hc : checkN m = 0) (hb : base ≤ W.heap.size) (hr : r < m.switches.length) (hn : m.switches[r].name = nm) :
    Calls Tryd.prog 10 #[.pointer (some ⟨g, 0, none⟩), .string nm, .bool o] W fun e w' => ∃ bA bc iA ic, e = .returned (.tuple #[.bool (!(busesL (setSw m r o) == busesL m) || !(islandsL (setSw m r o) == islandsL m)), I 0]) ∧
      FollIn w' base g (setSw m r o) vf (busesL (setSw m r o)) (islandsL (setSw m r o)) bA bc iA ic ∧ Below base W w' ∧ FsCh W g vf.sa w' := by
  have hi : nmIdx SwitchD.name nm m.switches 0 = (r : Int) := by rw [← hn]; exact idx_switch hc hr
  refine (fset_any nm o W h hc hb (bus_le (vnet hc)) (isl_le (vnet hc))).mono ?_
  rintro e w' (⟨_, bA, bc, iA, ic, he, hf, hb, hch⟩ | ⟨h0, _⟩)
  · rw [hi, Int.toNat_natCast] at he hf
    exact ⟨bA, bc, iA, ic, he, hf, hb, hch⟩
  · rw [hi] at h0; omega
theorem set_at {r : Nat} {m : NetD} {v : NetV} (nm : ByteArray) (o : Bool) (W : World) (hN : Net W m v) (hc : checkN m = 0) (hr : r < m.switches.length) (hn : m.switches[r].name = nm) : Calls Tryd.prog 11 #[v.val m, .string nm, .bool o] W (RetSet W (setSw m r o, 0)) := by
  have := Set_any m v nm o W hN
  rw [← hn, set_switch hc o hr, hn] at this
  exact this
theorem below_drewN (w : World) (q : Nat) : Below w.heap.size w (w.drewN q) := ⟨rfl, rfl, rfl, Nat.le_refl _, fun _ _ => rfl⟩
theorem Blk.call {w w' : World} {g : Nat} {T : TypeId} {cs : Array Value} (h : Blk w g T cs) (hb : Below w.heap.size w w') : Blk w' g T cs := h.below hb h.lt
theorem eqI_any (xs ys : List Int) (A B : Option Addr) (c d : Nat) (w : World) (hx : Reads w w.heap.size 1 A xs.length (xs.map I)) (hy : Reads w w.heap.size 1 B ys.length (ys.map I)) (hn : xs.length ≤ 1000000) (hm : ys.length ≤ 1000000) :
    Calls Tryd.prog 13 #[.slice A xs.length c, .slice B ys.length d] w fun e w' => e = .returned (.bool (xs == ys)) ∧ Below w.heap.size w w' :=
  (equal_any xs ys _ _ A B c d w _ _ hx hy hn hm).mono fun _ _ ⟨h, q, hq⟩ => ⟨h, by rw [hq]; exact below_drewN w q⟩
theorem diffN_same {n : NetD} (h : checkN n = 0) : diffN n n = ([], 0) := by rw [diffN, if_neg (fun k => k h), if_neg (fun k => k h), diff_same]
theorem parts6 (v : NetV) (n : NetD) : slices6 (v.parts n) := slices6_mk _ _ _ _ _ _ _ _ _ _ _ _ _ _ _ _ _ _
set_option maxRecDepth 100000 in
set_option maxHeartbeats 8000000 in
theorem follows_any (n : NetD) (u : NetV) (l : List Int) (A : Option Addr) (c : Nat) (w : World) (hN : Net w n u) (hl : Reads w w.heap.size 1 A l.length (l.map I)) (hll : l.length ≤ 9223372036854775807) (htab : Tab w) :
    Calls Tryd.prog 3 #[u.val n, .slice A l.length c] w fun e w' => e = .returned (.bool true) ∧ Below w.heap.size w w' := by
  have hb0 : Below w.heap.size w (w.alloc (Obj.cells (u.parts n) 29)) := (Below.refl _ w).alloc (Nat.le_refl _) _
  have HN := Lib.hid (hN.below hb0)
  have HL := Lib.hid (hl.call hb0)
  have HB := Lib.hid hb0
  have HBX := Lib.hid (Blk.new w 29 (u.parts n))
  have HTB := Lib.hid htab
  have HNE := Lib.hid fun W h => new_any n u W h
  clear hb0 hN hl htab
  unfold NetV.val NetV.parts at *
  go_enter Tryd.func3, Tryd.ntmps3
  go_wp2_with fail
  refine (topologyFact_any _).mono ?_
  rintro e w1 ⟨rfl, hb⟩
  replace HN := Lib.hid (HN.out.below hb)
  replace HL := Lib.hid (HL.out.call hb)
  replace HBX := Lib.hid (HBX.out.below hb HBX.out.lt)
  replace HB := Lib.hid (HB.out.trans (hb.mono HB.out.size))
  clear hb
  have x0 := HBX.out.cell 0
  have x1 := HBX.out.cell 1
  have x2 := HBX.out.cell 2
  have x3 := HBX.out.cell 3
  have x4 := HBX.out.cell 4
  have x5 := HBX.out.cell 5
  go_wp2_with fail
  refine (HNE.out _ HN.out).mono ?_
  rintro e w2 (⟨hc0, g, vf, bA, bc, iA, ic, rfl, hf, hb⟩ | ⟨hc0, rfl, hb⟩)
  rotate_left
  · have tc : (checkN n != 0) = true := bne_iff_ne.2 hc0
    have HQ := Lib.hid (HB.out.trans (hb.mono HB.out.size))
    clear HNE HN HL HBX HB x0 x1 x2 x3 x4 x5 hc0 hb
    generalize checkN n = cc at *
    go_wp2
    go_ret
    exact ⟨rfl, HQ.out⟩
  · have HC := Lib.hid hc0
    have HF := Lib.hid hf
    have hgl : w1.heap.size ≤ g := hf.hb
    have HW1 := Lib.hid (show ∀ b off, u.sa = some ⟨b, off, none⟩ → 0 < n.switches.length → b < w1.heap.size from fun b off e hp => by
      obtain ⟨b', off', e', h', _⟩ := HN.out.net.switches.2 hp
      rw [e] at e'
      injection e' with e'
      injection e' with e'
      omega)
    have hz1 : w.heap.size < w1.heap.size := HBX.out.lt
    replace HN := Lib.hid (HN.out.below hb)
    replace HL := Lib.hid (HL.out.call hb)
    replace HBX := Lib.hid (HBX.out.below hb HBX.out.lt)
    replace HB := Lib.hid (HB.out.trans (hb.mono HB.out.size))
    have HZ2 := Lib.hid hb.size
    clear hb hc0 hf HNE
    replace x0 := HBX.out.cell 0
    replace x1 := HBX.out.cell 1
    replace x2 := HBX.out.cell 2
    replace x3 := HBX.out.cell 3
    replace x4 := HBX.out.cell 4
    replace x5 := HBX.out.cell 5
    by_cases hs : 0 < n.switches.length
    · by_cases hll2 : l.length ≤ 60
      · have t1 : decide ((l.length : Int) > 60) = false := decide_eq_false (by omega)
        have t2 : ((n.switches.length : Int) == 0) = false := by rw [beq_eq_false_iff_ne]; omega
        have hsl := (vnet HC.out).hw
        have hbl := Lib.hid (bus_le (vnet HC.out))
        have hil := Lib.hid (isl_le (vnet HC.out))
        have HT := Lib.hid (topology_any w2 HF.out (by have := hbl.out; omega) (by have := hil.out; omega))
        go_wp2_with fail
        refine HT.out.mono ?_
        rintro e w3 ⟨tA, tc, jA, jc, rfl, hr1, hr2, hb⟩
        have hz := below_new0 w3 (Obj.cells #[.slice tA (busesL n).length tc, .slice jA (islandsL n).length jc] 37)
        have HI := Lib.hid (show TFI _ w.heap.size w3.heap.size w1.heap.size g A l _ n vf bA bc iA ic (busesL n) (islandsL n) tA tc jA jc from ⟨(HBX.out.below hb HBX.out.lt).below hz (Nat.lt_of_lt_of_le HBX.out.lt hb.size), (HF.out.below hb).below hz, Blk.new w3 37 _, hr1.call hz, hr2.call hz, (HL.out.call hb).call hz, by have := HZ2.out; have := hb.size; have := hz.size; omega⟩)
        replace HN := Lib.hid ((HN.out.below hb).below hz)
        replace HB := Lib.hid ((HB.out.trans (hb.mono HB.out.size)).trans (hz.mono (Nat.le_trans HB.out.size hb.size)))
        have HAP := Lib.hid (show ∀ b off c off', u.sa = some ⟨b, off, none⟩ → vf.sa = some ⟨c, off', none⟩ → b ≠ c from fun b off c off' e1 e2 => by
          have h1 := HW1.out b off e1 hs
          obtain ⟨cb, co, cc, cu, hv, h2, _⟩ := (HF.out.sw hs).form hs
          injection hv with hv
          rw [e2] at hv
          injection hv with hv
          injection hv with hv
          omega)
        have HZ0 := Lib.hid hz1
        have HZ3 := Lib.hid (show w.heap.size < w3.heap.size by have := HZ2.out; have := hb.size; omega)
        clear hb hz hr1 hr2 HT HF HL HBX HW1 HZ2 x0 x1 x2 x3 x4 x5 hgl hz1
        go_wp2
        go_loopg [50] (l.length - 0) (fun r t wr => ∃ k : Nat, ∃ (m : NetD) (v : NetV) (bA : Option Addr) (bc : Nat) (iA : Option Addr) (ic : Nat) (b0 i0 : List Int) (tA : Option Addr) (tc : Nat) (jA : Option Addr) (jc : Nat), r = l.length - k ∧ t = I k ∧ k ≤ l.length ∧ Hid (checkN m = 0) ∧ Hid (m.switches.length = n.switches.length) ∧ Hid (Net wr m v) ∧ Hid (TFI wr w.heap.size w3.heap.size w1.heap.size g A l (v.parts m) m vf bA bc iA ic b0 i0 tA tc jA jc) ∧ Hid (b0 = busesL m) ∧ Hid (i0 = islandsL m) ∧ Hid (∀ b off c off', v.sa = some ⟨b, off, none⟩ → vf.sa = some ⟨c, off', none⟩ → b ≠ c) ∧ Hid (Below w.heap.size w wr))
        case atStart => exact ⟨0, n, u, bA, bc, iA, ic, busesL n, islandsL n, tA, tc, jA, jc, rfl, rfl, by omega, HC, Lib.hid rfl, HN, HI, Lib.hid rfl, Lib.hid rfl, HAP, HB⟩
        case round =>
          clear HC HN HI HAP HB hbl hil
          obtain ⟨k, m, v, bA, bc, iA, ic, b0, i0, tA, tc, jA, jc, rfl, rfl, hk, HC, HLEN, HN, HI, HB0, HI0, HAP, HB⟩ := hrel
          obtain ⟨wa, rfl⟩ : ∃ wa : World, wa = wr := ⟨_, rfl⟩
          by_cases hlt : k < l.length
          · obtain ⟨bb, off, xv, hA, _, hu, hcx⟩ := HI.out.sc.at1 hlt
            subst hA
            obtain ⟨x, rfl⟩ : ∃ x, xv = I x := by
              rw [List.getElem?_map, List.getElem?_eq_getElem hlt] at hu
              exact ⟨_, (Option.some.inj hu).symm⟩
            clear hu
            obtain ⟨r, hr⟩ := Int.eq_ofNat_of_zero_le (pickN_range x (n := m.switches.length) (by have := HLEN.out; omega)).1
            have hr2 : r < m.switches.length := by have := (pickN_range x (n := m.switches.length) (by have := HLEN.out; omega)).2; omega
            have hml : m.switches.length ≤ 32 := by have := HLEN.out; omega
            obtain ⟨o, ho⟩ : ∃ o, (pickN (IntKind.i64.wrap (x.tdiv 40)) 2 == 0) = o := ⟨_, rfl⟩
            have HP1 := Lib.hid (show ∀ W, Calls Tryd.prog 9 #[I x, I m.switches.length] W fun e w' => e = .returned (I r) ∧ w' = W from fun W => by rw [← hr]; exact pick_at _ _ _ (by omega) (by omega))
            have HO := Lib.hid ho
            clear hr ho
            obtain ⟨sb, so, hsa, _, hsx⟩ := reads_by (f := SwitchD.cells) (sz := 5) (fun _ => rfl) (by decide) HN.out.net.switches hr2
            obtain ⟨nm, hnm⟩ : ∃ nm, m.switches[r].name = nm := ⟨_, rfl⟩
            have hx0 := Lib.hid (show wa.cell? ⟨sb, so + r * 5, none⟩ = some (.string nm) by rw [← hnm]; exact hsx 0 _ rfl)
            have HNM := Lib.hid hnm
            have x1 := Lib.hid (show wa.cell? ⟨w.heap.size, 1, none⟩ = some (.slice (some ⟨sb, so, none⟩) m.switches.length v.sc) by rw [← hsa]; exact HI.out.box.cell 1)
            clear hsx hnm hsa
            go_upto_region 12 with (fail)
            have hd := below_draw0 wa
            have HNK := Lib.hid HN.out
            have HBL := Lib.hid (show b0.length ≤ 24 by rw [HB0.out]; exact bus_le (vnet HC.out))
            have HIL := Lib.hid (show i0.length ≤ 24 by rw [HI0.out]; exact isl_le (vnet HC.out))
            replace x1 := Lib.hid (cell_below x1.out hd)
            replace hx0 := Lib.hid (cell_below hx0.out hd)
            replace HN := Lib.hid (HN.out.below hd)
            replace HI := Lib.hid (HI.out.call hd)
            replace HB := Lib.hid (HB.out.trans (hd.mono HB.out.size))
            clear hd
            refine wp_region_c (fun w' => w'.cell? ⟨w.heap.size, 1, none⟩ = some (.slice (some ⟨sb, so, none⟩) m.switches.length v.sc) ∧ w'.cell? ⟨sb, so + r * 5, none⟩ = some (.string nm)) 14 (by kernel_rfl) ?_
            generalize wa.drew = W1 at *
            refine wpAnyC_take8 (i := 0) (oi := _) (v := .pointer (some ⟨w.heap.size, 1, none⟩)) rfl (by kernel_rfl) (by kernel_rfl) (by kernel_rfl) (by kernel_rfl) (by kernel_rfl) (by kernel_rfl) (fun _ _ _ h => h) (Or.inl ⟨by rfl, ?_⟩) ⟨x1.out, hx0.out⟩ ?_
            · intro w hSw
              obtain ⟨s0, s1⟩ := hSw
              go_simp
            try simp only [Act.put, List.setIfInBounds_toArray]
            refine wpAnyC_take8 (i := 1) (oi := _) (v := .slice (some ⟨sb, so, none⟩) m.switches.length v.sc) rfl (by kernel_rfl) (by kernel_rfl) (by kernel_rfl) (by kernel_rfl) (by kernel_rfl) (by kernel_rfl) (fun _ _ _ h => h) (Or.inl ⟨by rfl, ?_⟩) ⟨x1.out, hx0.out⟩ ?_
            · intro w hSw
              obtain ⟨s0, s1⟩ := hSw
              go_simp
            try simp only [Act.put]
            refine wpAnyC_take8 (i := 2) (oi := _) (v := I x) rfl (by kernel_rfl) (by kernel_rfl) (by kernel_rfl) (by kernel_rfl) (by kernel_rfl) (by kernel_rfl) (fun _ _ _ h => h) (Or.inl ⟨by rfl, ?_⟩) ⟨x1.out, hx0.out⟩ ?_
            · intro w hSw
              obtain ⟨s0, s1⟩ := hSw
              go_simp
            try simp only [Act.put]
            refine wpAnyC_take8 (i := 3) (oi := _) (v := .pointer (some ⟨w.heap.size, 1, none⟩)) rfl (by kernel_rfl) (by kernel_rfl) (by kernel_rfl) (by kernel_rfl) (by kernel_rfl) (by kernel_rfl) (fun _ _ _ h => h) (Or.inl ⟨by rfl, ?_⟩) ⟨x1.out, hx0.out⟩ ?_
            · intro w hSw
              obtain ⟨s0, s1⟩ := hSw
              go_simp
            try simp only [Act.put]
            refine wpAnyC_take8 (i := 4) (oi := _) (v := .slice (some ⟨sb, so, none⟩) m.switches.length v.sc) rfl (by kernel_rfl) (by kernel_rfl) (by kernel_rfl) (by kernel_rfl) (by kernel_rfl) (by kernel_rfl) (fun _ _ _ h => h) (Or.inl ⟨by rfl, ?_⟩) ⟨x1.out, hx0.out⟩ ?_
            · intro w hSw
              obtain ⟨s0, s1⟩ := hSw
              go_simp
            try simp only [Act.put]
            refine wpAnyC_take8 (i := 5) (oi := _) (v := I m.switches.length) rfl (by kernel_rfl) (by kernel_rfl) (by kernel_rfl) (by kernel_rfl) (by kernel_rfl) (by kernel_rfl) (fun _ _ _ h => h) (Or.inl ⟨by rfl, ?_⟩) ⟨x1.out, hx0.out⟩ ?_
            · intro w hSw
              obtain ⟨s0, s1⟩ := hSw
              go_simp
            try simp only [Act.put]
            refine wpAnyC_take8 (i := 10) (oi := _) (v := I x) rfl (by kernel_rfl) (by kernel_rfl) (by kernel_rfl) (by kernel_rfl) (by kernel_rfl) (by kernel_rfl) (fun _ _ _ h => h) (Or.inl ⟨by rfl, ?_⟩) ⟨x1.out, hx0.out⟩ ?_
            · intro w hSw
              obtain ⟨s0, s1⟩ := hSw
              go_simp
            try simp only [Act.put]
            refine wpAnyC_take8 (i := 11) (oi := _) (v := I (IntKind.i64.wrap (x.tdiv 40))) rfl (by kernel_rfl) (by kernel_rfl) (by kernel_rfl) (by kernel_rfl) (by kernel_rfl) (by kernel_rfl) (fun _ _ _ h => h) (Or.inl ⟨by rfl, ?_⟩) ⟨x1.out, hx0.out⟩ ?_
            · intro w hSw
              obtain ⟨s0, s1⟩ := hSw
              go_simp
            try simp only [Act.put]
            refine wpAnyC_one (i := 6) (by kernel_rfl) rfl (fun K hK => ?_)
            go_simp
            go_at_call 9
            refine (HP1.out _).mono ?_
            rintro e w2 ⟨rfl, hw⟩
            rw [hw]
            clear hw w2 HP1
            refine hK.out _ _ (fun _ => ⟨x1.out, hx0.out⟩) ?_
            clear hK K
            try simp only [Act.put, List.setIfInBounds_toArray, List.set_cons_zero, List.set_cons_succ]
            refine wpAnyC_take8 (i := 7) (oi := _) (v := .pointer (some ⟨sb, so + r * 5, none⟩)) rfl (by kernel_rfl) (by kernel_rfl) (by kernel_rfl) (by kernel_rfl) (by kernel_rfl) (by kernel_rfl) (fun _ _ _ h => h) (Or.inl ⟨by rfl, ?_⟩) ⟨x1.out, hx0.out⟩ ?_
            · intro w hSw
              obtain ⟨s0, s1⟩ := hSw
              go_simp
            try simp only [Act.put, List.setIfInBounds_toArray]
            refine wpAnyC_take8 (i := 8) (oi := _) (v := .pointer (some ⟨sb, so + r * 5, none⟩)) rfl (by kernel_rfl) (by kernel_rfl) (by kernel_rfl) (by kernel_rfl) (by kernel_rfl) (by kernel_rfl) (fun _ _ _ h => h) (Or.inl ⟨by rfl, ?_⟩) ⟨x1.out, hx0.out⟩ ?_
            · intro w hSw
              obtain ⟨s0, s1⟩ := hSw
              go_simp
            try simp only [Act.put]
            refine wpAnyC_take8 (i := 9) (oi := _) (v := .string nm) rfl (by kernel_rfl) (by kernel_rfl) (by kernel_rfl) (by kernel_rfl) (by kernel_rfl) (by kernel_rfl) (fun _ _ _ h => h) (Or.inl ⟨by rfl, ?_⟩) ⟨x1.out, hx0.out⟩ ?_
            · intro w hSw
              obtain ⟨s0, s1⟩ := hSw
              go_simp
            try simp only [Act.put]
            refine wpAnyC_one (i := 12) (by kernel_rfl) rfl (fun K hK => ?_)
            go_simp
            go_at_call 9
            refine (pick_at _ 2 _ (by decide) (by decide)).mono ?_
            rintro e w2 ⟨rfl, hw⟩
            rw [hw]
            clear hw w2
            refine hK.out _ _ (fun _ => ⟨x1.out, hx0.out⟩) ?_
            clear hK K
            try simp only [Act.put, List.setIfInBounds_toArray, List.set_cons_zero, List.set_cons_succ]
            refine wpAnyC_takeP (i := 13) (oi := _) (v := .bool o) rfl (by kernel_rfl) (by kernel_rfl) (by kernel_rfl) (by kernel_rfl) (fun _ _ _ h => h) (Or.inl ⟨by rfl, ?_⟩) ⟨x1.out, hx0.out⟩ ?_
            · intro w _
              go_simp
              exact HO.out
            try simp only [Act.put, List.setIfInBounds_toArray]
            refine wpAnyC_one (i := 14) (by kernel_rfl) rfl (fun K hK => ?_)
            go_simp
            refine hK.out _ _ (fun _ => ⟨x1.out, hx0.out⟩) ?_
            clear hK K
            try simp only [Act.put, List.setIfInBounds_toArray, List.set_cons_zero, List.set_cons_succ]
            refine wpAnyC_one (i := 15) (by kernel_rfl) rfl (fun K hK => ?_)
            go_simp
            refine hK.out _ _ (fun h => absurd h (by decide)) ?_
            clear hK K
            try simp only [Act.put, List.setIfInBounds_toArray, List.set_cons_zero, List.set_cons_succ]
            refine wpAnyC_done (by kernel_rfl) ?_ _
            have hb24 := bus_le (vnet HC.out)
            have hi24 := isl_le (vnet HC.out)
            have HFS := Lib.hid (fset_at nm o W1 HI.out.fol HC.out HI.out.bs hr2 HNM.out)
            have HSE := Lib.hid fun W h => set_at nm o W (v := v) h HC.out hr2 HNM.out
            obtain ⟨m', hm'⟩ : ∃ m', setSw m r o = m' := ⟨_, rfl⟩
            have HC' := Lib.hid (show checkN m' = 0 by rw [← hm', checkN_set]; exact HC.out)
            have HLEN' := Lib.hid (show m'.switches.length = n.switches.length by rw [← hm', ← HLEN.out]; simp [setSw])
            have HLE' := Lib.hid (small_le (show checkN m' = 0 by rw [← hm', checkN_set]; exact HC.out))
            have HNN := Lib.hid (show ∀ W v', NetIn W m' v' → Net W m' v' from fun W v' h => by rw [← hm'] at h ⊢; exact setSw_net HN.out r o h)
            rw [hm'] at HFS HSE
            clear hm'
            obtain ⟨ch, hch⟩ : ∃ ch, (!(busesL m' == busesL m) || !(islandsL m' == islandsL m)) = ch := ⟨_, rfl⟩
            rw [hch] at HFS
            have HCH := Lib.hid (show (ch == ((b0 == busesL m') && (i0 == islandsL m'))) = false by rw [← hch, HB0.out, HI0.out]; exact foll_same _ _ _ _)
            clear hch HB0 HI0 HNM hml
            go_wp2_with fail
            refine HFS.out.mono ?_
            rintro e W2 ⟨bA', bc', iA', ic', rfl, hf, hb, hch⟩
            clear HFS
            clear x1 hx0
            have hms : 0 < m.switches.length := by omega
            have HW3 := Lib.hid (show w3.heap.size < W2.heap.size from Nat.lt_of_lt_of_le HI.out.tb.lt hch.1)
            replace HN := Lib.hid (HI.out.net HN.out.net hch hms HAP.out)
            have HI2 := Lib.hid (HI.out.fset hms hf hch)
            replace HB := Lib.hid (HB.out.trans (hb.mono (Nat.le_of_lt HZ0.out)))
            replace HN := Lib.hid (show Net W2 m v from ⟨HN.out, HNK.out.ok, HNK.out.l1, HNK.out.l2, HNK.out.l3, HNK.out.l4, HNK.out.l5, HNK.out.l6⟩)
            clear hch hb hf HI HAP HNK
            have x0 := HI2.out.box.cell 0
            have x1 := HI2.out.box.cell 1
            have x2 := HI2.out.box.cell 2
            have x3 := HI2.out.box.cell 3
            have x4 := HI2.out.box.cell 4
            have x5 := HI2.out.box.cell 5
            unfold NetV.parts at x0 x1 x2 x3 x4 x5 HI2
            unfold NetV.val NetV.parts at HSE
            go_wp2_with fail
            refine (HSE.out _ HN.out).mono ?_
            rintro e W3 ⟨v2, rfl, hin, hb, hfr⟩
            unfold NetV.val NetV.parts
            clear HSE
            have hz := below_new0 W3 (Obj.cells #[.slice v2.na m'.nodes.length v2.nc, .slice v2.sa m'.switches.length v2.sc, .slice v2.ba m'.branches.length v2.bc, .slice v2.ga m'.gens.length v2.gc, .slice v2.la m'.loads.length v2.lc, .slice v2.ta m'.stores.length v2.tc] 29)
            have HY := Lib.hid (Blk.new W3 29 #[.slice v2.na m'.nodes.length v2.nc, .slice v2.sa m'.switches.length v2.sc, .slice v2.ba m'.branches.length v2.bc, .slice v2.ga m'.gens.length v2.gc, .slice v2.la m'.loads.length v2.lc, .slice v2.ta m'.stores.length v2.tc])
            have HAP := Lib.hid (show ∀ b off c off', v2.sa = some ⟨b, off, none⟩ → vf.sa = some ⟨c, off', none⟩ → b ≠ c from fun b off c off' e1 e2 => by
              obtain ⟨cb, co, e3, h3⟩ := HI2.out.fol.swAt (show 0 < m'.switches.length by rw [HLEN'.out]; exact hs)
              rw [e2] at e3
              injection e3 with e3
              injection e3 with e3
              have := hfr b off e1
              omega)
            replace HI2 := Lib.hid ((HI2.out.call hb).call hz)
            replace HB := Lib.hid ((HB.out.trans (hb.mono HB.out.size)).trans (hz.mono (Nat.le_trans HB.out.size hb.size)))
            have HIN := Lib.hid (hin.below hz)
            have hne : w.heap.size ≠ W3.heap.size := by have h1 := HZ3.out; have h2 := HW3.out; have h3 := hb.size; omega
            clear hb hz hfr hin HN x0 x1 x2 x3 x4 x5
            have x0 := HI2.out.box.cell 0
            have f0 := HI2.out.box.frozen 0
            have y0 := HY.out.cell 0
            have x1 := HI2.out.box.cell 1
            have f1 := HI2.out.box.frozen 1
            have y1 := HY.out.cell 1
            have x2 := HI2.out.box.cell 2
            have f2 := HI2.out.box.frozen 2
            have y2 := HY.out.cell 2
            have x3 := HI2.out.box.cell 3
            have f3 := HI2.out.box.frozen 3
            have y3 := HY.out.cell 3
            have x4 := HI2.out.box.cell 4
            have f4 := HI2.out.box.frozen 4
            have y4 := HY.out.cell 4
            have x5 := HI2.out.box.cell 5
            have f5 := HI2.out.box.frozen 5
            have y5 := HY.out.cell 5
            go_upto_region 18 with (fail)
            rw [← set6_def]
            have hi5 := HI2.out.put6 rfl (slices6_mk _ _ _ _ _ _ _ _ _ _ _ _ _ _ _ _ _ _) (Value.slice v2.na m'.nodes.length v2.nc) (Value.slice v2.sa m'.switches.length v2.sc) (Value.slice v2.ba m'.branches.length v2.bc) (Value.slice v2.ga m'.gens.length v2.gc) (Value.slice v2.la m'.loads.length v2.lc) (Value.slice v2.ta m'.stores.length v2.tc)
            have hn5 := HIN.out.put6 HI2.out.box (slices6_mk _ _ _ _ _ _ _ _ _ _ _ _ _ _ _ _ _ _) (Value.slice v2.na m'.nodes.length v2.nc) (Value.slice v2.sa m'.switches.length v2.sc) (Value.slice v2.ba m'.branches.length v2.bc) (Value.slice v2.ga m'.gens.length v2.gc) (Value.slice v2.la m'.loads.length v2.lc) (Value.slice v2.ta m'.stores.length v2.tc)
            have hb5 := HB.out.trans (set6_below (W3.alloc (Obj.cells #[.slice v2.na m'.nodes.length v2.nc, .slice v2.sa m'.switches.length v2.sc, .slice v2.ba m'.branches.length v2.bc, .slice v2.ga m'.gens.length v2.gc, .slice v2.la m'.loads.length v2.lc, .slice v2.ta m'.stores.length v2.tc] 29)) w.heap.size w.heap.size (Value.slice v2.na m'.nodes.length v2.nc) (Value.slice v2.sa m'.switches.length v2.sc) (Value.slice v2.ba m'.branches.length v2.bc) (Value.slice v2.ga m'.gens.length v2.gc) (Value.slice v2.la m'.loads.length v2.lc) (Value.slice v2.ta m'.stores.length v2.tc) (Nat.le_refl _))
            clear HI2 HIN HB HY hne x0 f0 y0 x1 f1 y1 x2 f2 y2 x3 f3 y3 x4 f4 y4 x5 f5 y5
            generalize set6 (W3.alloc (Obj.cells #[.slice v2.na m'.nodes.length v2.nc, .slice v2.sa m'.switches.length v2.sc, .slice v2.ba m'.branches.length v2.bc, .slice v2.ga m'.gens.length v2.gc, .slice v2.la m'.loads.length v2.lc, .slice v2.ta m'.stores.length v2.tc] 29)) w.heap.size (Value.slice v2.na m'.nodes.length v2.nc) (Value.slice v2.sa m'.switches.length v2.sc) (Value.slice v2.ba m'.branches.length v2.bc) (Value.slice v2.ga m'.gens.length v2.gc) (Value.slice v2.la m'.loads.length v2.lc) (Value.slice v2.ta m'.stores.length v2.tc) = W5 at *
            have HI := Lib.hid hi5
            have HIN := Lib.hid hn5
            have HB := Lib.hid hb5
            clear hi5 hn5 hb5
            have HOF := Lib.hid (show Calls _ _ _ _ (RetOf W5 ((busesL m', islandsL m'), 0)) by have := topOf_any m' v2 W5 (HNN.out _ _ HIN.out); rw [ofL, if_pos HC'.out] at this; exact this)
            unfold NetV.val NetV.parts at HOF
            have x0 := HI.out.box.cell 0
            have x1 := HI.out.box.cell 1
            have x2 := HI.out.box.cell 2
            have x3 := HI.out.box.cell 3
            have x4 := HI.out.box.cell 4
            have x5 := HI.out.box.cell 5
            go_wp2_with fail
            refine HOF.out.mono ?_
            rintro e W6 ⟨bv, iv, rfl, hr1, hr2, hb⟩
            obtain ⟨oA, oc, rfl⟩ := hr1.val
            obtain ⟨pA, pc, rfl⟩ := hr2.val
            clear HOF
            clear x0 x1 x2 x3 x4 x5
            simp only at hr1 hr2 ⊢
            replace HI := Lib.hid (HI.out.call hb)
            replace HIN := Lib.hid (HIN.out.below hb)
            replace HB := Lib.hid (HB.out.trans (hb.mono HB.out.size))
            clear hb
            have hz := below_new0 W6 (Obj.cells #[.slice oA (busesL m').length oc, .slice pA (islandsL m').length pc] 37)
            have HT := Lib.hid (Blk.new W6 37 #[.slice oA (busesL m').length oc, .slice pA (islandsL m').length pc])
            have HTB1 := Lib.hid (hr1.reads.call hz)
            have HTI1 := Lib.hid (hr2.reads.call hz)
            clear hr1 hr2
            replace HI := Lib.hid (HI.out.call hz)
            replace HIN := Lib.hid (HIN.out.below hz)
            replace HB := Lib.hid (HB.out.trans (hz.mono HB.out.size))
            clear hz
            have hb24' := bus_le (vnet HC'.out)
            have hi24' := isl_le (vnet HC'.out)
            have HTO := Lib.hid (topology_any _ HI.out.fol (by omega) (by omega))
            go_wp2_with fail
            refine HTO.out.mono ?_
            rintro e W8 ⟨qA, qc, rA, rc, rfl, hr1, hr2, hb⟩
            clear HTO
            replace HI := Lib.hid (HI.out.call hb)
            replace HIN := Lib.hid (HIN.out.below hb)
            replace HB := Lib.hid (HB.out.trans (hb.mono HB.out.size))
            replace HT := Lib.hid (HT.out.call hb)
            replace HTB1 := Lib.hid (HTB1.out.call hb)
            replace HTI1 := Lib.hid (HTI1.out.call hb)
            clear hb
            have hz := below_new0 W8 (Obj.cells #[.slice qA (busesL m').length qc, .slice rA (islandsL m').length rc] 37)
            have HN8 := Lib.hid (Blk.new W8 37 #[.slice qA (busesL m').length qc, .slice rA (islandsL m').length rc])
            have HNB := Lib.hid (hr1.call hz)
            have HNI := Lib.hid (hr2.call hz)
            clear hr1 hr2
            replace HI := Lib.hid (HI.out.call hz)
            replace HIN := Lib.hid (HIN.out.below hz)
            replace HB := Lib.hid (HB.out.trans (hz.mono HB.out.size))
            replace HT := Lib.hid (HT.out.call hz)
            replace HTB1 := Lib.hid (HTB1.out.call hz)
            replace HTI1 := Lib.hid (HTI1.out.call hz)
            clear hz
            have t0 := HT.out.cell 0
            have t1 := HT.out.cell 1
            have n0 := HN8.out.cell 0
            have n1 := HN8.out.cell 1
            have HEQ := Lib.hid (eqI_any (busesL m') (busesL m') oA qA oc qc _ HTB1.out HNB.out (by omega) (by omega))
            rw [show (busesL m' == busesL m') = true from BEq.rfl] at HEQ
            go_wp2_with fail
            refine HEQ.out.mono ?_
            rintro e W9 ⟨rfl, hb⟩
            clear HEQ
            clear t0 t1 n0 n1
            replace HI := Lib.hid (HI.out.call hb)
            replace HIN := Lib.hid (HIN.out.below hb)
            replace HB := Lib.hid (HB.out.trans (hb.mono HB.out.size))
            replace HT := Lib.hid (HT.out.call hb)
            replace HTB1 := Lib.hid (HTB1.out.call hb)
            replace HTI1 := Lib.hid (HTI1.out.call hb)
            replace HN8 := Lib.hid (HN8.out.call hb)
            replace HNB := Lib.hid (HNB.out.call hb)
            replace HNI := Lib.hid (HNI.out.call hb)
            clear hb
            have t0 := HT.out.cell 0
            have t1 := HT.out.cell 1
            have n0 := HN8.out.cell 0
            have n1 := HN8.out.cell 1
            have HEQ := Lib.hid (eqI_any (islandsL m') (islandsL m') pA rA pc rc _ HTI1.out HNI.out (by omega) (by omega))
            rw [show (islandsL m' == islandsL m') = true from BEq.rfl] at HEQ
            go_wp2_with fail
            refine HEQ.out.mono ?_
            rintro e W10 ⟨rfl, hb⟩
            clear HEQ
            clear t0 t1 n0 n1
            replace HI := Lib.hid (HI.out.call hb)
            replace HIN := Lib.hid (HIN.out.below hb)
            replace HB := Lib.hid (HB.out.trans (hb.mono HB.out.size))
            replace HT := Lib.hid (HT.out.call hb)
            replace HTB1 := Lib.hid (HTB1.out.call hb)
            replace HTI1 := Lib.hid (HTI1.out.call hb)
            replace HN8 := Lib.hid (HN8.out.call hb)
            replace HNB := Lib.hid (HNB.out.call hb)
            replace HNI := Lib.hid (HNI.out.call hb)
            clear hb
            clear HT HTB1 HTI1
            have hbl0 := HBL.out
            have hil0 := HIL.out
            cases hbe : (b0 == busesL m') with
            | false =>
              have HEQ := Lib.hid (eqI_any b0 (busesL m') tA qA tc qc _ HI.out.bus HNB.out (by omega) (by omega))
              rw [hbe] at HEQ
              have b0 := HI.out.tb.cell 0
              have b1 := HI.out.tb.cell 1
              have n0 := HN8.out.cell 0
              have n1 := HN8.out.cell 1
              go_wp2_with fail
              refine HEQ.out.mono ?_
              rintro e W14 ⟨rfl, hb⟩
              clear HEQ
              clear b0 b1 n0 n1
              replace HI := Lib.hid (HI.out.call hb)
              replace HIN := Lib.hid (HIN.out.below hb)
              replace HB := Lib.hid (HB.out.trans (hb.mono HB.out.size))
              replace HN8 := Lib.hid (HN8.out.call hb)
              replace HNB := Lib.hid (HNB.out.call hb)
              replace HNI := Lib.hid (HNI.out.call hb)
              clear hb
              have hsm : (ch == false) = false := by
                have := HCH.out
                rw [hbe] at this
                simpa using this
              clear HCH hbe
              go_upto_region 23 with (fail)
              have hd := below_draw0 W14
              replace HI := Lib.hid (HI.out.call hd)
              replace HIN := Lib.hid (HIN.out.below hd)
              replace HB := Lib.hid (HB.out.trans (hd.mono HB.out.size))
              replace HN8 := Lib.hid (HN8.out.call hd)
              replace HNB := Lib.hid (HNB.out.call hd)
              replace HNI := Lib.hid (HNI.out.call hd)
              clear hd
              refine wp_region_c (fun w' => w'.cell? ⟨w.heap.size, 0, none⟩ = some (.slice v2.na m'.nodes.length v2.nc) ∧ w'.cell? ⟨w.heap.size, 1, none⟩ = some (.slice v2.sa m'.switches.length v2.sc) ∧ w'.cell? ⟨w.heap.size, 2, none⟩ = some (.slice v2.ba m'.branches.length v2.bc) ∧ w'.cell? ⟨w.heap.size, 3, none⟩ = some (.slice v2.ga m'.gens.length v2.gc) ∧ w'.cell? ⟨w.heap.size, 4, none⟩ = some (.slice v2.la m'.loads.length v2.lc) ∧ w'.cell? ⟨w.heap.size, 5, none⟩ = some (.slice v2.ta m'.stores.length v2.tc)) 8 (by kernel_rfl) ?_
              generalize W14.drew = W11 at *
              refine wpAnyC_take8 (i := 0) (oi := _) (v := .agg #[.slice v2.na m'.nodes.length v2.nc, .slice v2.sa m'.switches.length v2.sc, .slice v2.ba m'.branches.length v2.bc, .slice v2.ga m'.gens.length v2.gc, .slice v2.la m'.loads.length v2.lc, .slice v2.ta m'.stores.length v2.tc]) rfl (by kernel_rfl) (by kernel_rfl) (by kernel_rfl) (by kernel_rfl) (by kernel_rfl) (by kernel_rfl) (fun _ _ _ h => h) (Or.inl ⟨by rfl, ?_⟩) ⟨HI.out.box.cell 0, HI.out.box.cell 1, HI.out.box.cell 2, HI.out.box.cell 3, HI.out.box.cell 4, HI.out.box.cell 5⟩ ?_
              · intro w hSw
                obtain ⟨s0, s1, s2, s3, s4, s5⟩ := hSw
                go_simp
              try simp only [Act.put, List.setIfInBounds_toArray]
              refine wpAnyC_takeP (i := 1) (oi := _) (v := .pointer (some ⟨g, 0, none⟩)) rfl (by kernel_rfl) (by kernel_rfl) (by kernel_rfl) (by kernel_rfl) (fun _ _ _ h => h) (Or.inl ⟨by rfl, ?_⟩) ⟨HI.out.box.cell 0, HI.out.box.cell 1, HI.out.box.cell 2, HI.out.box.cell 3, HI.out.box.cell 4, HI.out.box.cell 5⟩ ?_
              · intro w _
                go_simp
              try simp only [Act.put]
              refine wpAnyC_one (i := 2) (by kernel_rfl) rfl (fun K hK => ?_)
              go_simp
              go_at_call 15
              refine (network_any W11 HI.out.fol HLE'.out).mono ?_
              rintro e W12 ⟨v3, rfl, hin3, _, hb⟩
              have HI3 := Lib.hid hin3
              clear hin3
              unfold NetV.val NetV.parts
              replace HI := Lib.hid (HI.out.call hb)
              replace HIN := Lib.hid (HIN.out.below hb)
              replace HB := Lib.hid (HB.out.trans (hb.mono HB.out.size))
              replace HN8 := Lib.hid (HN8.out.call hb)
              replace HNB := Lib.hid (HNB.out.call hb)
              replace HNI := Lib.hid (HNI.out.call hb)
              clear hb
              refine hK.out _ _ (fun _ => ⟨HI.out.box.cell 0, HI.out.box.cell 1, HI.out.box.cell 2, HI.out.box.cell 3, HI.out.box.cell 4, HI.out.box.cell 5⟩) ?_
              clear hK K
              try simp only [Act.put, List.setIfInBounds_toArray, List.set_cons_zero, List.set_cons_succ]
              have HDF := Lib.hid (show Calls _ _ _ _ (RetDf W12 ([], 0)) by have := diff_any m' m' v2 v3 W12 (HNN.out _ _ HIN.out) (HNN.out _ _ HI3.out) (tab_below HTB.out HB.out); rw [diffN_same HC'.out] at this; exact this)
              unfold NetV.val NetV.parts at HDF
              refine wpAnyC_one (i := 3) (by kernel_rfl) rfl (fun K hK => ?_)
              go_simp
              go_at_call 14
              refine (HDF.out).mono ?_
              rintro e W13 ⟨dA, dc, rfl, _, hb⟩
              clear HI3 HDF
              replace HI := Lib.hid (HI.out.call hb)
              replace HIN := Lib.hid (HIN.out.below hb)
              replace HB := Lib.hid (HB.out.trans (hb.mono HB.out.size))
              replace HN8 := Lib.hid (HN8.out.call hb)
              replace HNB := Lib.hid (HNB.out.call hb)
              replace HNI := Lib.hid (HNI.out.call hb)
              clear hb
              refine hK.out _ _ (fun _ => ⟨HI.out.box.cell 0, HI.out.box.cell 1, HI.out.box.cell 2, HI.out.box.cell 3, HI.out.box.cell 4, HI.out.box.cell 5⟩) ?_
              clear hK K
              try simp only []
              refine wpAnyC_takeP (i := 4) (oi := _) (v := .tuple #[.slice dA 0 dc, I 0]) rfl (by kernel_rfl) (by kernel_rfl) (by kernel_rfl) (by kernel_rfl) (fun _ _ _ h => h) (Or.inl ⟨by rfl, ?_⟩) ⟨HI.out.box.cell 0, HI.out.box.cell 1, HI.out.box.cell 2, HI.out.box.cell 3, HI.out.box.cell 4, HI.out.box.cell 5⟩ ?_
              · intro w _
                go_simp
              try simp only [Act.put, List.setIfInBounds_toArray]
              refine wpAnyC_takeP (i := 5) (oi := _) (v := .slice dA 0 dc) rfl (by kernel_rfl) (by kernel_rfl) (by kernel_rfl) (by kernel_rfl) (fun _ _ _ h => h) (Or.inl ⟨by rfl, ?_⟩) ⟨HI.out.box.cell 0, HI.out.box.cell 1, HI.out.box.cell 2, HI.out.box.cell 3, HI.out.box.cell 4, HI.out.box.cell 5⟩ ?_
              · intro w _
                go_simp
              try simp only [Act.put]
              refine wpAnyC_takeP (i := 6) (oi := _) (v := I 0) rfl (by kernel_rfl) (by kernel_rfl) (by kernel_rfl) (by kernel_rfl) (fun _ _ _ h => h) (Or.inl ⟨by rfl, ?_⟩) ⟨HI.out.box.cell 0, HI.out.box.cell 1, HI.out.box.cell 2, HI.out.box.cell 3, HI.out.box.cell 4, HI.out.box.cell 5⟩ ?_
              · intro w _
                go_simp
              try simp only [Act.put]
              refine wpAnyC_one (i := 7) (by kernel_rfl) rfl (fun K hK => ?_)
              go_simp
              refine hK.out _ _ (fun _ => ⟨HI.out.box.cell 0, HI.out.box.cell 1, HI.out.box.cell 2, HI.out.box.cell 3, HI.out.box.cell 4, HI.out.box.cell 5⟩) ?_
              clear hK K
              try simp only [Act.put, List.setIfInBounds_toArray, List.set_cons_zero, List.set_cons_succ]
              refine wpAnyC_one (i := 8) (by kernel_rfl) rfl (fun K hK => ?_)
              go_simp
              refine hK.out _ _ (fun h => absurd h (by decide)) ?_
              clear hK K
              try simp only [Act.put, List.setIfInBounds_toArray, List.set_cons_zero, List.set_cons_succ]
              refine wpAnyC_done (by kernel_rfl) ?_ _
              have n0 := HN8.out.cell 0
              have n1 := HN8.out.cell 1
              have b0 := HI.out.tb.cell 0
              have b1 := HI.out.tb.cell 1
              have c0 := HI.out.tb.frozen 0
              have c1 := HI.out.tb.frozen 1
              go_wp2
              have hft := HI.out.tput (qc := qc) (rc := rc) HNB.out HNI.out
              have hnt := (HIN.out.set_slice (HI.out.tb.cell 0) (Value.slice qA (busesL m').length qc)).set_slice ((HI.out.tb.set_ 0 (Value.slice qA (busesL m').length qc)).cell 1) (Value.slice rA (islandsL m').length rc)
              have hbt := (HB.out.setCell (p := ⟨w3.heap.size, 0, none⟩) (Nat.le_of_lt HZ3.out) (Value.slice qA (busesL m').length qc)).setCell (p := ⟨w3.heap.size, 1, none⟩) (Nat.le_of_lt HZ3.out) (Value.slice rA (islandsL m').length rc)
              clear n0 n1 b0 b1 c0 c1
              go_roundg (l.length - (k + 1))
              case measure => omega
              case rel => exact ⟨k + 1, m', v2, bA', bc', iA', ic', busesL m', islandsL m', qA, qc, rA, rc, rfl, by go_num, by omega, HC', HLEN', Lib.hid (HNN.out _ _ hnt), Lib.hid hft, Lib.hid rfl, Lib.hid rfl, HAP, Lib.hid hbt⟩
            | true =>
              have HEQ := Lib.hid (eqI_any b0 (busesL m') tA qA tc qc _ HI.out.bus HNB.out (by omega) (by omega))
              rw [hbe] at HEQ
              have b0 := HI.out.tb.cell 0
              have b1 := HI.out.tb.cell 1
              have n0 := HN8.out.cell 0
              have n1 := HN8.out.cell 1
              go_wp2_with fail
              refine HEQ.out.mono ?_
              rintro e W14 ⟨rfl, hb⟩
              clear HEQ
              clear b0 b1 n0 n1
              replace HI := Lib.hid (HI.out.call hb)
              replace HIN := Lib.hid (HIN.out.below hb)
              replace HB := Lib.hid (HB.out.trans (hb.mono HB.out.size))
              replace HN8 := Lib.hid (HN8.out.call hb)
              replace HNB := Lib.hid (HNB.out.call hb)
              replace HNI := Lib.hid (HNI.out.call hb)
              clear hb
              obtain ⟨si, hsi⟩ : ∃ si, (i0 == islandsL m') = si := ⟨_, rfl⟩
              have HEQ := Lib.hid (eqI_any i0 (islandsL m') jA rA jc rc _ HI.out.isl HNI.out (by omega) (by omega))
              rw [hsi] at HEQ HCH
              clear hsi
              have b0 := HI.out.tb.cell 0
              have b1 := HI.out.tb.cell 1
              have n0 := HN8.out.cell 0
              have n1 := HN8.out.cell 1
              go_wp2_with fail
              refine HEQ.out.mono ?_
              rintro e W15 ⟨rfl, hb⟩
              clear HEQ
              clear b0 b1 n0 n1
              replace HI := Lib.hid (HI.out.call hb)
              replace HIN := Lib.hid (HIN.out.below hb)
              replace HB := Lib.hid (HB.out.trans (hb.mono HB.out.size))
              replace HN8 := Lib.hid (HN8.out.call hb)
              replace HNB := Lib.hid (HNB.out.call hb)
              replace HNI := Lib.hid (HNI.out.call hb)
              clear hb
              have hsm : (ch == si) = false := by
                have := HCH.out
                rw [hbe] at this
                simpa using this
              clear HCH hbe
              go_upto_region 23 with (fail)
              have hd := below_draw0 W15
              replace HI := Lib.hid (HI.out.call hd)
              replace HIN := Lib.hid (HIN.out.below hd)
              replace HB := Lib.hid (HB.out.trans (hd.mono HB.out.size))
              replace HN8 := Lib.hid (HN8.out.call hd)
              replace HNB := Lib.hid (HNB.out.call hd)
              replace HNI := Lib.hid (HNI.out.call hd)
              clear hd
              refine wp_region_c (fun w' => w'.cell? ⟨w.heap.size, 0, none⟩ = some (.slice v2.na m'.nodes.length v2.nc) ∧ w'.cell? ⟨w.heap.size, 1, none⟩ = some (.slice v2.sa m'.switches.length v2.sc) ∧ w'.cell? ⟨w.heap.size, 2, none⟩ = some (.slice v2.ba m'.branches.length v2.bc) ∧ w'.cell? ⟨w.heap.size, 3, none⟩ = some (.slice v2.ga m'.gens.length v2.gc) ∧ w'.cell? ⟨w.heap.size, 4, none⟩ = some (.slice v2.la m'.loads.length v2.lc) ∧ w'.cell? ⟨w.heap.size, 5, none⟩ = some (.slice v2.ta m'.stores.length v2.tc)) 8 (by kernel_rfl) ?_
              generalize W15.drew = W11 at *
              refine wpAnyC_take8 (i := 0) (oi := _) (v := .agg #[.slice v2.na m'.nodes.length v2.nc, .slice v2.sa m'.switches.length v2.sc, .slice v2.ba m'.branches.length v2.bc, .slice v2.ga m'.gens.length v2.gc, .slice v2.la m'.loads.length v2.lc, .slice v2.ta m'.stores.length v2.tc]) rfl (by kernel_rfl) (by kernel_rfl) (by kernel_rfl) (by kernel_rfl) (by kernel_rfl) (by kernel_rfl) (fun _ _ _ h => h) (Or.inl ⟨by rfl, ?_⟩) ⟨HI.out.box.cell 0, HI.out.box.cell 1, HI.out.box.cell 2, HI.out.box.cell 3, HI.out.box.cell 4, HI.out.box.cell 5⟩ ?_
              · intro w hSw
                obtain ⟨s0, s1, s2, s3, s4, s5⟩ := hSw
                go_simp
              try simp only [Act.put, List.setIfInBounds_toArray]
              refine wpAnyC_takeP (i := 1) (oi := _) (v := .pointer (some ⟨g, 0, none⟩)) rfl (by kernel_rfl) (by kernel_rfl) (by kernel_rfl) (by kernel_rfl) (fun _ _ _ h => h) (Or.inl ⟨by rfl, ?_⟩) ⟨HI.out.box.cell 0, HI.out.box.cell 1, HI.out.box.cell 2, HI.out.box.cell 3, HI.out.box.cell 4, HI.out.box.cell 5⟩ ?_
              · intro w _
                go_simp
              try simp only [Act.put]
              refine wpAnyC_one (i := 2) (by kernel_rfl) rfl (fun K hK => ?_)
              go_simp
              go_at_call 15
              refine (network_any W11 HI.out.fol HLE'.out).mono ?_
              rintro e W12 ⟨v3, rfl, hin3, _, hb⟩
              have HI3 := Lib.hid hin3
              clear hin3
              unfold NetV.val NetV.parts
              replace HI := Lib.hid (HI.out.call hb)
              replace HIN := Lib.hid (HIN.out.below hb)
              replace HB := Lib.hid (HB.out.trans (hb.mono HB.out.size))
              replace HN8 := Lib.hid (HN8.out.call hb)
              replace HNB := Lib.hid (HNB.out.call hb)
              replace HNI := Lib.hid (HNI.out.call hb)
              clear hb
              refine hK.out _ _ (fun _ => ⟨HI.out.box.cell 0, HI.out.box.cell 1, HI.out.box.cell 2, HI.out.box.cell 3, HI.out.box.cell 4, HI.out.box.cell 5⟩) ?_
              clear hK K
              try simp only [Act.put, List.setIfInBounds_toArray, List.set_cons_zero, List.set_cons_succ]
              have HDF := Lib.hid (show Calls _ _ _ _ (RetDf W12 ([], 0)) by have := diff_any m' m' v2 v3 W12 (HNN.out _ _ HIN.out) (HNN.out _ _ HI3.out) (tab_below HTB.out HB.out); rw [diffN_same HC'.out] at this; exact this)
              unfold NetV.val NetV.parts at HDF
              refine wpAnyC_one (i := 3) (by kernel_rfl) rfl (fun K hK => ?_)
              go_simp
              go_at_call 14
              refine (HDF.out).mono ?_
              rintro e W13 ⟨dA, dc, rfl, _, hb⟩
              clear HI3 HDF
              replace HI := Lib.hid (HI.out.call hb)
              replace HIN := Lib.hid (HIN.out.below hb)
              replace HB := Lib.hid (HB.out.trans (hb.mono HB.out.size))
              replace HN8 := Lib.hid (HN8.out.call hb)
              replace HNB := Lib.hid (HNB.out.call hb)
              replace HNI := Lib.hid (HNI.out.call hb)
              clear hb
              refine hK.out _ _ (fun _ => ⟨HI.out.box.cell 0, HI.out.box.cell 1, HI.out.box.cell 2, HI.out.box.cell 3, HI.out.box.cell 4, HI.out.box.cell 5⟩) ?_
              clear hK K
              try simp only []
              refine wpAnyC_takeP (i := 4) (oi := _) (v := .tuple #[.slice dA 0 dc, I 0]) rfl (by kernel_rfl) (by kernel_rfl) (by kernel_rfl) (by kernel_rfl) (fun _ _ _ h => h) (Or.inl ⟨by rfl, ?_⟩) ⟨HI.out.box.cell 0, HI.out.box.cell 1, HI.out.box.cell 2, HI.out.box.cell 3, HI.out.box.cell 4, HI.out.box.cell 5⟩ ?_
              · intro w _
                go_simp
              try simp only [Act.put, List.setIfInBounds_toArray]
              refine wpAnyC_takeP (i := 5) (oi := _) (v := .slice dA 0 dc) rfl (by kernel_rfl) (by kernel_rfl) (by kernel_rfl) (by kernel_rfl) (fun _ _ _ h => h) (Or.inl ⟨by rfl, ?_⟩) ⟨HI.out.box.cell 0, HI.out.box.cell 1, HI.out.box.cell 2, HI.out.box.cell 3, HI.out.box.cell 4, HI.out.box.cell 5⟩ ?_
              · intro w _
                go_simp
              try simp only [Act.put]
              refine wpAnyC_takeP (i := 6) (oi := _) (v := I 0) rfl (by kernel_rfl) (by kernel_rfl) (by kernel_rfl) (by kernel_rfl) (fun _ _ _ h => h) (Or.inl ⟨by rfl, ?_⟩) ⟨HI.out.box.cell 0, HI.out.box.cell 1, HI.out.box.cell 2, HI.out.box.cell 3, HI.out.box.cell 4, HI.out.box.cell 5⟩ ?_
              · intro w _
                go_simp
              try simp only [Act.put]
              refine wpAnyC_one (i := 7) (by kernel_rfl) rfl (fun K hK => ?_)
              go_simp
              refine hK.out _ _ (fun _ => ⟨HI.out.box.cell 0, HI.out.box.cell 1, HI.out.box.cell 2, HI.out.box.cell 3, HI.out.box.cell 4, HI.out.box.cell 5⟩) ?_
              clear hK K
              try simp only [Act.put, List.setIfInBounds_toArray, List.set_cons_zero, List.set_cons_succ]
              refine wpAnyC_one (i := 8) (by kernel_rfl) rfl (fun K hK => ?_)
              go_simp
              refine hK.out _ _ (fun h => absurd h (by decide)) ?_
              clear hK K
              try simp only [Act.put, List.setIfInBounds_toArray, List.set_cons_zero, List.set_cons_succ]
              refine wpAnyC_done (by kernel_rfl) ?_ _
              have n0 := HN8.out.cell 0
              have n1 := HN8.out.cell 1
              have b0 := HI.out.tb.cell 0
              have b1 := HI.out.tb.cell 1
              have c0 := HI.out.tb.frozen 0
              have c1 := HI.out.tb.frozen 1
              go_wp2
              have hft := HI.out.tput (qc := qc) (rc := rc) HNB.out HNI.out
              have hnt := (HIN.out.set_slice (HI.out.tb.cell 0) (Value.slice qA (busesL m').length qc)).set_slice ((HI.out.tb.set_ 0 (Value.slice qA (busesL m').length qc)).cell 1) (Value.slice rA (islandsL m').length rc)
              have hbt := (HB.out.setCell (p := ⟨w3.heap.size, 0, none⟩) (Nat.le_of_lt HZ3.out) (Value.slice qA (busesL m').length qc)).setCell (p := ⟨w3.heap.size, 1, none⟩) (Nat.le_of_lt HZ3.out) (Value.slice rA (islandsL m').length rc)
              clear n0 n1 b0 b1 c0 c1
              go_roundg (l.length - (k + 1))
              case measure => omega
              case rel => exact ⟨k + 1, m', v2, bA', bc', iA', ic', busesL m', islandsL m', qA, qc, rA, rc, rfl, by go_num, by omega, HC', HLEN', Lib.hid (HNN.out _ _ hnt), Lib.hid hft, Lib.hid rfl, Lib.hid rfl, HAP, Lib.hid hbt⟩
          · obtain rfl : k = l.length := by omega
            have HQ := Lib.hid HB.out
            go_wp2
            go_ret
            exact ⟨rfl, HQ.out⟩
      · have t1 : decide ((l.length : Int) > 60) = true := decide_eq_true (by omega)
        have t2 : ((n.switches.length : Int) == 0) = false := by rw [beq_eq_false_iff_ne]; omega
        go_wp2
        go_ret
        exact ⟨rfl, HB.out⟩
    · have t2 : ((n.switches.length : Int) == 0) = true := by rw [beq_iff_eq]; omega
      go_wp2
      go_ret
      exact ⟨rfl, HB.out⟩
end Go.Proofs.YtglbelmljdgaoaaDoor
