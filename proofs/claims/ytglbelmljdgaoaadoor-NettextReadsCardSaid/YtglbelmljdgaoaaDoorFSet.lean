/- The follower's Set. -/
import Derived.Test.YtglbelmljdgaoaaDoorFoll
import Derived.Test.YtglbelmljdgaoaaDoorFact
import Derived.Deep.DeepCutAuto
import Derived.Deep.QuietTactic
import Derived.BigQuiet
namespace Go.Proofs.YtglbelmljdgaoaaDoor
open Go.RowKit

theorem modify_map {β : Type} (f : SwitchD → β) (o : Bool) (hf : ∀ s, f (setOpn o s) = f s) : ∀ (l : List SwitchD) (i : Nat), (l.modify i (setOpn o)).map f = l.map f
  | [], i => by simp
  | x :: l, 0 => by simp [hf]
  | x :: l, i + 1 => by simp [List.modify_succ_cons, modify_map f o hf l i]
theorem items_set (n : NetD) (i : Nat) (o : Bool) : (setSw n i o).items = n.items := by
  simp only [NetD.items, setSw]
  rw [modify_map (fun s : SwitchD => (s.name, [s.a, s.b], true)) o (fun s => rfl)]
theorem checkN_set (n : NetD) (i : Nat) (o : Bool) : checkN (setSw n i o) = checkN n := by
  rw [checkN, checkN, items_set]
  simp [setSw]

theorem isl_le {n : NetD} (h : VNet n) : (islandsL n).length ≤ 24 := by
  have hm := many_range (l := busesL n) (N := 24) (by omega) (by
    intro x hx
    obtain ⟨i, hi, rfl⟩ := List.getElem_of_mem hx
    have hl := buses_len h
    have := bus_range h i (by omega) (by omega)
    have hn := h.hn
    simp only [at_, Int.toNat_natCast, List.getD_eq_getElem?_getD, List.getElem?_eq_getElem hi, Option.getD_some] at this
    omega)
  rw [islandsL, guardE]
  split
  · simp only [parts_len]; omega
  · simp
theorem bus_le {n : NetD} (h : VNet n) : (busesL n).length ≤ 24 := by rw [buses_len h]; exact h.hn
theorem Reads.drewN {w : World} {B sz n : Nat} {A : Option Addr} {xs : List Value} (h : Reads w B sz A n xs) (q : Nat) : Reads (w.drewN q) B sz A n xs := h.keep fun _ _ => rfl

theorem Row.ne_blk {w : World} {base : Nat} {e t : TypeId} {sz n g : Nat} {v : Value} {xs : List Value} {cs : Array Value} (h : Row w base e sz v n xs) (hB : Blk w g t cs) (hne : e ≠ t) : ∀ b, v.ownBlock = some b → b ≠ g := by
  intro b hb he
  rcases h.2 with ⟨hv, _⟩ | ⟨b', off', cap', cur', hv, _, hh', _⟩
  · rw [hv] at hb; simp [Value.ownBlock] at hb
  · rw [hv] at hb
    simp [Value.ownBlock] at hb
    subst hb he
    unfold Blk at hB hh'
    rw [hB] at hh'
    injection hh' with hh'
    injection hh' with _ hh'
    exact hne hh'.symm
theorem Reads.set_slice {w : World} {B sz n : Nat} {A : Option Addr} {xs : List Value} (h : Reads w B sz A n xs) (hk : ∀ u ∈ xs, notSlice u) {p : Addr} {a : Option Addr} {m c : Nat} (hp : w.cell? p = some (.slice a m c)) (u : Value) : Reads (w.setCell p u) B sz A n xs := by
  refine ⟨h.1, fun hn => ?_⟩
  obtain ⟨b, off, e, hb, hc⟩ := h.2 hn
  refine ⟨b, off, e, hb, fun j x hx => ?_⟩
  have h1 := hc j x hx
  rw [World.cell?_setCell_other _ _ _ _ ?_]
  · exact h1
  · rintro rfl
    rw [h1] at hp
    injection hp with hp
    exact hk x (List.mem_of_getElem? hx) a m c hp
theorem NetIn.set_slice {w : World} {n : NetD} {v : NetV} (h : NetIn w n v) {p : Addr} {a : Option Addr} {m c : Nat} (hp : w.cell? p = some (.slice a m c)) (u : Value) : NetIn (w.setCell p u) n v := by
  have hz : (w.setCell p u).heap.size = w.heap.size := by simp [World.setCell]
  exact ⟨by rw [hz]; exact h.nodes.set_slice (nsS _) hp _, by rw [hz]; exact h.switches.set_slice (nsSwitch _) hp _, by rw [hz]; exact h.branches.set_slice (nsBranch _) hp _, by rw [hz]; exact h.gens.set_slice (nsGen _) hp _, by rw [hz]; exact h.loads.set_slice (nsLoad _) hp _, by rw [hz]; exact h.stores.set_slice (nsStore _) hp _⟩
/-- the follower's topology is written -/
theorem FollIn.put {w : World} {base g : Nat} {n : NetD} {v : NetV} {bus isl bus' isl' : List Int} {bA iA bA' iA' : Option Addr} {bc ic bc' ic' : Nat} (h : FollIn w base g n v bus isl bA bc iA ic)
    (h1 : Row w base 3 1 (.slice bA' bus'.length bc') bus'.length (bus'.map I)) (h2 : Row w base 3 1 (.slice iA' isl'.length ic') isl'.length (isl'.map I)) :
    FollIn ((w.setCell ⟨g, 6, none⟩ (.slice bA' bus'.length bc')).setCell ⟨g, 7, none⟩ (.slice iA' isl'.length ic')) base g n v bus' isl' bA' bc' iA' ic' := by
  have c6 := h.blk.cell 6
  have hb1 := h.blk.set_ 6 (.slice bA' bus'.length bc')
  have c7 := hb1.cell 7
  have hb2 := hb1.set_ 7 (.slice iA' isl'.length ic')
  refine ⟨hb2, (h.net.set_slice c6 _).set_slice c7 _, fun hp => ?_, ?_, ?_, h.hb⟩
  · have := (h.sw hp).set_away (p := ⟨g, 6, none⟩) ((h.sw hp).ne_blk h.blk (by decide)) (.slice bA' bus'.length bc')
    exact this.set_away (p := ⟨g, 7, none⟩) ((h.sw hp).ne_blk h.blk (by decide)) _
  · exact (h1.set_away (p := ⟨g, 6, none⟩) (h1.ne_blk h.blk (by decide)) _).set_away (p := ⟨g, 7, none⟩) (h1.ne_blk h.blk (by decide)) _
  · exact (h2.set_away (p := ⟨g, 6, none⟩) (h2.ne_blk h.blk (by decide)) _).set_away (p := ⟨g, 7, none⟩) (h2.ne_blk h.blk (by decide)) _
theorem FollIn.drewN {w : World} {base g : Nat} {n : NetD} {v : NetV} {bus isl : List Int} {bA iA : Option Addr} {bc ic : Nat} (h : FollIn w base g n v bus isl bA bc iA ic) (q : Nat) : FollIn (w.drewN q) base g n v bus isl bA bc iA ic :=
  ⟨h.blk, ⟨h.net.nodes.drewN q, h.net.switches.drewN q, h.net.branches.drewN q, h.net.gens.drewN q, h.net.loads.drewN q, h.net.stores.drewN q⟩, fun hp => (h.sw hp).keep fun _ _ _ => rfl, h.bus.keep fun _ _ _ => rfl, h.isl.keep fun _ _ _ => rfl, h.hb⟩

/-- what the follower's Set changes: the cell q (a bool), its own block g, and blocks of its own -/
def FsCh (w : World) (g : Nat) (A : Option Addr) (w' : World) : Prop :=
  w.heap.size ≤ w'.heap.size ∧ ∃ q y, w.cell? q = some (.bool y) ∧ (∀ b off, A = some ⟨b, off, none⟩ → q.block = b) ∧ (∀ p : Addr, p.block < w.heap.size → p.block ≠ g → p ≠ q → w'.cell? p = w.cell? p) ∧ ∀ k, k < w.heap.size → k ≠ g → k ≠ q.block → w'.heap[k]? = w.heap[k]?
theorem FsCh.one {w w1 : World} {g : Nat} {A : Option Addr} {q : Addr} {y : Bool} (u : Value) (hb : Below w.heap.size w w1) (hq : w.cell? q = some (.bool y)) (hA : ∀ b off, A = some ⟨b, off, none⟩ → q.block = b) : FsCh w g A (w1.setCell q u) := by
  refine ⟨by simpa [World.setCell] using hb.size, q, y, hq, hA, fun p hp _ hn => ?_, fun k hk _ hn => (Below.heap_setCell _ q _ _ hn).trans (hb.block k hk)⟩
  rw [World.cell?_setCell_other _ _ _ _ (by first | exact hn | exact Ne.symm hn)]
  exact hb.cell hp
theorem FsCh.call {w w1 w2 : World} {g : Nat} {A : Option Addr} (h : FsCh w g A w1) (hb : Below w1.heap.size w1 w2) : FsCh w g A w2 := by
  obtain ⟨hs, q, y, hq, hA, hc, hh⟩ := h
  exact ⟨Nat.le_trans hs hb.size, q, y, hq, hA, fun p hp hg hn => (hb.cell (Nat.lt_of_lt_of_le hp hs)).trans (hc p hp hg hn), fun k hk hg hn => (hb.block k (Nat.lt_of_lt_of_le hk hs)).trans (hh k hk hg hn)⟩
theorem FsCh.own {w w1 : World} {g : Nat} {A : Option Addr} (h : FsCh w g A w1) (o : Nat) (u : Value) : FsCh w g A (w1.setCell ⟨g, o, none⟩ u) := by
  obtain ⟨hs, q, y, hq, hA, hc, hh⟩ := h
  refine ⟨by simpa [World.setCell] using hs, q, y, hq, hA, fun p hp hg hn => ?_, fun k hk hg hn => (Below.heap_setCell _ ⟨g, o, none⟩ _ _ hg).trans (hh k hk hg hn)⟩
  have hp' : p ≠ ⟨g, o, none⟩ := by rintro rfl; exact hg rfl
  rw [World.cell?_setCell_other _ _ _ _ (by first | exact hp' | exact Ne.symm hp')]
  exact hc p hp hg hn
theorem FsCh.drewN {w w1 : World} {g : Nat} {A : Option Addr} (h : FsCh w g A w1) (k : Nat) : FsCh w g A (w1.drewN k) := h
/-- what lies apart from the cell and the block is kept -/
theorem Reads.fsch {w w' : World} {g sz n : Nat} {A B : Option Addr} {xs : List Value} {ds : Array Value} {T : TypeId} (h : Reads w w.heap.size sz B n xs) (hc : FsCh w g A w') (hg : Blk w g T ds) (hd : ∀ (i : Nat) u, ds[i]? = some u → ∃ a n c, u = .slice a n c) (hk : ∀ u ∈ xs, notSlice u)
    (hb : (∀ u ∈ xs, notBool u) ∨ (∀ b off c off', B = some ⟨b, off, none⟩ → A = some ⟨c, off', none⟩ → b ≠ c) ∧ ∃ c off', A = some ⟨c, off', none⟩) : Reads w' w'.heap.size sz B n xs := by
  obtain ⟨hs, q, y, hq, hA, hcc, _⟩ := hc
  refine ⟨h.1, fun hn => ?_⟩
  obtain ⟨b, off, e, hlt, hr⟩ := h.2 hn
  refine ⟨b, off, e, Nat.lt_of_lt_of_le hlt hs, fun j x hx => ?_⟩
  have h1 := hr j x hx
  rw [hcc ⟨b, off + j, none⟩ hlt ?_ ?_]
  · exact h1
  · rintro rfl
    rw [hg.cell] at h1
    obtain ⟨a, m, c, rfl⟩ := hd _ _ h1
    exact hk _ (List.mem_of_getElem? hx) a m c rfl
  · rintro rfl
    rcases hb with hb | ⟨hb, c, off', hc⟩
    · rw [h1] at hq
      injection hq with hq
      exact hb x (List.mem_of_getElem? hx) y hq
    · exact hb b off c off' e hc (hA c off' hc)
/-- what the follower's Set does -/
def RetFSet (w : World) (base g : Nat) (n : NetD) (v : NetV) (bus isl : List Int) (x : ByteArray) (o : Bool) (e : Ending) (w' : World) : Prop :=
  (0 ≤ nmIdx SwitchD.name x n.switches 0 ∧ ∃ bA bc iA ic, e = .returned (.tuple #[.bool (!(busesL (setSw n (nmIdx SwitchD.name x n.switches 0).toNat o) == bus) || !(islandsL (setSw n (nmIdx SwitchD.name x n.switches 0).toNat o) == isl)), I 0]) ∧
    FollIn w' base g (setSw n (nmIdx SwitchD.name x n.switches 0).toNat o) v (busesL (setSw n (nmIdx SwitchD.name x n.switches 0).toNat o)) (islandsL (setSw n (nmIdx SwitchD.name x n.switches 0).toNat o)) bA bc iA ic ∧ Below base w w' ∧ FsCh w g v.sa w') ∨
  (nmIdx SwitchD.name x n.switches 0 < 0 ∧ e = .returned (.tuple #[.bool false, I 6]) ∧ Below w.heap.size w w')

set_option maxRecDepth 100000 in
set_option maxHeartbeats 2000000 in
theorem fset_any {base g : Nat} {n : NetD} {v : NetV} {bus isl : List Int} {bA iA : Option Addr} {bc ic : Nat} (x : ByteArray) (o : Bool) (w : World) (h : FollIn w base g n v bus isl bA bc iA ic) (hck : checkN n = 0) (hbase : base ≤ w.heap.size) (hbl : bus.length ≤ 24) (hil : isl.length ≤ 24) :
    Calls Tryd.prog 10 #[.pointer (some ⟨g, 0, none⟩), .string x, .bool o] w (RetFSet w base g n v bus isl x o) := by
  have hle := small_le hck
  have hal := (Below.refl _ w).alloc (Nat.le_refl _) (Obj.cells #[.string x] 9)
  have hg := h.blk.lt
  have hgb := h.hb
  have HS0 : Hid (0 < n.switches.length → ∀ b off, v.sa = some ⟨b, off, none⟩ → b < w.heap.size) := fun hp b off e => by
    obtain ⟨b', off', e', hb', _⟩ := h.net.switches.2 hp
    rw [e] at e'
    injection e' with e'
    injection e' with e'
    omega
  have HIX := Lib.hid (idx66 n.switches x v.sa v.sc w.heap.size _ (w.alloc (Obj.cells #[.string x] 9)) rfl (h.below hal).net.switches ((Blk.new w 9 #[.string x]).cell 0) hle.l2)
  have HF0 := Lib.hid (h.below hal)
  have HB0 := Lib.hid hal
  have HCK := Lib.hid hck
  have hrg := nmIdx_range SwitchD.name x n.switches 0
  have x1 : (w.alloc (Obj.cells #[.string x] 9)).cell? ⟨g, 1, none⟩ = some (.slice v.sa n.switches.length v.sc) := (h.below hal).blk.cell 1
  have hz0 : (w.alloc (Obj.cells #[.string x] 9)).heap.size = w.heap.size + 1 := World.size_alloc _ _
  clear h hal hck
  obtain ⟨i, hi⟩ : ∃ i, nmIdx SwitchD.name x n.switches 0 = i := ⟨_, rfl⟩
  by_cases h0 : 0 ≤ i
  · have HR : Hid (∀ e w', (∃ bA bc iA ic, e = .returned (.tuple #[.bool (!(busesL (setSw n i.toNat o) == bus) || !(islandsL (setSw n i.toNat o) == isl)), I 0]) ∧ FollIn w' base g (setSw n i.toNat o) v (busesL (setSw n i.toNat o)) (islandsL (setSw n i.toNat o)) bA bc iA ic ∧ Below base w w' ∧ FsCh w g v.sa w') → RetFSet w base g n v bus isl x o e w') :=
      fun e w' h => .inl ⟨by rw [hi]; exact h0, by rw [hi]; exact h⟩
    rw [hi] at HIX hrg
    clear hi
    obtain ⟨k, rfl⟩ := Int.eq_ofNat_of_zero_le h0
    have hk : k < n.switches.length := by omega
    rw [Int.toNat_natCast] at HR
    clear h0 hrg
    go_enter Tryd.func10, Tryd.ntmps10
    go_wp2_with fail
    refine HIX.out.mono ?_
    rintro e w1 ⟨rfl, hb1⟩
    have HF1 := Lib.hid (HF0.out.below hb1)
    have HB1 := Lib.hid (HB0.out.trans (hb1.mono HB0.out.size))
    have hz1 : w.heap.size + 1 ≤ w1.heap.size := by have := hb1.size; omega
    clear hb1 HIX HF0 HB0 hz0 x1
    have hro := HF1.out.sw (by omega)
    obtain ⟨sg, soff, cap, cur, hv, hbg, hh, _⟩ := hro.form (by omega)
    injection hv with hsa _ hsc
    have hro2 := hro
    rw [hsa] at hro2
    have hsl := hh.lt
    have hne : sg ≠ g := by
      rintro rfl
      have h1 := HF1.out.blk
      unfold Blk at h1 hh
      rw [h1] at hh
      injection hh with hh
      injection hh with _ hh
      exact absurd hh (by decide)
    have d0 : w1.cell? ⟨sg, soff + k * 5 + 4, none⟩ = some (.bool n.switches[k].opn) := by
      have := hro2.cell_at (j := k * 5 + 4) (u := .bool n.switches[k].opn) (by rw [cellsBy_at (f := SwitchD.cells) (sz := 5) (fun _ => rfl) n.switches k n.switches[k] (by simp [hk]) 4 (by omega)]; rfl)
      rwa [← Nat.add_assoc] at this
    have d1 := hro2.frozen_at (soff + k * 5 + 4)
    have hns := HF1.out.net.swSet hsa hro hk o
    rw [← Nat.add_assoc] at hns
    have HF2 : Hid (FollIn (w1.setCell ⟨sg, soff + k * 5 + 4, none⟩ (.bool o)) base g (setSw n k o) v bus isl bA bc iA ic) := by
      refine ⟨?_, hns.1, fun _ => by simpa [setSw] using hns.2, HF1.out.bus.set_away ?_ _, HF1.out.isl.set_away ?_ _, HF1.out.hb⟩
      · have := HF1.out.blk.far (p := ⟨sg, soff + k * 5 + 4, none⟩) (by simpa using hne.symm) (.bool o)
        simpa [setSw] using this
      · intro b hb he
        rcases HF1.out.bus.2 with ⟨hv, _⟩ | ⟨b', off', cap', cur', hv, _, hh', _⟩
        · rw [hv] at hb; simp [Value.ownBlock] at hb
        · rw [hv] at hb
          simp [Value.ownBlock] at hb
          simp only at he
          subst hb he
          unfold Blk at hh hh'
          rw [hh] at hh'
          injection hh' with hh'
          injection hh' with _ hh'
          exact absurd hh' (by decide)
      · intro b hb he
        rcases HF1.out.isl.2 with ⟨hv, _⟩ | ⟨b', off', cap', cur', hv, _, hh', _⟩
        · rw [hv] at hb; simp [Value.ownBlock] at hb
        · rw [hv] at hb
          simp [Value.ownBlock] at hb
          simp only at he
          subst hb he
          unfold Blk at hh hh'
          rw [hh] at hh'
          injection hh' with hh'
          injection hh' with _ hh'
          exact absurd hh' (by decide)
    have HB2 : Hid (Below base w (w1.setCell ⟨sg, soff + k * 5 + 4, none⟩ (.bool o))) := ((HB1.out.mono hbase).setCell (by simpa using hbg) _)
    have HC2 : Hid (FsCh w g v.sa (w1.setCell ⟨sg, soff + k * 5 + 4, none⟩ (.bool o))) :=
      FsCh.one _ HB1.out ((HB1.out.cell (by exact HS0.out (by omega) _ _ hsa)).symm.trans d0) (fun b off e => by rw [hsa] at e; simp at e; exact e.1)
    have hz2 : (w1.setCell ⟨sg, soff + k * 5 + 4, none⟩ (.bool o)).heap.size = w1.heap.size := by simp [World.setCell]
    have HGET := Lib.hid (get_any (setSw n k o) v _ HF2.out.net (vnet ((checkN_set n k o).trans HCK.out)))
    have he : v.val (setSw n k o) = .agg #[.slice v.na n.nodes.length v.nc, .slice v.sa n.switches.length v.sc, .slice v.ba n.branches.length v.bc, .slice v.ga n.gens.length v.gc, .slice v.la n.loads.length v.lc, .slice v.ta n.stores.length v.tc] := by simp [NetV.val, NetV.parts, setSw]
    rw [he, hsa] at HGET
    have HVN := Lib.hid (vnet ((checkN_set n k o).trans HCK.out))
    have x0 := HF1.out.blk.cell 0
    have x1 : w1.cell? ⟨g, 1, none⟩ = some (.slice (some ⟨sg, soff, none⟩) n.switches.length v.sc) := by rw [← hsa]; exact HF1.out.blk.cell 1
    have x2 := HF1.out.blk.cell 2
    have x3 := HF1.out.blk.cell 3
    have x4 := HF1.out.blk.cell 4
    have x5 := HF1.out.blk.cell 5
    have g1 : g < w1.heap.size := by omega
    have g2 : ¬ sg = g := hne
    have g3 : ¬ g = sg := fun h => hne h.symm
    have hk2 : (k : Int) < n.switches.length := by omega
    have HSA := Lib.hid hsa
    clear hro hro2 hh hsa hsc hns he
    go_wp2_with fail
    refine HGET.out.mono ?_
    rintro e w3 ⟨bv, iv, rfl, hr1, hr2, hb3⟩
    obtain ⟨bA', bc', rfl⟩ := hr1.val
    obtain ⟨iA', ic', rfl⟩ := hr2.val
    have hbl2 := bus_le HVN.out
    have hil2 := isl_le HVN.out
    generalize busesL (setSw n k o) = bus' at *
    generalize islandsL (setSw n k o) = isl' at *
    have hz3 : w1.heap.size ≤ w3.heap.size := by have := hb3.size; omega
    have hal := (Below.refl _ w3).alloc (Nat.le_refl _) (Obj.cells #[Value.slice bA' bus'.length bc', Value.slice iA' isl'.length ic'] 37)
    have HF4 := Lib.hid ((HF2.out.below hb3).below hal)
    have HT4 := Lib.hid (Blk.new w3 37 #[Value.slice bA' bus'.length bc', Value.slice iA' isl'.length ic'])
    have HR1 := Lib.hid ((hr1.call hal).less (base' := base) (by rw [hz2]; omega))
    have HR2 := Lib.hid ((hr2.call hal).less (base' := base) (by rw [hz2]; omega))
    have HB4 := Lib.hid ((HB2.out.trans (hb3.mono (by rw [hz2]; omega))).trans (hal.mono (by omega)))
    have HC4 := Lib.hid ((HC2.out.call hb3).call hal)
    have hz4 : (w3.alloc (Obj.cells #[Value.slice bA' bus'.length bc', Value.slice iA' isl'.length ic'] 37)).heap.size = w3.heap.size + 1 := World.size_alloc _ _
    clear hr1 hr2 hb3 hal HGET HF2 HB2 HC2 HS0 HF1 HB1 d0 d1 x0 x1 x2 x3 x4 x5 hz2
    go_upto_region 6 with (fail)
    generalize w3.alloc (Obj.cells #[Value.slice bA' bus'.length bc', Value.slice iA' isl'.length ic'] 37) = w4 at *
    have t0 := HT4.out.cell 0
    have t1 := HT4.out.cell 1
    have u6 := HF4.out.blk.cell 6
    have u7 := HF4.out.blk.cell 7
    have HE1 : Hid (∀ q, Calls Tryd.prog 13 #[.slice bA' bus'.length bc', .slice bA bus.length bc] (w4.drewN q) fun e w' => e = .returned (.bool (bus' == bus)) ∧ ∃ m, w' = (w4.drewN q).drewN m) :=
      fun q => equal_any bus' bus _ _ _ _ _ _ _ _ _ (HR1.out.reads.drewN q) (HF4.out.bus.reads.drewN q) (by omega) (by omega)
    have HE2 : Hid (∀ q, Calls Tryd.prog 13 #[.slice iA' isl'.length ic', .slice iA isl.length ic] (w4.drewN q) fun e w' => e = .returned (.bool (isl' == isl)) ∧ ∃ m, w' = (w4.drewN q).drewN m) :=
      fun q => equal_any isl' isl _ _ _ _ _ _ _ _ _ (HR2.out.reads.drewN q) (HF4.out.isl.reads.drewN q) (by omega) (by omega)
    have hgl4 : g < w4.heap.size := HF4.out.blk.lt
    have htl4 : w3.heap.size < w4.heap.size := HT4.out.lt
    have htg : ¬ w3.heap.size = g := by omega
    have hgt : ¬ g = w3.heap.size := by omega
    cases hq1 : (bus' == bus)
    case true =>
      rw [hq1] at HR HE1
      cases hq2 : (isl' == isl)
      all_goals
        rw [hq2] at HR HE2
        clear hq1 hq2
        go_quiet ((first | (go_at_call 13; (with_reducible refine Calls.quiet_of (HE1.out _)); done) | (go_at_call 13; (with_reducible refine Calls.quiet_of (HE2.out _)); done)))
        have HF5 := Lib.hid (HF4.out.drewN nq)
        have HR15 : Hid (Row (w4.drewN nq) base 3 1 (.slice bA' bus'.length bc') bus'.length (bus'.map I)) := HR1.out.keep fun _ _ _ => rfl
        have HR25 : Hid (Row (w4.drewN nq) base 3 1 (.slice iA' isl'.length ic') isl'.length (isl'.map I)) := HR2.out.keep fun _ _ _ => rfl
        have HC5 := Lib.hid (HC4.out.drewN nq)
        have HB5 : Hid (Below base w (w4.drewN nq)) := ⟨HB4.out.os, HB4.out.tape, HB4.out.output, HB4.out.size, HB4.out.block⟩
        have hT5 : Blk (w4.drewN nq) w3.heap.size 37 #[Value.slice bA' bus'.length bc', Value.slice iA' isl'.length ic'] := HT4.out
        have s0 := hT5.cell 0
        have s1 := hT5.cell 1
        have v6 := HF5.out.blk.cell 6
        have v7 := HF5.out.blk.cell 7
        have k6 := HF5.out.blk.frozen 6
        have k7 := HF5.out.blk.frozen 7
        have hgl5 : g < (w4.drewN nq).heap.size := hgl4
        have htl5 : w3.heap.size < (w4.drewN nq).heap.size := htl4
        clear hT5 HE1 HE2 t0 t1 u6 u7 hgl4 htl4 HT4 HF4 HR1 HR2 HB4 HC4
        generalize w4.drewN nq = w5 at *
        go_wp2
        go_ret2
        exact HR.out _ _ ⟨bA', bc', iA', ic', rfl, HF5.out.put HR15.out HR25.out, (HB5.out.setCell (by simpa using HF5.out.hb) _).setCell (by simpa using HF5.out.hb) _, (HC5.out.own _ _).own _ _⟩
    case false =>
      rw [hq1] at HR HE1
      clear hq1
      go_quiet ((first | (go_at_call 13; (with_reducible refine Calls.quiet_of (HE1.out _)); done) | (go_at_call 13; (with_reducible refine Calls.quiet_of (HE2.out _)); done)))
      have HF5 := Lib.hid (HF4.out.drewN nq)
      have HR15 : Hid (Row (w4.drewN nq) base 3 1 (.slice bA' bus'.length bc') bus'.length (bus'.map I)) := HR1.out.keep fun _ _ _ => rfl
      have HR25 : Hid (Row (w4.drewN nq) base 3 1 (.slice iA' isl'.length ic') isl'.length (isl'.map I)) := HR2.out.keep fun _ _ _ => rfl
      have HC5 := Lib.hid (HC4.out.drewN nq)
      have HB5 : Hid (Below base w (w4.drewN nq)) := ⟨HB4.out.os, HB4.out.tape, HB4.out.output, HB4.out.size, HB4.out.block⟩
      have hT5 : Blk (w4.drewN nq) w3.heap.size 37 #[Value.slice bA' bus'.length bc', Value.slice iA' isl'.length ic'] := HT4.out
      have s0 := hT5.cell 0
      have s1 := hT5.cell 1
      have v6 := HF5.out.blk.cell 6
      have v7 := HF5.out.blk.cell 7
      have k6 := HF5.out.blk.frozen 6
      have k7 := HF5.out.blk.frozen 7
      have hgl5 : g < (w4.drewN nq).heap.size := hgl4
      have htl5 : w3.heap.size < (w4.drewN nq).heap.size := htl4
      clear hT5 HE1 HE2 t0 t1 u6 u7 hgl4 htl4 HT4 HF4 HR1 HR2 HB4 HC4
      generalize w4.drewN nq = w5 at *
      go_wp2
      go_ret2
      exact HR.out _ _ ⟨bA', bc', iA', ic', rfl, HF5.out.put HR15.out HR25.out, (HB5.out.setCell (by simpa using HF5.out.hb) _).setCell (by simpa using HF5.out.hb) _, (HC5.out.own _ _).own _ _⟩
  · have HR : Hid (∀ e w', e = .returned (.tuple #[.bool false, I 6]) → Below w.heap.size w w' → RetFSet w base g n v bus isl x o e w') := fun e w' h1 h2 => .inr ⟨by rw [hi]; omega, h1, h2⟩
    rw [hi] at HIX
    clear hi hrg
    go_enter Tryd.func10, Tryd.ntmps10
    go_wp2_with fail
    refine HIX.out.mono ?_
    rintro e w1 ⟨rfl, hb1⟩
    have HB1 := Lib.hid (HB0.out.trans (hb1.mono HB0.out.size))
    clear hb1 HIX HF0 HB0
    go_wp2
    go_ret2
    exact HR.out _ _ rfl HB1.out
end Go.Proofs.YtglbelmljdgaoaaDoor
