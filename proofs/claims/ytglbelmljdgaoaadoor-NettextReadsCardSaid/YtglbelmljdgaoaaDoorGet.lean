/- topology.Get. -/
import Derived.Test.YtglbelmljdgaoaaDoorNetLaw
namespace Go.Proofs.YtglbelmljdgaoaaDoor
open Go.RowKit

def manyL (l : List Int) : Int := l.foldl (fun m b => max m (b + 1)) 0
def branchEdges (n : NetD) : List (Int × Int) := n.branches.map fun b => (at_ (busesL n) (Lib.idxOfS n.nodes b.src), at_ (busesL n) (Lib.idxOfS n.nodes b.dst))
def islandsL (n : NetD) : List Int := (guardE (manyL (busesL n)) (branchEdges n) [] (parts (manyL (busesL n)).toNat (branchEdges n) (-1))).1

def RetTopo (w : World) (bus isl : List Int) (e : Ending) (w' : World) : Prop :=
  ∃ bv iv, e = .returned (.agg #[bv, iv]) ∧ Row w' w.heap.size 3 1 bv bus.length (bus.map I) ∧ Row w' w.heap.size 3 1 iv isl.length (isl.map I) ∧ Below w.heap.size w w'

theorem many_bounds (l : List Int) (N : Int) (_h0 : 0 ≤ N) (h : ∀ x ∈ l, 0 ≤ x ∧ x < N) : ∀ m, 0 ≤ m → m ≤ N → 0 ≤ l.foldl (fun m b => max m (b + 1)) m ∧ l.foldl (fun m b => max m (b + 1)) m ≤ N := by
  induction l with
  | nil => intro m a b; exact ⟨a, b⟩
  | cons x l ih =>
    intro m a b
    have := h x (by simp)
    exact ih (fun y hy => h y (List.mem_cons_of_mem _ hy)) _ (show 0 ≤ max m (x + 1) by omega) (show max m (x + 1) ≤ N by omega)
theorem many_snoc (l : List Int) (x : Int) : manyL (l ++ [x]) = max (manyL l) (x + 1) := by simp [manyL]
theorem many_range {l : List Int} {N : Int} (h0 : 0 ≤ N) (h : ∀ x ∈ l, 0 ≤ x ∧ x < N) : 0 ≤ manyL l ∧ manyL l ≤ N := many_bounds l N h0 h 0 (by omega) h0

/-- a cell that the row does not hold is as it was behind an append in a region -/
theorem app_keep {w W1 w2 : World} {o : Obj} {base : Nat} {e : TypeId} {sz n : Nat} {v : Value} {xs : List Value} (h : Row w base e sz v n xs) (hg : (W1.alloc o).drew.grownBy w2 v.ownBlock) {g o1 : Nat} {u : Value}
    (hc : W1.cell? ⟨g, o1, none⟩ = some u) (k : g < base ∨ w.heap.size ≤ g) : w2.cell? ⟨g, o1, none⟩ = some u :=
  h.cell_far hg ((World.cell?_alloc_lt W1 o ⟨g, o1, none⟩ (World.block_lt_of_cell? W1 _ hc)).trans hc) k

theorem Row.set_away {w : World} {base : Nat} {e : TypeId} {sz n : Nat} {v : Value} {xs : List Value} (h : Row w base e sz v n xs) {p : Addr} (hne : ∀ g, v.ownBlock = some g → g ≠ p.block) (u : Value) : Row (w.setCell p u) base e sz v n xs := by
  obtain ⟨h1, h2⟩ := h
  refine ⟨h1, h2.imp id ?_⟩
  rintro ⟨g, off, cap, cur, rfl, hb, hh, r⟩
  exact ⟨g, off, cap, cur, rfl, hb, hh.far (hne g (by simp [Value.ownBlock])) u, r⟩

structure GetInv (w2 : World) (es : List (Int × Int)) (k : Nat) (lv : Value) (wr : World) : Prop where
  row : Row wr w2.heap.size 105 2 lv (es.take k).length (cells2 (es.take k))
  below : Below w2.heap.size w2 wr

set_option maxRecDepth 100000 in
set_option maxHeartbeats 2000000 in
theorem get_any (n : NetD) (v : NetV) (w : World) (hN : NetIn w n v) (hV : VNet n) : Calls Tryd.prog 27 #[v.val n] w (RetTopo w (busesL n) (islandsL n)) := by
  have hb0 := below2 w (Obj.cells (v.parts n) 29) (Obj.cells #[Value.slice none 0 0, Value.slice none 0 0] 37)
  have hn := hV.hn
  have hw := hV.hw
  have hbr := hV.hb
  have HE := Lib.hid (buses_any n v _ (hN.below hb0) (by omega) (by omega))
  have HB0 := Lib.hid hb0
  have HN := Lib.hid hN
  have HV := Lib.hid hV
  have HBX := Lib.hid ((Blk.new w 29 (v.parts n)).alloc (Obj.cells #[Value.slice none 0 0, Value.slice none 0 0] 37))
  have HRX : Hid (Blk ((w.alloc (Obj.cells (v.parts n) 29)).alloc (Obj.cells #[Value.slice none 0 0, Value.slice none 0 0] 37)) (w.heap.size + 1) 37 #[Value.slice none 0 0, Value.slice none 0 0]) := by
    have := Blk.new (w.alloc (Obj.cells (v.parts n) 29)) 37 #[Value.slice none 0 0, Value.slice none 0 0]
    rw [World.size_alloc w] at this
    exact this
  clear hb0 hN hV
  unfold NetV.val NetV.parts at *
  obtain ⟨ba, hvba⟩ : ∃ ba, v.ba = ba := ⟨_, rfl⟩
  rw [hvba] at HE HBX HRX HB0 ⊢
  have HVBA := Lib.hid hvba
  clear hvba
  go_enter Tryd.func27, Tryd.ntmps27
  go_wp2_with fail
  refine HE.out.mono ?_
  rintro e w1 ⟨bv, rfl, hr1, hb1⟩
  have hz1 : w.heap.size + 1 + 1 ≤ w1.heap.size := by have := hb1.size; simpa using this
  have HBX1 := Lib.hid (HBX.out.below hb1 (by simp; omega))
  have HRX1 := Lib.hid (HRX.out.below hb1 (by simp))
  have HBE := Lib.hid (HB0.out.trans (hb1.mono HB0.out.size))
  have HR1 := Lib.hid (hr1.less (base' := w.heap.size + 1 + 1) (by simp))
  obtain ⟨bA, bc, rfl⟩ := hr1.val
  have HBUS := Lib.hid (buses_len HV.out)
  have HRG := Lib.hid (bus_range HV.out)
  obtain ⟨bus, hbus⟩ : ∃ bus, busesL n = bus := ⟨_, rfl⟩
  have HEQ := Lib.hid hbus
  rw [hbus] at HR1 HBUS HRG ⊢
  clear hbus hr1 hb1 HBX HRX HE
  have hbl : bus.length ≤ 24 := by have := HBUS.out; omega
  go_wp2
  have hb2 : Below w1.heap.size w1 (w1.alloc (Obj.cells #[Value.slice bA bus.length bc, Value.slice none 0 0] 37)) := (Below.refl _ w1).alloc (Nat.le_refl _) _
  have HBX2 := Lib.hid (HBX1.out.below hb2 HBX1.out.lt)
  have HRX2 := Lib.hid (HRX1.out.below hb2 HRX1.out.lt)
  have HBE2 := Lib.hid (HBE.out.trans (hb2.mono HBE.out.size))
  have HR2 := Lib.hid (HR1.out.call hb2)
  have HT2 := Lib.hid (Blk.new w1 37 #[Value.slice bA bus.length bc, Value.slice none 0 0])
  have HLT := Lib.hid (show bA = none ∧ bus.length = 0 ∨ ∃ g off, bA = some ⟨g, off, none⟩ ∧ w.heap.size + 1 + 1 ≤ g ∧ g < w1.heap.size by
    rcases HR1.out.2 with ⟨hv, h0⟩ | ⟨g, off, cap, cur, hv, hb, hh, _⟩
    · injection hv with hv; exact .inl ⟨hv, h0⟩
    · injection hv with hv; exact .inr ⟨g, off, hv, hb, hh.lt⟩)
  have hz2 : (w1.alloc (Obj.cells #[Value.slice bA bus.length bc, Value.slice none 0 0] 37)).heap.size = w1.heap.size + 1 := World.size_alloc _ _
  have HZ2 := Lib.hid hz2
  generalize w1.alloc (Obj.cells #[Value.slice bA bus.length bc, Value.slice none 0 0] 37) = w2 at *
  clear hb2 hz2 HBX1 HRX1 HBE HR1 HB0
  have HMEM := Lib.hid (show ∀ x ∈ bus, 0 ≤ x ∧ x < 24 by
    intro x hx
    obtain ⟨i, hi, rfl⟩ := List.getElem_of_mem hx
    have := HRG.out i (by omega) (by rw [← HBUS.out]; omega)
    simp only [at_, Int.toNat_natCast, List.getD_eq_getElem?_getD, List.getElem?_eq_getElem hi, Option.getD_some] at this
    omega)
  go_loopg [4, 16] (bus.length - 0) (fun r mv iv wr => ∃ k : Nat, r = bus.length - k ∧ iv = I k ∧ k ≤ bus.length ∧ w2 = wr ∧ mv = I (manyL (bus.take k)))
  case atStart => exact ⟨0, rfl, rfl, by omega, rfl, rfl⟩
  case round =>
    obtain ⟨k, rfl, rfl, hk, rfl, rfl⟩ := hrel
    have hmr := many_range (l := bus.take k) (N := 24) (by omega) (fun x hx => HMEM.out x (List.mem_of_mem_take hx))
    by_cases hlt : k < bus.length
    · obtain ⟨b, off, cap, hv, hbl', hnc, hcs⟩ := HR2.out.ints (by omega)
      injection hv with hv _ hvc
      subst hv hvc
      have hc := hcs k hlt
      have hx := HMEM.out (bus.getD k 0) (by rw [List.getD_eq_getElem?_getD, List.getElem?_eq_getElem hlt]; exact List.getElem_mem hlt)
      have HS := Lib.hid (show manyL (bus.take (k + 1)) = max (manyL (bus.take k)) (bus.getD k 0 + 1) by
        rw [List.take_succ_eq_append_getElem hlt, many_snoc, List.getD_eq_getElem?_getD, List.getElem?_eq_getElem hlt]; rfl)
      obtain ⟨hx0, hx1⟩ := hx
      obtain ⟨hm0, hm1⟩ := hmr
      generalize bus.getD k 0 = x at *
      generalize manyL (bus.take k) = m at *
      clear hcs
      go_wp2
      go_roundg (bus.length - (k + 1))
      case measure => omega
      case rel => exact ⟨k + 1, rfl, by go_num, by omega, rfl, by rw [HS.out]⟩
    · obtain rfl : k = bus.length := by omega
      rw [List.take_of_length_le (Nat.le_refl _)] at hmr ⊢
      obtain ⟨hm0, hm1⟩ := hmr
      have HM := Lib.hid (show manyL (busesL n) = manyL bus by rw [HEQ.out])
      generalize manyL bus = m at *
      have hx2 : w2.cell? ⟨w.heap.size, 2, none⟩ = some (.slice ba n.branches.length v.bc) := HBX2.out.cell 2
      go_wp2
      have HES := Lib.hid (show (branchEdges n).length = n.branches.length by simp [branchEdges])
      have HED := Lib.hid (show ∀ j (hj : j < n.branches.length), (branchEdges n)[j]? = some (at_ bus (Lib.idxOfS n.nodes n.branches[j].src), at_ bus (Lib.idxOfS n.nodes n.branches[j].dst)) by
        intro j hj; simp [branchEdges, HEQ.out, hj])
      have HISL := Lib.hid (show islandsL n = (guardE m (branchEdges n) [] (parts m.toNat (branchEdges n) (-1))).1 by rw [islandsL, HM.out])
      obtain ⟨es, hes⟩ : ∃ es, branchEdges n = es := ⟨_, rfl⟩
      rw [hes] at HES HED HISL
      clear hes
      go_loopg [7, 28] (n.branches.length - 0) (fun r lv iv wr => ∃ j : Nat, r = n.branches.length - j ∧ iv = I j ∧ j ≤ n.branches.length ∧ GetInv w2 es j lv wr)
      case atStart => exact ⟨0, rfl, rfl, by omega, Row.nil _ _ _ _, Below.refl _ _⟩
      case round =>
        obtain ⟨j, rfl, rfl, hj, hG⟩ := hrel
        obtain ⟨wa, rfl⟩ : ∃ wa : World, wa = wr := ⟨_, rfl⟩
        have hza : w2.heap.size ≤ wa.heap.size := hG.below.size
        have hz2 := HZ2.out
        have hlt2 : w1.heap.size < w2.heap.size := by omega
        have hlt3 : w1.heap.size < wa.heap.size := by omega
        have hlt4 : w.heap.size < wa.heap.size := by omega
        clear hz2
        have y0 : wa.cell? ⟨w.heap.size, 0, none⟩ = some (.slice v.na n.nodes.length v.nc) := (HBX2.out.below hG.below HBX2.out.lt).cell 0
        have y1 : wa.cell? ⟨w1.heap.size, 0, none⟩ = some (.slice bA bus.length bc) := (HT2.out.below hG.below HT2.out.lt).cell 0
        by_cases hlt : j < n.branches.length
        · have hIN := (HN.out.below HBE2.out).below hG.below
          obtain ⟨b, off, hba, hbl', hcs⟩ := reads_by (f := BranchD.cells) (sz := 9) (fun _ => rfl) (by omega) hIN.branches hlt
          have hmem := HV.out.br _ (List.getElem_mem hlt)
          have hed := HED.out j hlt
          obtain ⟨g, hg⟩ : ∃ g, n.branches[j] = g := ⟨_, rfl⟩
          rw [hg] at hcs hmem hed
          clear hg
          obtain ⟨nm, xa, xb, fx, ft, fs, fl, fo, fh⟩ := g
          obtain ⟨ha, hb, _, _⟩ := hmem
          have ia := idx_mem ha
          have ib := idx_mem hb
          simp only at ha hb ia ib hed
          have c0 := hcs 0 _ rfl
          have c1 := hcs 1 _ rfl
          have c2 := hcs 2 _ rfl
          have c3 := hcs 3 _ rfl
          have c4 := hcs 4 _ rfl
          have c5 := hcs 5 _ rfl
          have c6 := hcs 6 _ rfl
          have c7 := hcs 7 _ rfl
          have c8 := hcs 8 _ rfl
          simp only [← Nat.add_assoc, Nat.add_zero] at c0 c1 c2 c3 c4 c5 c6 c7 c8
          obtain ⟨bb, boff, bcap, hv, hbb, hnc, hbs⟩ := (HR2.out).ints (by have := HBUS.out; omega)
          injection hv with hv _ hvc
          subst hv hvc
          have HNO := Lib.hid hIN.nodes
          have HG := Lib.hid hG
          have hbb1 : bb < w1.heap.size := by
            rcases HLT.out with ⟨h, _⟩ | ⟨g, off, h, _, h2⟩
            · cases h
            · injection h with h; injection h with h; omega
          have hbln := HBUS.out
          have ia1 : Lib.idxOfS n.nodes xa < bus.length := by omega
          have ib1 : Lib.idxOfS n.nodes xb < bus.length := by omega
          have ia0 := ia.1
          have ib0 := ib.1
          have z0 : wa.cell? ⟨bb, boff + (Lib.idxOfS n.nodes xa).toNat, none⟩ = some (I (at_ bus (Lib.idxOfS n.nodes xa))) := by
            rw [hG.below.cell (p := ⟨bb, _, none⟩) (by simp; omega)]; exact hbs _ (by omega)
          have z1 : wa.cell? ⟨bb, boff + (Lib.idxOfS n.nodes xb).toNat, none⟩ = some (I (at_ bus (Lib.idxOfS n.nodes xb))) := by
            rw [hG.below.cell (p := ⟨bb, _, none⟩) (by simp; omega)]; exact hbs _ (by omega)
          have HED1 := Lib.hid hed
          have hba2 := HVBA.out.symm.trans hba
          subst hba2
          clear hba hcs hIN hG hbs ia ib ha hb hed hbln
          go_wp2
          have al : ∀ {g o : Nat} {u : Value}, wa.cell? ⟨g, o, none⟩ = some u → (wa.alloc (Obj.cells #[Value.string nm, Value.string xa, Value.string xb, Value.int IntKind.i64 fx, Value.int IntKind.i64 ft, Value.int IntKind.i64 fs, Value.int IntKind.i64 fl, Value.int IntKind.i64 fo, Value.int IntKind.i64 fh] 90)).cell? ⟨g, o, none⟩ = some u := fun hc => (World.cell?_alloc_lt wa _ _ (World.block_lt_of_cell? wa _ hc)).trans hc
          have hx0 := al y0
          have hx1 := al y1
          have hx2 : (wa.alloc (Obj.cells #[Value.string nm, Value.string xa, Value.string xb, Value.int IntKind.i64 fx, Value.int IntKind.i64 ft, Value.int IntKind.i64 fs, Value.int IntKind.i64 fl, Value.int IntKind.i64 fo, Value.int IntKind.i64 fh] 90)).cell? ⟨wa.heap.size, 1, none⟩ = some (.string xa) := (Blk.new wa 90 _).cell 1
          have hx3 : (wa.alloc (Obj.cells #[Value.string nm, Value.string xa, Value.string xb, Value.int IntKind.i64 fx, Value.int IntKind.i64 ft, Value.int IntKind.i64 fs, Value.int IntKind.i64 fl, Value.int IntKind.i64 fo, Value.int IntKind.i64 fh] 90)).cell? ⟨wa.heap.size, 2, none⟩ = some (.string xb) := (Blk.new wa 90 _).cell 2
          have hx4 := al z0
          have hx5 := al z1
          have HL := Lib.hid (HG.out.row.alloc (Obj.cells #[Value.string nm, Value.string xa, Value.string xb, Value.int IntKind.i64 fx, Value.int IntKind.i64 ft, Value.int IntKind.i64 fs, Value.int IntKind.i64 fl, Value.int IntKind.i64 fo, Value.int IntKind.i64 fh] 90))
          have HLA := Lib.hid HG.out.row
          have HBE3 := Lib.hid (HG.out.below.alloc hza (Obj.cells #[Value.string nm, Value.string xa, Value.string xb, Value.int IntKind.i64 fx, Value.int IntKind.i64 ft, Value.int IntKind.i64 fs, Value.int IntKind.i64 fl, Value.int IntKind.i64 fo, Value.int IntKind.i64 fh] 90))
          have HNO2 := Lib.hid (HNO.out.below (w' := wa.alloc (Obj.cells #[Value.string nm, Value.string xa, Value.string xb, Value.int IntKind.i64 fx, Value.int IntKind.i64 ft, Value.int IntKind.i64 fs, Value.int IntKind.i64 fl, Value.int IntKind.i64 fo, Value.int IntKind.i64 fh] 90)) ((Below.refl _ wa).alloc (Nat.le_refl _) _))
          have hsz : (wa.alloc (Obj.cells #[Value.string nm, Value.string xa, Value.string xb, Value.int IntKind.i64 fx, Value.int IntKind.i64 ft, Value.int IntKind.i64 fs, Value.int IntKind.i64 fl, Value.int IntKind.i64 fo, Value.int IntKind.i64 fh] 90)).heap.size = wa.heap.size + 1 := World.size_alloc _ _
          have hsz1 : wa.heap.size < (wa.alloc (Obj.cells #[Value.string nm, Value.string xa, Value.string xb, Value.int IntKind.i64 fx, Value.int IntKind.i64 ft, Value.int IntKind.i64 fs, Value.int IntKind.i64 fl, Value.int IntKind.i64 fo, Value.int IntKind.i64 fh] 90)).heap.size := by omega
          have hsz2 : w.heap.size < (wa.alloc (Obj.cells #[Value.string nm, Value.string xa, Value.string xb, Value.int IntKind.i64 fx, Value.int IntKind.i64 ft, Value.int IntKind.i64 fs, Value.int IntKind.i64 fl, Value.int IntKind.i64 fo, Value.int IntKind.i64 fh] 90)).heap.size := by omega
          have hsz3 : w1.heap.size < (wa.alloc (Obj.cells #[Value.string nm, Value.string xa, Value.string xb, Value.int IntKind.i64 fx, Value.int IntKind.i64 ft, Value.int IntKind.i64 fs, Value.int IntKind.i64 fl, Value.int IntKind.i64 fo, Value.int IntKind.i64 fh] 90)).heap.size := by omega
          generalize wa.alloc (Obj.cells #[Value.string nm, Value.string xa, Value.string xb, Value.int IntKind.i64 fx, Value.int IntKind.i64 ft, Value.int IntKind.i64 fs, Value.int IntKind.i64 fl, Value.int IntKind.i64 fo, Value.int IntKind.i64 fh] 90) = W1 at *
          clear al hsz HG HNO y0 y1 z0 z1 c0 c1 c2 c3 c4 c5 c6 c7 c8
          obtain ⟨i0, hi0, hz0, hz1', hz2'⟩ := info_parts Tryd.info105
          have HI0 := Lib.hid hi0
          have HZ0 := Lib.hid hz0
          have HZ1 := Lib.hid hz1'
          have HZ2' := Lib.hid hz2'
          clear hi0 hz0 hz1' hz2'
          have htl : (es.take j).length ≤ 24 := by have := HES.out; simp; omega
          obtain ⟨t, ht⟩ : ∃ t, es.take j = t := ⟨_, rfl⟩
          have HTK := Lib.hid (show es.take (j + 1) = t ++ [(at_ bus (Lib.idxOfS n.nodes xa), at_ bus (Lib.idxOfS n.nodes xb))] by
            rw [List.take_add_one, HED1.out, ht]; rfl)
          rw [ht] at HL HLA htl
          clear ht HED1
          go_region_held3 (fun w' => w'.cell? ⟨w.heap.size, 0, none⟩ = some (.slice v.na n.nodes.length v.nc) ∧ w'.cell? ⟨w1.heap.size, 0, none⟩ = some (.slice (some ⟨bb, boff, none⟩) bus.length bc) ∧ w'.cell? ⟨wa.heap.size, 1, none⟩ = some (.string xa) ∧ w'.cell? ⟨wa.heap.size, 2, none⟩ = some (.string xb) ∧ w'.cell? ⟨bb, boff + (Lib.idxOfS n.nodes xa).toNat, none⟩ = some (I (at_ bus (Lib.idxOfS n.nodes xa))) ∧ w'.cell? ⟨bb, boff + (Lib.idxOfS n.nodes xb).toNat, none⟩ = some (I (at_ bus (Lib.idxOfS n.nodes xb))))
            (first | (with_reducible exact ⟨hx0, hx1, hx2, hx3, hx4, hx5⟩) | (with_reducible exact HX.out) | go_keep)
            (first | (go_at_call 40; refine (idxS_any n.nodes _ v.na v.nc _ _ _ rfl HNO2.out.drew (by omega)).mono ?_; rintro e w' ⟨rfl, rfl⟩) | (refine step_append_rowG (by rfl) _ _ 104 (by rfl) w2.heap.size 105 i0 _ 2 16 Tryd.underlying104 HI0.out HZ0.out HZ1.out HZ2'.out rfl (by decide) u7 t.length (cells2 t) (by rfl) (HL.out.alloc _).drew (W1.heap.size + 1) (some ⟨W1.heap.size, 0, none⟩) 1 1 [I (at_ bus (Lib.idxOfS n.nodes xa)), I (at_ bus (Lib.idxOfS n.nodes xb))] (by rfl) (reads_pairN W1 105 _ _) (by simp [Value.oneCell']) (by unfold maxLen; omega) (by omega) (by simp; omega) ?_; intro v' w3 hr3 hg3; have HX := Lib.hid (show _ ∧ _ ∧ _ ∧ _ ∧ _ ∧ _ from ⟨app_keep HLA.out hg3 hx0 (by omega), app_keep HLA.out hg3 hx1 (by omega), app_keep HLA.out hg3 hx2 (by omega), app_keep HLA.out hg3 hx3 (by omega), app_keep HLA.out hg3 hx4 (by omega), app_keep HLA.out hg3 hx5 (by omega)⟩)))
          have hR1 := (HL.out.alloc (Obj.cells #[I (at_ bus (Lib.idxOfS n.nodes xa)), I (at_ bus (Lib.idxOfS n.nodes xb))] 105)).drew
          have HBE4 := Lib.hid (((HBE3.out.alloc (by omega) (Obj.cells #[I (at_ bus (Lib.idxOfS n.nodes xa)), I (at_ bus (Lib.idxOfS n.nodes xb))] 105)).drew).trans (hR1.belowG hg3 (by simp; omega)))
          have HRO : Hid (Row w3 w2.heap.size 105 2 v' (es.take (j + 1)).length (cells2 (es.take (j + 1)))) := by
            rw [HTK.out, List.length_append, ← cells2_snoc]; exact hr3
          clear hR1 hg3 hr3 HX hx0 hx1 hx2 hx3 hx4 hx5 HL HLA HBE3
          go_wp2
          go_roundg (n.branches.length - (j + 1))
          case measure => omega
          case rel => exact ⟨j + 1, rfl, by go_num, by omega, HRO.out, HBE4.out⟩
        · obtain rfl : j = n.branches.length := by omega
          have htk : es.take n.branches.length = es := List.take_of_length_le (by rw [HES.out]; exact Nat.le_refl _)
          have hrow := hG.row
          rw [htk] at hrow
          obtain ⟨A, c, rfl⟩ := hrow.val
          have hel : es.length ≤ 24 := by have := HES.out; omega
          have hcap : es.length ≤ c := by
            rcases hrow.2 with ⟨hv, h0⟩ | ⟨g, off, cap, cur, hv, _, _, hnc, _⟩
            · omega
            · injection hv with _ _ h3; omega
          have HC := Lib.hid (components_any m es A c wa ⟨hrow.reads, by omega, by omega, by omega, hcap⟩)
          have HBW := Lib.hid hG.below
          clear htk hrow hG y0 y1 hcap
          go_wp2_with fail
          refine HC.out.mono ?_
          rintro e w3 ⟨iv, rfl, hr3, hb3⟩
          obtain ⟨iA, ic, rfl⟩ := hr3.val
          have hbt := HBW.out.trans (hb3.mono HBW.out.size)
          have hT3 := HT2.out.below hbt HT2.out.lt
          have hR3 := HRX2.out.below hbt HRX2.out.lt
          have t0 := hT3.cell 0
          have t1 := hT3.cell 1
          have f0 := hT3.frozen 0
          have f1 := hT3.frozen 1
          have r0 := hR3.cell 0
          have r1 := hR3.cell 1
          have g0 := hR3.frozen 0
          have g1 := hR3.frozen 1
          have hs3 := hb3.size
          have hne : w.heap.size + 1 ≠ w1.heap.size := by omega
          have HBUS3 := Lib.hid ((HR2.out.keep (w' := w3) fun g hg hg2 => (hbt.block g hg2)))
          have HISL3 := Lib.hid hr3
          have HBE5 := Lib.hid (HBE2.out.trans (hbt.mono HBE2.out.size))
          have hs0 : (w.heap.size == w1.heap.size) = false := beq_eq_false_iff_ne.2 (by omega)
          clear hbt hT3 hR3 hr3 hb3 HC
          go_wp2
          obtain ⟨isl, hisl⟩ : ∃ isl, (guardE m es [] (parts m.toNat es (-1))).1 = isl := ⟨_, rfl⟩
          rw [hisl] at HISL HISL3 ⊢
          have hbo : ∀ g, (Value.slice bA bus.length bc).ownBlock = some g → w.heap.size + 1 + 1 ≤ g ∧ g < w1.heap.size := by
            intro g hg
            rcases HLT.out with ⟨h, _⟩ | ⟨g', off, h, h1, h2⟩
            · subst h; simp [Value.ownBlock] at hg
            · subst h; simp [Value.ownBlock] at hg; omega
          have hio : ∀ g, (Value.slice iA isl.length ic).ownBlock = some g → wa.heap.size ≤ g := fun g hg => (HISL3.out.own_block hg).1
          have hin := HISL3.out.less (base' := w.heap.size) (by omega)
          refine bodyPost_ret (v := .agg #[Value.slice bA bus.length bc, Value.slice iA isl.length ic]) (by simp [results, go_sem, r0, r1]) rfl ?_
          rw [HEQ.out, HISL.out]
          refine ⟨_, _, rfl, ?_, ?_, ?_⟩
          · exact (((HBUS3.out.set_away (fun g hg => by have := hbo g hg; simp; omega) _).set_away (fun g hg => by have := hbo g hg; simp; omega) _).set_away (fun g hg => by have := hbo g hg; simp; omega) _).less (by omega)
          · exact ((hin.set_away (fun g hg => by have := hio g hg; simp; omega) _).set_away (fun g hg => by have := hio g hg; simp; omega) _).set_away (fun g hg => by have := hio g hg; simp; omega) _
          · exact ((HBE5.out.setCell (by simp; omega) _).setCell (by simp) _).setCell (by simp) _
end Go.Proofs.YtglbelmljdgaoaaDoor
