/- station.Join. -/
import Derived.Test.YtphiiflcpeploaaStPath
import Derived.StillTailTactics
namespace Go.Proofs.Ytphiiflcpeploaa
open Go.RowKit

def busEdge (bus : List Int) (x : Int × Int) : Int × Int := (at_ bus x.1, at_ bus x.2)
def joinEdges (n : NetD) : List (Int × Int) := ((edgesL n true).map (·.1)).map (busEdge (busesL n))
def joinPath (n : NetD) (a b : ByteArray) : List Int × Int := pathE n.nodes.length (joinEdges n) (at_ (busesL n) (Lib.idxOfS n.nodes a)) (at_ (busesL n) (Lib.idxOfS n.nodes b))
def stJoin (n : NetD) (a b : ByteArray) : List ByteArray × Int :=
  if stCheck n [a, b] = 0 then (if (joinPath n a b).2 = 0 then (namesL n (joinPath n a b).1 ((edgesL n true).map (·.2)), 0) else ([], (joinPath n a b).2)) else ([], stCheck n [a, b])

/-- the edges of which the first j are turned -/
def turned (bus : List Int) (es : List (Int × Int)) (j : Nat) : List (Int × Int) := (es.take j).map (busEdge bus) ++ es.drop j
theorem turned_len (bus : List Int) (es : List (Int × Int)) (j : Nat) : (turned bus es j).length = es.length := by
  simp only [turned, List.length_append, List.length_map, List.length_take, List.length_drop]; omega
theorem turned_at {bus : List Int} {es : List (Int × Int)} {j : Nat} (hj : j < es.length) : (turned bus es j)[j]? = some es[j] := by
  rw [turned, List.getElem?_append_right (by simp; omega)]
  simp only [List.length_map, List.length_take]
  rw [Nat.min_eq_left (by omega), Nat.sub_self, List.getElem?_drop]
  simp [hj]
theorem turned_succ {bus : List Int} {es : List (Int × Int)} {j : Nat} (hj : j < es.length) : cells2 (turned bus es (j + 1)) = ((cells2 (turned bus es j)).set (j * 2) (I (busEdge bus es[j]).1)).set (j * 2 + 1) (I (busEdge bus es[j]).2) := by
  have h1 : turned bus es (j + 1) = (turned bus es j).set j (busEdge bus es[j]) := by
    rw [turned, turned, List.take_succ_eq_append_getElem hj, List.map_append, List.append_assoc, List.set_append_right _ _ (by simp; omega)]
    simp only [List.length_map, List.length_take, Nat.min_eq_left (Nat.le_of_lt hj), Nat.sub_self]
    congr 1
    rw [List.drop_eq_getElem_cons hj]
    rfl
  rw [h1]
  have key : ∀ (l : List (Int × Int)) (j : Nat) (y : Int × Int), j < l.length → cells2 (l.set j y) = ((cells2 l).set (j * 2) (I y.1)).set (j * 2 + 1) (I y.2) := by
    intro l
    induction l with
    | nil => intro j y h; simp at h
    | cons x l ih =>
      intro j y h
      cases j with
      | zero => simp [cells2]
      | succ j =>
        have := ih j y (by simpa using h)
        have e : (j + 1) * 2 = j * 2 + 1 + 1 := by omega
        simp only [cells2, List.set_cons_succ, List.flatMap_cons, e] at this ⊢
        rw [this]
        simp
  exact key _ _ _ (by rw [turned_len]; exact hj)
theorem turned_zero (bus : List Int) (es : List (Int × Int)) : turned bus es 0 = es := by simp [turned]
theorem turned_all (bus : List Int) (es : List (Int × Int)) : turned bus es es.length = es.map (busEdge bus) := by simp [turned]

theorem grown_drew {a w : World} {row : Option Nat} (h : a.grownBy w row) : a.grownBy w.drew row := ⟨h.os, h.tape, h.output, h.size, h.block⟩
theorem grown_set {a w : World} {g : Nat} (h : a.grownBy w (some g)) (o : Nat) (u : Value) : a.grownBy (w.setCell ⟨g, o, none⟩ u) (some g) :=
  ⟨h.os, h.tape, h.output, by simpa [World.setCell] using h.size, fun i hi hne => by
    rw [Below.heap_setCell w ⟨g, o, none⟩ u i (fun e => hne (by rw [e]))]
    exact h.block i hi hne⟩
structure JoinInv (w2 : World) (base : Nat) (A : Option Addr) (c : Nat) (bus : List Int) (es : List (Int × Int)) (j : Nat) (wr : World) : Prop where
  row : Row wr base 32 2 (.slice A es.length c) es.length (cells2 (turned bus es j))
  grown : w2.grownBy wr (Value.slice A es.length c).ownBlock

set_option maxRecDepth 100000 in
set_option maxHeartbeats 2000000 in
theorem stJoin_any (n : NetD) (v : NetV) (a b : ByteArray) (w : World) (hN : Net w n v) : Calls Try.prog 31 #[v.val n, .string a, .string b] w (RetStrsE w (stJoin n a b)) := by
  have hb0 := below2 w (Obj.cells (v.parts n) 47) (Obj.cells #[.string a, .string b] 9)
  have HC := Lib.hid (stCheck_any n v [a, b] (some ⟨w.heap.size + 1, 0, none⟩) 2 _ (hN.below hb0) (reads_box2 w _ 9 a b) (by simp))
  have HN := Lib.hid hN
  have HB0 := Lib.hid hb0
  have HBX := Lib.hid ((Blk.new w 47 (v.parts n)).alloc (Obj.cells #[.string a, .string b] 9))
  have HD := Lib.hid (show stJoin n a b = if stCheck n [a, b] = 0 then (if (joinPath n a b).2 = 0 then (namesL n (joinPath n a b).1 ((edgesL n true).map (·.2)), 0) else ([], (joinPath n a b).2)) else ([], stCheck n [a, b]) from rfl)
  have HOK := Lib.hid (@stCheck_ok n [a, b])
  have HED := Lib.hid (fun w hn h1 h2 => edges_any n v true w hn h1 h2)
  have HNA := Lib.hid (fun way which A K ac kc w => names_any n v way which A K ac kc w)
  have HPM : Hid (∀ k ∈ (joinPath n a b).1, 0 ≤ k ∧ k < ((edgesL n true).map (·.1)).length) := fun k hk => by have := pathE_mem k hk; simpa [joinEdges] using this
  have HWM := Lib.hid (@which_mem n true)
  have HPD := Lib.hid (show joinPath n a b = pathE n.nodes.length (joinEdges n) (at_ (busesL n) (Lib.idxOfS n.nodes a)) (at_ (busesL n) (Lib.idxOfS n.nodes b)) from rfl)
  have HEL := Lib.hid (edges_len n true)
  have HPL := Lib.hid (show (joinPath n a b).1.length ≤ 25 from pathE_len _ _ _ _)
  have HE12 := Lib.hid (show ((edgesL n true).map (·.1)).length = (edgesL n true).length ∧ ((edgesL n true).map (·.2)).length = (edgesL n true).length by simp)
  clear hb0 hN
  unfold NetV.val NetV.parts at *
  obtain ⟨er, her⟩ : ∃ er, stCheck n [a, b] = er := ⟨_, rfl⟩
  rw [her] at HC HD HOK
  clear her
  go_enter Try.func31, Try.ntmps31
  go_wp2_with fail
  refine HC.out.mono ?_
  rintro e w1 ⟨rfl, b1⟩
  have HB1 := Lib.hid (HB0.out.trans (b1.mono HB0.out.size))
  have HBX1 := Lib.hid (HBX.out.below b1 HBX.out.lt)
  clear b1 HC HBX HB0
  by_cases h0 : er = 0
  · subst h0
    have HV := Lib.hid (vnet (HOK.out rfl).1)
    have hw := HV.out.hw
    have hnn := HV.out.hn
    have x0 := HBX1.out.cell 0
    have x1 := HBX1.out.cell 1
    have x2 := HBX1.out.cell 2
    have x3 := HBX1.out.cell 3
    have x4 := HBX1.out.cell 4
    have x5 := HBX1.out.cell 5
    have hl1 : w.heap.size < w1.heap.size := HBX1.out.lt
    have HBU := Lib.hid (buses_any n v w1 (HN.out.below HB1.out).net (by omega) (by omega))
    have HBRG := Lib.hid (bus_range HV.out)
    have HBLN := Lib.hid (buses_len HV.out)
    have HVA := Lib.hid (edges_valid HV.out true)
    go_wp2_with fail
    refine HBU.out.mono ?_
    rintro e w1b ⟨bv, rfl, hbr, hb1b⟩
    obtain ⟨BA, bcc, rfl⟩ := hbr.val
    have HB1b := Lib.hid (HB1.out.trans (hb1b.mono HB1.out.size))
    have HBX1b := Lib.hid (HBX1.out.below hb1b HBX1.out.lt)
    have HBROW := Lib.hid hbr
    clear hbr hb1b HBU x0 x1 x2 x3 x4 x5 HB1 HBX1
    have x0 := HBX1b.out.cell 0
    have x1 := HBX1b.out.cell 1
    have x2 := HBX1b.out.cell 2
    have x3 := HBX1b.out.cell 3
    have x4 := HBX1b.out.cell 4
    have x5 := HBX1b.out.cell 5
    have hl1b : w.heap.size < w1b.heap.size := HBX1b.out.lt
    have HED1 := Lib.hid (HED.out w1b (HN.out.below HB1b.out).net (by omega) (by omega))
    have HJE := Lib.hid (show joinEdges n = ((edgesL n true).map (·.1)).map (busEdge (busesL n)) from rfl)
    obtain ⟨bus, hbus⟩ : ∃ bus, busesL n = bus := ⟨_, rfl⟩
    rw [hbus] at HBRG HBLN HBROW HJE HPD ⊢
    clear hbus
    go_wp2_with fail
    refine HED1.out.mono ?_
    rintro e w2 ⟨lv, kv, rfl, hl, hk, hb2⟩
    obtain ⟨A, c, rfl⟩ := hl.val
    obtain ⟨K, kc, rfl⟩ := hk.val
    have he1 := HE12.out.1
    have he2 := HE12.out.2
    obtain ⟨es, hes⟩ : ∃ es, (edgesL n true).map (·.1) = es := ⟨_, rfl⟩
    obtain ⟨ks, hks⟩ : ∃ ks, (edgesL n true).map (·.2) = ks := ⟨_, rfl⟩
    rw [hes] at he1 HEL hl HJE HVA
    rw [hks] at he2 HWM HD hk
    rw [HJE.out] at HPD
    rw [hes] at HPM
    obtain ⟨m, hm⟩ : ∃ m, (edgesL n true).length = m := ⟨_, rfl⟩
    rw [hm] at he1 he2 hl hk ⊢
    have hel : es.length ≤ 32 := Nat.le_trans HEL.out hw
    subst he1
    have HB2 := Lib.hid (HB1b.out.trans (hb2.mono HB1b.out.size))
    have HBX2 := Lib.hid (HBX1b.out.below hb2 HBX1b.out.lt)
    have HBR2 := Lib.hid (HBROW.out.call hb2)
    have HLR := Lib.hid hl
    have HKR := Lib.hid hk
    have HKL := Lib.hid he2
    have hz2 := hb2.size
    clear hl hk hb2 he2 hm hes hks HED HED1 HE12 x0 x1 x2 x3 x4 x5 HJE
    go_wp2
    have HI : JoinInv w2 w1b.heap.size A c bus es 0 w2 := ⟨by rw [turned_zero]; exact HLR.out, World.grownBy.refl _ _⟩
    go_loopg [32] (es.length - 0) (fun r iv wr => ∃ j : Nat, r = es.length - j ∧ iv = I j ∧ j ≤ es.length ∧ JoinInv w2 w1b.heap.size A c bus es j wr)
    case atStart => exact ⟨0, rfl, rfl, by omega, HI⟩
    case round =>
      clear HI
      obtain ⟨j, rfl, rfl, hj, hG⟩ := hrel
      obtain ⟨wa, rfl⟩ : ∃ wa : World, wa = wr := ⟨_, rfl⟩
      by_cases hlt : j < es.length
      · obtain ⟨g, off, cap, cur, hv, hbg, hh, _⟩ := hG.row.form (by omega)
        injection hv with hA _ hc
        subst hA hc
        have hrow := hG.row
        have hva := HVA.out es[j] (List.getElem_mem hlt)
        have h2 := cells2_at (turned bus es j) j es[j] (turned_at hlt)
        have l0 := hrow.cell_at h2.1
        have l1 := hrow.cell_at h2.2
        have f0 := hrow.frozen_at (off + j * 2)
        have f1 := hrow.frozen_at (off + j * 2 + 1)
        rw [← Nat.add_assoc] at l1
        have HTS := Lib.hid (turned_succ (bus := bus) hlt)
        obtain ⟨⟨p, q⟩, hpq⟩ : ∃ y, es[j] = y := ⟨_, rfl⟩
        rw [hpq] at hva l0 l1 HTS
        clear h2 hpq
        obtain ⟨p0, p1, q0, q1⟩ := hva
        simp only at p0 p1 q0 q1 l0 l1
        have hbl := HBLN.out
        have hbb : Row wa w.heap.size 3 1 (.slice BA bus.length bcc) bus.length (bus.map I) := (HBR2.out.less (base' := w.heap.size) (by omega)).apart (HLR.out.less (base' := w.heap.size) (by omega)) (by decide) hG.grown
        obtain ⟨bb, boff, bcap, hv2, hbb', hnc, hbs⟩ := hbb.ints (by omega)
        injection hv2 with hBA _ hbc
        subst hBA hbc
        have m0 := hbs p.toNat (by omega)
        have m1 := hbs q.toNat (by omega)
        obtain ⟨pb, hpb⟩ : ∃ pb, bus.getD p.toNat 0 = pb := ⟨_, rfl⟩
        obtain ⟨qb, hqb⟩ : ∃ qb, bus.getD q.toNat 0 = qb := ⟨_, rfl⟩
        have HBE := Lib.hid (show busEdge bus (p, q) = (pb, qb) by simp only [busEdge, at_]; rw [hpb, hqb])
        rw [HBE.out] at HTS
        rw [hpb] at m0
        rw [hqb] at m1
        clear hpb hqb
        have hbl1 : p < bus.length := by omega
        have hbl2 : q < bus.length := by omega
        have HG := Lib.hid hG
        have HROW := Lib.hid hrow
        have hgl := hh.lt
        have hj1 : (j : Int) < es.length := by omega
        have hj0 : (0 : Int) ≤ (j : Int) := by omega
        clear hG hrow hbb hbs hh hbl
        go_wp2
        go_still_tail 20, (by kernel_rfl)
        change wpList _ _ _ _ _ wa.drew
        have HG3 := Lib.hid (grown_drew HG.out.grown)
        have HR3 := Lib.hid HROW.out.drew
        have l0' : wa.drew.cell? ⟨g, off + j * 2, none⟩ = some (I p) := l0
        have l1' : wa.drew.cell? ⟨g, off + j * 2 + 1, none⟩ = some (I q) := l1
        have f0' : wa.drew.frozen? ⟨g, off + j * 2, none⟩ = false := f0
        have f1' : wa.drew.frozen? ⟨g, off + j * 2 + 1, none⟩ = false := f1
        have hgl' : g < wa.drew.heap.size := hgl
        clear HG HROW l0 l1 f0 f1 hgl
        generalize wa.drew = w3 at *
        have hj2 : j * 2 < es.length * 2 := by omega
        have hr4 := HR3.out.set_at (j := j * 2) hj2 (I pb)
        have hr5 := hr4.set_at (j := j * 2 + 1) (by omega) (I qb)
        rw [← HTS.out, ← Nat.add_assoc] at hr5
        have HR5 := Lib.hid hr5
        have HG5 := Lib.hid (grown_set (grown_set (show w2.grownBy w3 (some g) from HG3.out) (off + j * 2) (I pb)) (off + j * 2 + 1) (I qb))
        clear hr4 hr5 HR3 HG3
        go_wp2
        go_roundg (es.length - (j + 1))
        case measure => omega
        case rel => exact ⟨j + 1, rfl, by go_num, by omega, HR5.out, HG5.out⟩
      · obtain rfl : j = es.length := by omega
        have hrow := hG.row
        rw [turned_all] at hrow
        have hbe : Below w1b.heap.size w2 wa := HLR.out.belowG hG.grown (by omega)
        have hbb : Row wa w.heap.size 3 1 (.slice BA bus.length bcc) bus.length (bus.map I) := (HBR2.out.less (base' := w.heap.size) (by omega)).apart (HLR.out.less (base' := w.heap.size) (by omega)) (by decide) hG.grown
        have hkk : Row wa w1b.heap.size 3 1 _ _ (ks.map I) := HKR.out.apart HLR.out (by decide) hG.grown
        have hin := (HN.out.net.below HB2.out).nodes
        have HOKa := HOK.out trivial
        have ia := idx_mem (HOKa.2 a (by simp))
        have ib := idx_mem (HOKa.2 b (by simp))
        have ia0 := ia.1
        have ib0 := ib.1
        have hbl := HBLN.out
        have ia1 : Lib.idxOfS n.nodes a < bus.length := by omega
        have ib1 : Lib.idxOfS n.nodes b < bus.length := by omega
        obtain ⟨bb, boff, bcap, hv2, hbb', hnc, hbs⟩ := hbb.ints (by omega)
        injection hv2 with hBA _ hbc
        subst hBA hbc
        have m0 := hbs (Lib.idxOfS n.nodes a).toNat (by omega)
        have m1 := hbs (Lib.idxOfS n.nodes b).toNat (by omega)
        obtain ⟨pb, hpb⟩ : ∃ pb, bus.getD (Lib.idxOfS n.nodes a).toNat 0 = pb := ⟨_, rfl⟩
        obtain ⟨qb, hqb⟩ : ∃ qb, bus.getD (Lib.idxOfS n.nodes b).toNat 0 = qb := ⟨_, rfl⟩
        have HQ := Lib.hid (show at_ bus (Lib.idxOfS n.nodes a) = pb ∧ at_ bus (Lib.idxOfS n.nodes b) = qb from ⟨hpb, hqb⟩)
        rw [HQ.out.1, HQ.out.2] at HPD
        rw [hpb] at m0
        rw [hqb] at m1
        have HBa := Lib.hid (HB2.out.trans (hbe.mono (by omega)))
        have HBXa := Lib.hid (HBX2.out.below hbe (by omega))
        have HKRa := Lib.hid hkk
        have y0 : wa.cell? ⟨w.heap.size, 0, none⟩ = some (.slice v.na n.nodes.length v.nc) := HBXa.out.cell 0
        have hla : w.heap.size < wa.heap.size := HBXa.out.lt
        have HIN := Lib.hid (HN.out.below HBa.out).net
        have hlen : (es.map (busEdge bus)).length = es.length := by simp
        obtain ⟨es', hes'⟩ : ∃ es', es.map (busEdge bus) = es' := ⟨_, rfl⟩
        rw [hes'] at hrow HPD hlen
        have HGA : Hid (GArgs wa.drew (n.nodes.length : Int) es' A c) := gargs_row (base := w1b.heap.size) (by rw [hlen]; exact hrow.drew) (by omega) (by omega)
        have HP : Hid (∀ W, GArgs W (n.nodes.length : Int) es' A c → Calls Try.prog 17 #[I n.nodes.length, .slice A es.length c, I pb, I qb] W (RetIntsE W (joinPath n a b))) := fun W hG => by
          rw [HPD.out, ← hlen]; exact pathE_any _ es' A c _ _ W hG
        clear hG hrow hbe hbb hkk hin HOKa ia ib hbs hpb hqb hes' hlen hbl
        go_wp2
        go_region_held3 (fun w' => w'.cell? ⟨w.heap.size, 0, none⟩ = some (.slice v.na n.nodes.length v.nc) ∧ w'.cell? ⟨bb, boff + (Lib.idxOfS n.nodes a).toNat, none⟩ = some (I pb) ∧ w'.cell? ⟨bb, boff + (Lib.idxOfS n.nodes b).toNat, none⟩ = some (I qb))
          (first | (with_reducible exact ⟨y0, m0, m1⟩) | (with_reducible exact HX.out) | go_keep)
          (first | (go_at_call 59; refine (idxS_any n.nodes _ v.na v.nc _ _ _ rfl HIN.out.nodes.drew (by omega)).mono ?_; rintro e w' ⟨rfl, rfl⟩) | (go_at_call 17; refine (HP.out _ HGA.out).mono ?_; rintro e w3 ⟨pv, rfl, hr3, hb3⟩; have HX := Lib.hid (show w3.cell? ⟨w.heap.size, 0, none⟩ = some (.slice v.na n.nodes.length v.nc) ∧ w3.cell? ⟨bb, boff + (Lib.idxOfS n.nodes a).toNat, none⟩ = some (I pb) ∧ w3.cell? ⟨bb, boff + (Lib.idxOfS n.nodes b).toNat, none⟩ = some (I qb) from ⟨(HBXa.out.drew.below hb3 HBXa.out.lt).cell 0, (hb3.cell (p := ⟨bb, _, none⟩) hbb').trans m0, (hb3.cell (p := ⟨bb, _, none⟩) hbb').trans m1⟩)))
        have hb3' : Below wa.heap.size wa w3 := ⟨hb3.os, hb3.tape, hb3.output, hb3.size, hb3.block⟩
        have HB3 := Lib.hid (HBa.out.trans (hb3'.mono HBa.out.size))
        have HBX3 := Lib.hid (HBXa.out.below hb3' HBXa.out.lt)
        have HKR3 := Lib.hid (HKRa.out.call hb3')
        have HWR := Lib.hid hr3
        have hz3 := hb3'.size
        clear hb3 hb3' hr3 HX HP y0 m0 m1
        obtain ⟨pp, hpp⟩ : ∃ pp, joinPath n a b = pp := ⟨_, rfl⟩
        rw [hpp] at HPM HPL HD HWR ⊢
        clear hpp HPD HQ
        obtain ⟨pw, pe⟩ := pp
        simp only at HPM HPL HD HWR ⊢
        by_cases hp : pe = 0
        · subst hp
          have HD2 := Lib.hid (show stJoin n a b = (namesL n pw ks, 0) by rw [HD.out]; simp)
          obtain ⟨B, bc, rfl⟩ := HWR.out.val
          have x0 := HBX3.out.cell 0
          have x1 := HBX3.out.cell 1
          have x2 := HBX3.out.cell 2
          have x3 := HBX3.out.cell 3
          have x4 := HBX3.out.cell 4
          have x5 := HBX3.out.cell 5
          have hl3 : w.heap.size < w3.heap.size := HBX3.out.lt
          have hkl := HKL.out
          have HNM := Lib.hid (HNA.out pw ks B K bc kc w3 (HN.out.below HB3.out).net HWR.out.reads (by have := HKR3.out.reads; rw [← hkl] at this; exact this) (by rw [hkl]; exact HPM.out) HWM.out (by have := HPL.out; omega) (by omega) (by omega))
          rw [hkl] at HNM
          clear hkl
          go_wp2_with fail
          refine HNM.out.mono ?_
          rintro e w4 ⟨ov, rfl, hr4, hb4⟩
          have HF : Hid (RetStrsE w (namesL n pw ks, 0) (.returned (.tuple #[ov, I 0])) w4) := ⟨ov, rfl, hr4.less (by omega), HB3.out.trans (hb4.mono HB3.out.size)⟩
          clear hr4 hb4 HNM x0 x1 x2 x3 x4 x5
          go_wp2
          go_ret2
          rw [HD2.out]
          exact HF.out
        · have t1 : (pe == 0) = false := beq_eq_false_iff_ne.2 hp
          have t2 : (pe != 0) = true := by rw [bne_iff_ne]; exact hp
          have HD2 := Lib.hid (show stJoin n a b = ([], pe) by rw [HD.out]; simp [hp])
          clear hp
          go_wp2
          go_ret2
          rw [HD2.out]
          exact ⟨_, rfl, Row.nil _ _ _ _, HB3.out⟩
  · have t1 : (er == 0) = false := beq_eq_false_iff_ne.2 h0
    have t2 : (er != 0) = true := by rw [bne_iff_ne]; exact h0
    have HX := Lib.hid (show stJoin n a b = ([], er) by rw [HD.out, if_neg h0])
    clear h0
    go_wp2
    go_ret2
    rw [HX.out]
    exact ⟨_, rfl, Row.nil _ _ _ _, HB1.out⟩
end Go.Proofs.Ytphiiflcpeploaa
