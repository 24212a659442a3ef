/- StationJoins: its walk answers true. -/
import Derived.Test.YtphiiflcpeploaaJoinLaw
import Derived.Test.YtphiiflcpeploaaIsoWalk
namespace Go.Proofs.Ytphiiflcpeploaa
open Go.RowKit

structure JoinGood (n : NetD) (a b : ByteArray) (jl : List ByteArray) (pe : Int) : Prop where
  chk : checkN n = 0
  none : pe = 0 ↔ jl.length = 0
  sw : ∀ s ∈ jl, ∃ i, ∃ hi : i < n.switches.length, n.switches[i].name = s
  all : (stPath (closeN n (butN (-1) jl jl.length)) a b).2 = 0
  but : ∀ i : Nat, i < jl.length → (stPath (closeN n (butN i jl jl.length)) a b).2 ≠ 0
  len : jl.length ≤ 25
structure JoinFacts (n : NetD) (a b : ByteArray) (jl : List ByteArray) (je pe : Int) : Prop where
  bad : je ≠ 0 → jl = [] ∧ pe ≠ 0
  good : je = 0 → JoinGood n a b jl pe
theorem join_facts (n : NetD) (a b : ByteArray) : JoinFacts n a b (stJoin n a b).1 (stJoin n a b).2 (stPath n a b).2 := by
  by_cases h0 : stCheck n [a, b] = 0
  · obtain ⟨h1, h2⟩ := stCheck_ok h0
    have hJ := join_law h1 (h2 a (by simp)) (h2 b (by simp))
    refine ⟨hJ.bad, fun h => ⟨h1, hJ.none h, hJ.sw, hJ.all h, hJ.but h, ?_⟩⟩
    rw [stJoin, if_pos h0]
    split
    · simp only [namesL, List.length_map]
      exact pathE_len _ _ _ _
    · simp
  · have e1 : stJoin n a b = ([], stCheck n [a, b]) := by rw [stJoin, if_neg h0]
    have e2 : stPath n a b = ([], stCheck n [a, b]) := by rw [stPath, if_neg h0]
    rw [e1, e2]
    exact ⟨fun h => ⟨rfl, h⟩, fun h => absurd h h0⟩
theorem closeN_ok {n : NetD} (h : NetOk n) (t : List ByteArray) : NetOk (closeN n t) := by
  refine ⟨h.nodes, fun s hs => ?_, h.branches, h.gens, h.loads, h.stores⟩
  obtain ⟨s0, hs0, rfl⟩ := List.mem_map.1 hs
  have := closeSw_name t s0
  rw [this.1, this.2.1, this.2.2]
  exact h.switches s0 hs0
theorem closeN_parts (n : NetD) (t : List ByteArray) (v : NetV) : v.parts (closeN n t) = #[.slice v.na n.nodes.length v.nc, .slice v.sa n.switches.length v.sc, .slice v.ba n.branches.length v.bc, .slice v.ga n.gens.length v.gc, .slice v.la n.loads.length v.lc, .slice v.ta n.stores.length v.tc] := by
  simp [NetV.parts, closeN]
theorem Blk.set6_far {w : World} {g b : Nat} {t : TypeId} {cs : Array Value} (h : Blk w g t cs) (hne : g ≠ b) (x0 x1 x2 x3 x4 x5 : Value) : Blk (Ytphiiflcpeploaa.set6 w b x0 x1 x2 x3 x4 x5) g t cs :=
  (set6_heap w b x0 x1 x2 x3 x4 x5 g hne).trans h
theorem but_same {l : List ByteArray} {s : Int} {j : Nat} (h : (j : Int) = s) : butN s l (j + 1) = butN s l j := by rw [butN, if_pos h]
theorem but_next {l : List ByteArray} {s : Int} {j : Nat} (h : (j : Int) ≠ s) (hj : j < l.length) : butN s l (j + 1) = butN s l j ++ [l[j]] := by
  rw [butN, if_neg h, List.getD_eq_getElem?_getD, List.getElem?_eq_getElem hj]; rfl
structure JoinO (w : World) (n : NetD) (v : NetV) (l : List ByteArray) (LA : Option Addr) (wr : World) : Prop where
  box : Blk wr w.heap.size 47 #[.slice v.na n.nodes.length v.nc, .slice v.sa n.switches.length v.sc, .slice v.ba n.branches.length v.bc, .slice v.ga n.gens.length v.gc, .slice v.la n.loads.length v.lc, .slice v.ta n.stores.length v.tc]
  list : Reads wr wr.heap.size 1 LA l.length (l.map S)
  below : Below w.heap.size w wr
structure JoinI (w : World) (n : NetD) (v0 : NetV) (l : List ByteArray) (LA : Option Addr) (M : Nat) (skip : Int) (j : Nat) (v : NetV) (wr : World) : Prop where
  out : JoinO w n v0 l LA wr
  box : Blk wr M 47 #[.slice v.na n.nodes.length v.nc, .slice v.sa n.switches.length v.sc, .slice v.ba n.branches.length v.bc, .slice v.ga n.gens.length v.gc, .slice v.la n.loads.length v.lc, .slice v.ta n.stores.length v.tc]
  net : NetIn wr (closeN n (butN skip l j)) v
theorem JoinO.ext {w : World} {n : NetD} {v : NetV} {l : List ByteArray} {LA : Option Addr} {wa wb : World} (h : JoinO w n v l LA wa) (hb : Ext wa wb) : JoinO w n v l LA wb :=
  ⟨h.box.below hb h.box.lt, h.list.ext hb, h.below.trans (Below.mono hb h.below.size)⟩

set_option maxRecDepth 100000 in
set_option maxHeartbeats 4000000 in
theorem joins_any (n : NetD) (v : NetV) (a b : ByteArray) (w : World) (hN : Net w n v) : Calls Try.prog 9 #[v.val n, .string a, .string b] w fun e w' => e = .returned (.bool true) ∧ Below w.heap.size w w' := by
  have hb0 := (Below.refl w.heap.size w).alloc (Nat.le_refl _) (Obj.cells (v.parts n) 47)
  have HN := Lib.hid hN
  have HB0 := Lib.hid hb0
  have HBX := Lib.hid (Blk.new w 47 (v.parts n))
  have HJN := Lib.hid (fun w hn => stJoin_any n v a b w hn)
  have HPT := Lib.hid (fun w hn => stPath_any n v a b w hn)
  have HF := Lib.hid (join_facts n a b)
  clear hb0 hN
  unfold NetV.val NetV.parts at *
  go_enter Try.func9, Try.ntmps9
  go_wp2_with fail
  refine (stationFact_any _).mono ?_
  rintro e w1 ⟨rfl, b1⟩
  have HB1 := Lib.hid (HB0.out.trans (b1.mono HB0.out.size))
  have HBX1 := Lib.hid (HBX.out.below b1 HBX.out.lt)
  clear b1 HB0 HBX
  have x0 := HBX1.out.cell 0
  have x1 := HBX1.out.cell 1
  have x2 := HBX1.out.cell 2
  have x3 := HBX1.out.cell 3
  have x4 := HBX1.out.cell 4
  have x5 := HBX1.out.cell 5
  have hl1 : w.heap.size < w1.heap.size := HBX1.out.lt
  go_wp2_with fail
  refine (HJN.out w1 (HN.out.below HB1.out)).mono ?_
  rintro e w2 ⟨lv, rfl, hr2, hb2⟩
  have HB2 := Lib.hid (HB1.out.trans (hb2.mono HB1.out.size))
  have HBX2 := Lib.hid (HBX1.out.below hb2 HBX1.out.lt)
  clear hb2 HBX1 x0 x1 x2 x3 x4 x5
  have x0 := HBX2.out.cell 0
  have x1 := HBX2.out.cell 1
  have x2 := HBX2.out.cell 2
  have x3 := HBX2.out.cell 3
  have x4 := HBX2.out.cell 4
  have x5 := HBX2.out.cell 5
  have hl2 : w.heap.size < w2.heap.size := HBX2.out.lt
  obtain ⟨LA, lc, rfl⟩ := hr2.val
  have HR2 := Lib.hid hr2.reads
  clear hr2
  generalize stJoin n a b = jj at *
  obtain ⟨l, je⟩ := jj
  simp only at HR2 HF ⊢
  go_wp2_with fail
  refine (HPT.out w2 (HN.out.below HB2.out)).mono ?_
  rintro e w3 ⟨pv, rfl, hr3, hb3⟩
  have HB3 := Lib.hid (HB2.out.trans (hb3.mono HB2.out.size))
  have HO3 : Hid (JoinO w n v l LA w3) := Lib.hid ⟨HBX2.out.below hb3 HBX2.out.lt, HR2.out.ext hb3, HB3.out⟩
  clear hb3 hr3 HBX2 HR2 HJN HPT x0 x1 x2 x3 x4 x5
  obtain ⟨pe, hpe⟩ : ∃ pe, (stPath n a b).2 = pe := ⟨_, rfl⟩
  rw [hpe] at HF ⊢
  clear hpe
  by_cases h0 : je = 0
  · subst h0
    have HG := Lib.hid (HF.out.good rfl)
    clear HF
    have hlen := HG.out.len
    have t45 : ((pe == 0) = true ∧ ((l.length : Int) == 0) = true) ∨ ((pe == 0) = false ∧ ((l.length : Int) == 0) = false) := by
      by_cases hp : pe = 0
      · left
        have := HG.out.none.1 hp
        exact ⟨by simp [hp], beq_iff_eq.2 (by omega)⟩
      · right
        have : l.length ≠ 0 := fun e => hp (HG.out.none.2 e)
        exact ⟨by simp [hp], beq_eq_false_iff_ne.2 (by omega)⟩
    rcases t45 with ⟨t4, t5⟩ | ⟨t4, t5⟩
    all_goals
      go_wp2
      clear t4 t5
      go_loopg [11] (l.length + 1) (fun r sv wr => ∃ s : Int, r = (l.length - s).toNat ∧ sv = I s ∧ -1 ≤ s ∧ s ≤ l.length ∧ JoinO w n v l LA wr)
      case atStart => exact ⟨-1, by omega, rfl, by omega, by omega, HO3.out⟩
      case round =>
        clear HO3
        obtain ⟨s, rfl, rfl, hs1, hs2, hO⟩ := hrel
        obtain ⟨wa, rfl⟩ : ∃ wa : World, wa = wr := ⟨_, rfl⟩
        by_cases hlt : s < l.length
        · have x0 := hO.box.cell 0
          have x1 := hO.box.cell 1
          have x2 := hO.box.cell 2
          have x3 := hO.box.cell 3
          have x4 := hO.box.cell 4
          have x5 := hO.box.cell 5
          have hla : w.heap.size < wa.heap.size := hO.box.lt
          have hext : Ext wa (wa.alloc (Obj.cells #[.slice v.na n.nodes.length v.nc, .slice v.sa n.switches.length v.sc, .slice v.ba n.branches.length v.bc, .slice v.ga n.gens.length v.gc, .slice v.la n.loads.length v.lc, .slice v.ta n.stores.length v.tc] 47)) := (Ext.refl wa).alloc _
          have HI : Hid (JoinI w n v l LA wa.heap.size s 0 v (wa.alloc (Obj.cells #[.slice v.na n.nodes.length v.nc, .slice v.sa n.switches.length v.sc, .slice v.ba n.branches.length v.bc, .slice v.ga n.gens.length v.gc, .slice v.la n.loads.length v.lc, .slice v.ta n.stores.length v.tc] 47))) :=
            Lib.hid ⟨hO.ext hext, Blk.new wa 47 _, by rw [butN, closeN_nil]; exact (HN.out.below (hO.ext hext).below).net⟩
          clear hO hext
          go_wp2
          go_loopg [59] (l.length - 0) (fun r iv wr => ∃ (j : Nat) (vj : NetV), r = l.length - j ∧ iv = I j ∧ j ≤ l.length ∧ JoinI w n v l LA wa.heap.size s j vj wr)
          case atStart => exact ⟨0, v, rfl, rfl, by omega, HI.out⟩
          case round =>
            clear HI x0 x1 x2 x3 x4 x5
            obtain ⟨j, vj, rfl, rfl, hj, hI⟩ := hrel
            obtain ⟨wb, rfl⟩ : ∃ wb : World, wb = wr := ⟨_, rfl⟩
            have x0 := hI.box.cell 0
            have x1 := hI.box.cell 1
            have x2 := hI.box.cell 2
            have x3 := hI.box.cell 3
            have x4 := hI.box.cell 4
            have x5 := hI.box.cell 5
            have hlb : wa.heap.size < wb.heap.size := hI.box.lt
            have hnet : Net wb (closeN n (butN s l j)) vj := ⟨hI.net, closeN_ok HN.out.ok _, by simpa [closeN] using HN.out.l1, by simpa [closeN] using HN.out.l2, by simpa [closeN] using HN.out.l3, by simpa [closeN] using HN.out.l4, by simpa [closeN] using HN.out.l5, by simpa [closeN] using HN.out.l6⟩
            by_cases hjl : j < l.length
            · obtain ⟨lb, loff, lu, hLA, hlb2, hlu, hlc⟩ := hI.out.list.at1 hjl
              obtain ⟨x, hx⟩ : ∃ x, l[j] = x := ⟨_, rfl⟩
              obtain rfl : lu = S x := by simp [hjl, hx] at hlu; exact hlu.symm
              by_cases hjs : (j : Int) = s
              · have tj : ((j : Int) == s) = true := beq_iff_eq.2 hjs
                have HNEW : Hid (JoinI w n v l LA wa.heap.size s (j + 1) vj wb) := Lib.hid ⟨hI.out, hI.box, by rw [but_same hjs]; exact hI.net⟩
                subst hLA
                clear hI hnet hlu hx hjs
                go_wp2
                go_roundg (l.length - (j + 1))
                case measure => omega
                case rel => exact ⟨j + 1, vj, rfl, by go_num, by omega, HNEW.out⟩
              · have tj : ((j : Int) == s) = false := beq_eq_false_iff_ne.2 hjs
                have hset := Set_any (closeN n (butN s l j)) vj x false wb hnet
                obtain ⟨i, hi, hin⟩ := HG.out.sw x (by rw [← hx]; exact List.getElem_mem hjl)
                have hstep := closeN_step HG.out.chk (butN s l j) hi
                rw [hin, ← hx, ← but_next hjs hjl, hx] at hstep
                rw [hstep] at hset
                have hve : vj.val (closeN n (butN s l j)) = .agg #[.slice vj.na n.nodes.length vj.nc, .slice vj.sa n.switches.length vj.sc, .slice vj.ba n.branches.length vj.bc, .slice vj.ga n.gens.length vj.gc, .slice vj.la n.loads.length vj.lc, .slice vj.ta n.stores.length vj.tc] := by rw [NetV.val, closeN_parts]
                rw [hve] at hset
                have HSET := Lib.hid hset
                have HI := Lib.hid hI
                subst hLA
                clear hset hstep hve hnet hlu hx hin hi hI hjs
                go_wp2_with fail
                refine HSET.out.mono ?_
                rintro e wc ⟨v2, rfl, hin3, hb3⟩
                have hve2 : v2.val (closeN n (butN s l (j + 1))) = .agg #[.slice v2.na n.nodes.length v2.nc, .slice v2.sa n.switches.length v2.sc, .slice v2.ba n.branches.length v2.bc, .slice v2.ga n.gens.length v2.gc, .slice v2.la n.loads.length v2.lc, .slice v2.ta n.stores.length v2.tc] := by rw [NetV.val, closeN_parts]
                simp only at hin3 ⊢
                rw [hve2]
                have hB3 := HI.out.box.below hb3 HI.out.box.lt
                have f0 := hB3.frozen 0
                have f1 := hB3.frozen 1
                have f2 := hB3.frozen 2
                have f3 := hB3.frozen 3
                have f4 := hB3.frozen 4
                have f5 := hB3.frozen 5
                have y0 := hB3.cell 0
                have y1 := hB3.cell 1
                have y2 := hB3.cell 2
                have y3 := hB3.cell 3
                have y4 := hB3.cell 4
                have y5 := hB3.cell 5
                have hl3 : wa.heap.size < wc.heap.size := hB3.lt
                have hz3 := hb3.size
                have HB3 := Lib.hid hB3
                have HIN3 := Lib.hid hin3
                have HO := Lib.hid (HI.out.out.ext hb3)
                have g1 : ¬ wa.heap.size = wc.heap.size := by omega
                have g2 : ¬ wc.heap.size = wa.heap.size := by omega
                clear hin3 hb3 hB3 hve2 HSET x0 x1 x2 x3 x4 x5
                have hal := (Below.refl _ (set6 wc wa.heap.size (.slice v2.na n.nodes.length v2.nc) (.slice v2.sa n.switches.length v2.sc) (.slice v2.ba n.branches.length v2.bc) (.slice v2.ga n.gens.length v2.gc) (.slice v2.la n.loads.length v2.lc) (.slice v2.ta n.stores.length v2.tc))).alloc (Nat.le_refl _) (Obj.cells #[.slice v2.na n.nodes.length v2.nc, .slice v2.sa n.switches.length v2.sc, .slice v2.ba n.branches.length v2.bc, .slice v2.ga n.gens.length v2.gc, .slice v2.la n.loads.length v2.lc, .slice v2.ta n.stores.length v2.tc] 47)
                have HNEW : Hid (JoinI w n v l (some ⟨lb, loff, none⟩) wa.heap.size s (j + 1) v2 ((set6 wc wa.heap.size (.slice v2.na n.nodes.length v2.nc) (.slice v2.sa n.switches.length v2.sc) (.slice v2.ba n.branches.length v2.bc) (.slice v2.ga n.gens.length v2.gc) (.slice v2.la n.loads.length v2.lc) (.slice v2.ta n.stores.length v2.tc)).alloc (Obj.cells #[.slice v2.na n.nodes.length v2.nc, .slice v2.sa n.switches.length v2.sc, .slice v2.ba n.branches.length v2.bc, .slice v2.ga n.gens.length v2.gc, .slice v2.la n.loads.length v2.lc, .slice v2.ta n.stores.length v2.tc] 47))) := by
                  have ho : JoinO w n v l (some ⟨lb, loff, none⟩) (set6 wc wa.heap.size (.slice v2.na n.nodes.length v2.nc) (.slice v2.sa n.switches.length v2.sc) (.slice v2.ba n.branches.length v2.bc) (.slice v2.ga n.gens.length v2.gc) (.slice v2.la n.loads.length v2.lc) (.slice v2.ta n.stores.length v2.tc)) :=
                    ⟨HO.out.box.set6_far (by omega) _ _ _ _ _ _, by rw [set6_size]; exact HO.out.list.set6 (nsS _) HB3.out (slices6_mk _ _ _ _ _ _ _ _ _ _ _ _ _ _ _ _ _ _) _ _ _ _ _ _, HO.out.below.trans (set6_below wc wa.heap.size w.heap.size _ _ _ _ _ _ (by omega))⟩
                  exact ⟨ho.ext hal, (set6_blk HB3.out rfl _ _ _ _ _ _).alloc _, (HIN3.out.put6 HB3.out (slices6_mk _ _ _ _ _ _ _ _ _ _ _ _ _ _ _ _ _ _) _ _ _ _ _ _).below hal⟩
                clear hal
                go_wp2
                rw [← set6_def]
                go_roundg (l.length - (j + 1))
                case measure => omega
                case rel => exact ⟨j + 1, v2, rfl, by go_num, by omega, HNEW.out⟩
            · obtain rfl : j = l.length := by omega
              have HPT := stPath_any (closeN n (butN s l l.length)) vj a b wb hnet
              have hve : vj.val (closeN n (butN s l l.length)) = .agg #[.slice vj.na n.nodes.length vj.nc, .slice vj.sa n.switches.length vj.sc, .slice vj.ba n.branches.length vj.bc, .slice vj.ga n.gens.length vj.gc, .slice vj.la n.loads.length vj.lc, .slice vj.ta n.stores.length vj.tc] := by rw [NetV.val, closeN_parts]
              rw [hve] at HPT
              have HPT2 := Lib.hid HPT
              have HO := Lib.hid hI.out
              have hlaw : ((stPath (closeN n (butN s l l.length)) a b).2 = 0 ∧ s < 0) ∨ ((stPath (closeN n (butN s l l.length)) a b).2 ≠ 0 ∧ 0 ≤ s) := by
                by_cases h : s < 0
                · obtain rfl : s = -1 := by omega
                  exact .inl ⟨HG.out.all, h⟩
                · obtain ⟨i, rfl⟩ := Int.eq_ofNat_of_zero_le (show 0 ≤ s by omega)
                  exact .inr ⟨HG.out.but i (by omega), by omega⟩
              have HLAW := Lib.hid hlaw
              clear HPT hve hnet hI hlaw
              go_wp2_with fail
              refine HPT2.out.mono ?_
              rintro e wc ⟨pv2, rfl, hr4, hb4⟩
              have HO4 := Lib.hid (HO.out.ext hb4)
              clear hr4 hb4 HPT2
              obtain ⟨er, her⟩ : ∃ er, (stPath (closeN n (butN s l l.length)) a b).2 = er := ⟨_, rfl⟩
              rw [her] at HLAW ⊢
              clear her
              rcases HLAW.out with ⟨h1, h2⟩ | ⟨h1, h2⟩
              · have t1 : (er == 0) = true := beq_iff_eq.2 h1
                have t2 : decide (s < 0) = true := decide_eq_true h2
                clear h1
                go_wp2
                go_roundg (l.length - (s + 1)).toNat
                case measure => omega
                case rel => exact ⟨s + 1, rfl, by go_num, by omega, by omega, HO4.out⟩
              · have t1 : (er == 0) = false := beq_eq_false_iff_ne.2 h1
                have t2 : decide (s < 0) = false := decide_eq_false (by omega)
                clear h1
                go_wp2
                go_roundg (l.length - (s + 1)).toNat
                case measure => omega
                case rel => exact ⟨s + 1, rfl, by go_num, by omega, by omega, HO4.out⟩
        · have HB4 := Lib.hid hO.below
          clear hO
          go_wp2
          go_ret
          exact ⟨rfl, HB4.out⟩
  · obtain ⟨rfl, hp⟩ := HF.out.bad h0
    have t1 : (je == 0) = false := beq_eq_false_iff_ne.2 h0
    have t2 : (je != 0) = true := by rw [bne_iff_ne]; exact h0
    have t3 : (pe == 0) = false := beq_eq_false_iff_ne.2 hp
    have t4 : (pe != 0) = true := by rw [bne_iff_ne]; exact hp
    clear h0 hp HF HO3
    simp only [List.length_nil]
    go_wp2
    go_ret
    exact ⟨rfl, HB3.out⟩
end Go.Proofs.Ytphiiflcpeploaa
