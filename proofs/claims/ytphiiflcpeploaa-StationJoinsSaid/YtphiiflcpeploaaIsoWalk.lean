/- StationIsolates: its walk answers true. -/
import Derived.Test.YtphiiflcpeploaaIsoLaw
import Derived.Test.YtphiiflcpeploaaSrch
namespace Go.Proofs.Ytphiiflcpeploaa
open Go.RowKit

theorem iso_names {x : ByteArray} : ∀ {l : List SwitchD} {s : ByteArray}, s ∈ isoFrom x l → ∃ i, ∃ hi : i < l.length, l[i].name = s
  | [], s, h => by simp [isoFrom] at h
  | y :: l, s, h => by
    rw [isoFrom] at h
    have more : s ∈ isoFrom x l → ∃ i, ∃ hi : i < (y :: l).length, (y :: l)[i].name = s := fun h => by
      obtain ⟨i, hi, e⟩ := iso_names h
      exact ⟨i + 1, by simp; omega, by simpa using e⟩
    split at h
    · rcases List.mem_cons.1 h with h | h
      · exact ⟨0, by simp, by simpa using h.symm⟩
      · exact more h
    · exact more h
theorem openN_ok {n : NetD} (h : NetOk n) (t : List ByteArray) : NetOk (openN n t) := by
  refine ⟨h.nodes, fun s hs => ?_, h.branches, h.gens, h.loads, h.stores⟩
  obtain ⟨s0, hs0, rfl⟩ := List.mem_map.1 hs
  have := openSw_name t s0
  rw [this.1, this.2.1, this.2.2]
  exact h.switches s0 hs0
theorem openN_parts (n : NetD) (t : List ByteArray) (v : NetV) : v.parts (openN n t) = #[.slice v.na n.nodes.length v.nc, .slice v.sa n.switches.length v.sc, .slice v.ba n.branches.length v.bc, .slice v.ga n.gens.length v.gc, .slice v.la n.loads.length v.lc, .slice v.ta n.stores.length v.tc] := by
  simp [NetV.parts, openN]
theorem iso_len (x : ByteArray) : ∀ (l : List SwitchD), (isoFrom x l).length ≤ l.length
  | [] => by simp [isoFrom]
  | y :: l => by
    rw [isoFrom]
    have := iso_len x l
    split
    · simp; omega
    · simp; omega
def slices6 (ds : Array Value) : Prop := ∀ (i : Nat) u, ds[i]? = some u → ∃ a n c, u = .slice a n c
theorem slices6_mk (a b c d e f : Option Addr) (n1 c1 n2 c2 n3 c3 n4 c4 n5 c5 n6 c6 : Nat) : slices6 #[.slice a n1 c1, .slice b n2 c2, .slice c n3 c3, .slice d n4 c4, .slice e n5 c5, .slice f n6 c6] := by
  intro i u hu
  have hi : i < 6 := by have := (Array.getElem?_eq_some_iff.1 hu).1; exact this
  have : i = 0 ∨ i = 1 ∨ i = 2 ∨ i = 3 ∨ i = 4 ∨ i = 5 := by omega
  rcases this with rfl | rfl | rfl | rfl | rfl | rfl <;> exact ⟨_, _, _, (Option.some.inj hu).symm⟩
theorem NetIn.put6 {w : World} {n : NetD} {v : NetV} (h : NetIn w n v) {b : Nat} {t : TypeId} {ds : Array Value} (hB : Blk w b t ds) (hd : slices6 ds) (x0 x1 x2 x3 x4 x5 : Value) : NetIn (Ytphiiflcpeploaa.set6 w b x0 x1 x2 x3 x4 x5) n v := by
  have hz := set6_size w b x0 x1 x2 x3 x4 x5
  exact ⟨by rw [hz]; exact h.nodes.set6 (nsS _) hB hd _ _ _ _ _ _, by rw [hz]; exact h.switches.set6 (nsSwitch _) hB hd _ _ _ _ _ _, by rw [hz]; exact h.branches.set6 (nsBranch _) hB hd _ _ _ _ _ _,
    by rw [hz]; exact h.gens.set6 (nsGen _) hB hd _ _ _ _ _ _, by rw [hz]; exact h.loads.set6 (nsLoad _) hB hd _ _ _ _ _ _, by rw [hz]; exact h.stores.set6 (nsStore _) hB hd _ _ _ _ _ _⟩
theorem bars_small (n : NetD) : (busbarsE n).1.length ≤ 1000 ∧ ∀ ys ∈ (busbarsE n).1, ys.length ≤ 1000 := by
  rw [busbarsE]
  split
  · rename_i hc
    have hv := vnet hc
    have hl := buses_len hv
    have hn := hv.hn
    have hfirst : ∀ k, k < (busesL n).length → 0 ≤ at_ (busesL n) k ∧ at_ (busesL n) k ≤ manyL ((busesL n).take k) := fun k hk => bus_first hv hk
    have h1 := bars_len (nodes := n.nodes) hfirst n.nodes.length (by omega)
    have h2 := many_range (l := (busesL n).take n.nodes.length) (N := 24) (by omega) (fun x hx => bus_small hv x (List.mem_of_mem_take hx))
    refine ⟨by simp only; omega, fun ys hys => ?_⟩
    obtain ⟨c, hc2, rfl⟩ := List.getElem_of_mem hys
    have h3 := bars_at (nodes := n.nodes) hfirst n.nodes.length (by omega) c (by simp only at hc2; omega)
    rw [List.getElem?_eq_getElem hc2] at h3
    injection h3 with h3
    rw [h3]
    unfold barAt
    rw [List.length_map]
    have := List.length_filter_le (fun i => decide ((busesL n).getD i 0 = (c : Int))) (List.range n.nodes.length)
    rw [List.length_range] at this
    omega
  · simp
structure IsoW (w : World) (n : NetD) (x : ByteArray) (l : List ByteArray) (LA : Option Addr) (j : Nat) (v : NetV) (wr : World) : Prop where
  box : Blk wr w.heap.size 47 #[.slice v.na n.nodes.length v.nc, .slice v.sa n.switches.length v.sc, .slice v.ba n.branches.length v.bc, .slice v.ga n.gens.length v.gc, .slice v.la n.loads.length v.lc, .slice v.ta n.stores.length v.tc]
  net : NetIn wr (openN n (l.take j)) v
  list : Reads wr wr.heap.size 1 LA l.length (l.map S)
  name : wr.cell? ⟨w.heap.size + 1, 0, none⟩ = some (.string x)
  below : Below w.heap.size w wr

set_option maxRecDepth 100000 in
set_option maxHeartbeats 4000000 in
theorem isolates_any (n : NetD) (v : NetV) (x : ByteArray) (w : World) (hN : Net w n v) (_hx : x.size ≤ maxLen) : Calls Try.prog 8 #[v.val n, .string x] w fun e w' => e = .returned (.bool true) ∧ Below w.heap.size w w' := by
  have hb0 := below2 w (Obj.cells (v.parts n) 47) (Obj.cells #[.string x] 9)
  have HN := Lib.hid hN
  have HB0 := Lib.hid hb0
  have HBX := Lib.hid ((Blk.new w 47 (v.parts n)).alloc (Obj.cells #[.string x] 9))
  have HNM : Hid (((w.alloc (Obj.cells (v.parts n) 47)).alloc (Obj.cells #[.string x] 9)).cell? ⟨w.heap.size + 1, 0, none⟩ = some (.string x)) := by
    have := (Blk.new (w.alloc (Obj.cells (v.parts n) 47)) 9 #[.string x]).cell 0
    rw [World.size_alloc w] at this
    exact this
  have HIS := Lib.hid (fun w hn => isolate_any n v x w hn)
  have HD := Lib.hid (show isoE n x = if stCheck n [x] = 0 then (isoFrom x n.switches, 0) else ([], stCheck n [x]) from rfl)
  have HOK := Lib.hid (@stCheck_ok n [x])
  clear hb0 hN
  unfold NetV.val NetV.parts at *
  go_enter Try.func8, Try.ntmps8
  go_wp2_with fail
  refine (stationFact_any _).mono ?_
  rintro e w1 ⟨rfl, b1⟩
  have HB1 := Lib.hid (HB0.out.trans (b1.mono HB0.out.size))
  have HBX1 := Lib.hid (HBX.out.below b1 HBX.out.lt)
  have hnm1 : w1.cell? ⟨w.heap.size + 1, 0, none⟩ = some (.string x) := (show Ext _ w1 from b1).cell HNM.out
  clear b1 HB0 HBX HNM
  have x0 := HBX1.out.cell 0
  have x1 := HBX1.out.cell 1
  have x2 := HBX1.out.cell 2
  have x3 := HBX1.out.cell 3
  have x4 := HBX1.out.cell 4
  have x5 := HBX1.out.cell 5
  have hl1 : w.heap.size < w1.heap.size := HBX1.out.lt
  have hl2 : w.heap.size + 1 < w1.heap.size := World.block_lt_of_cell? _ _ hnm1
  go_wp2_with fail
  refine (HIS.out w1 (HN.out.below HB1.out)).mono ?_
  rw [HD.out]
  obtain ⟨er, her⟩ : ∃ er, stCheck n [x] = er := ⟨_, rfl⟩
  rw [her] at HOK ⊢
  clear her HD HIS
  by_cases h0 : er = 0
  · subst h0
    rw [if_pos rfl]
    have HCK := Lib.hid (HOK.out rfl).1
    have HXM := Lib.hid ((HOK.out rfl).2 x (by simp))
    rintro e w2 ⟨lv, rfl, hr2, hb2⟩
    obtain ⟨LA, lc, rfl⟩ := hr2.val
    have HLN := Lib.hid (fun (s : ByteArray) (hs : s ∈ isoFrom x n.switches) => iso_names hs)
    have HLAW := Lib.hid (iso_law HCK.out HXM.out)
    have HV := Lib.hid (vnet HCK.out)
    have hll := iso_len x n.switches
    have hw := HV.out.hw
    simp only at hr2 ⊢
    generalize isoFrom x n.switches = l at *
    have HB2 := Lib.hid (HB1.out.trans (hb2.mono HB1.out.size))
    have HI : IsoW w n x l LA 0 v w2 := ⟨HBX1.out.below hb2 HBX1.out.lt, by rw [List.take_zero, openN_nil]; exact (HN.out.below HB2.out).net, hr2.reads, (show Ext w1 w2 from hb2).cell hnm1, HB2.out⟩
    clear hr2 hb2 HBX1 hnm1 x0 x1 x2 x3 x4 x5
    go_wp2
    go_loopg [27] (l.length - 0) (fun r iv wr => ∃ (j : Nat) (vj : NetV), r = l.length - j ∧ iv = I j ∧ j ≤ l.length ∧ IsoW w n x l LA j vj wr)
    case atStart => exact ⟨0, v, rfl, rfl, by omega, HI⟩
    case round =>
      clear HI
      obtain ⟨j, vj, rfl, rfl, hj, hG⟩ := hrel
      obtain ⟨wa, rfl⟩ : ∃ wa : World, wa = wr := ⟨_, rfl⟩
      have x0 := hG.box.cell 0
      have x1 := hG.box.cell 1
      have x2 := hG.box.cell 2
      have x3 := hG.box.cell 3
      have x4 := hG.box.cell 4
      have x5 := hG.box.cell 5
      have hla : w.heap.size < wa.heap.size := hG.box.lt
      have hnet : Net wa (openN n (l.take j)) vj := ⟨hG.net, openN_ok HN.out.ok _, by simpa [openN] using HN.out.l1, by simpa [openN] using HN.out.l2, by simpa [openN] using HN.out.l3, by simpa [openN] using HN.out.l4, by simpa [openN] using HN.out.l5, by simpa [openN] using HN.out.l6⟩
      by_cases hlt : j < l.length
      · obtain ⟨lb, loff, lu, hLA, hlb, hlu, hlc⟩ := hG.list.at1 hlt
        obtain ⟨s, hs⟩ : ∃ s, l[j] = s := ⟨_, rfl⟩
        obtain rfl : lu = S s := by simp [hlt, hs] at hlu; exact hlu.symm
        have hset := Set_any (openN n (l.take j)) vj s true wa hnet
        obtain ⟨i, hi, hin⟩ := HLN.out s (by rw [← hs]; exact List.getElem_mem hlt)
        have hstep := openN_step HCK.out (l.take j) hi
        rw [hin, ← hs, ← List.take_succ_eq_append_getElem hlt, hs] at hstep
        rw [hstep] at hset
        have hve : vj.val (openN n (l.take j)) = .agg #[.slice vj.na n.nodes.length vj.nc, .slice vj.sa n.switches.length vj.sc, .slice vj.ba n.branches.length vj.bc, .slice vj.ga n.gens.length vj.gc, .slice vj.la n.loads.length vj.lc, .slice vj.ta n.stores.length vj.tc] := by rw [NetV.val, openN_parts]
        rw [hve] at hset
        have HSET := Lib.hid hset
        have HG := Lib.hid hG
        subst hLA
        clear hset hstep hve hnet hlu hs hin hi hG
        go_wp2_with fail
        refine HSET.out.mono ?_
        rintro e w3 ⟨v2, rfl, hin3, hb3⟩
        have hve2 : v2.val (openN n (l.take (j + 1))) = .agg #[.slice v2.na n.nodes.length v2.nc, .slice v2.sa n.switches.length v2.sc, .slice v2.ba n.branches.length v2.bc, .slice v2.ga n.gens.length v2.gc, .slice v2.la n.loads.length v2.lc, .slice v2.ta n.stores.length v2.tc] := by rw [NetV.val, openN_parts]
        simp only at hin3 ⊢
        rw [hve2]
        have hB3 := HG.out.box.below hb3 HG.out.box.lt
        have f0 := hB3.frozen 0
        have f1 := hB3.frozen 1
        have f2 := hB3.frozen 2
        have f3 := hB3.frozen 3
        have f4 := hB3.frozen 4
        have f5 := hB3.frozen 5
        have y0 := hB3.cell 0
        have y1 := hB3.cell 1
        have y2 := hB3.cell 2
        have y3 := hB3.cell 3
        have y4 := hB3.cell 4
        have y5 := hB3.cell 5
        have hl3 : w.heap.size < w3.heap.size := hB3.lt
        have hz3 := hb3.size
        have HB3 := Lib.hid hB3
        have HIN3 := Lib.hid hin3
        have HE3 : Hid (Ext wa w3) := hb3
        have g1 : ¬ w.heap.size = w3.heap.size := by omega
        have g2 : ¬ w3.heap.size = w.heap.size := by omega
        clear hin3 hb3 hB3 hve2 HSET x0 x1 x2 x3 x4 x5
        have hal := (Below.refl _ (set6 w3 w.heap.size (.slice v2.na n.nodes.length v2.nc) (.slice v2.sa n.switches.length v2.sc) (.slice v2.ba n.branches.length v2.bc) (.slice v2.ga n.gens.length v2.gc) (.slice v2.la n.loads.length v2.lc) (.slice v2.ta n.stores.length v2.tc))).alloc (Nat.le_refl _) (Obj.cells #[.slice v2.na n.nodes.length v2.nc, .slice v2.sa n.switches.length v2.sc, .slice v2.ba n.branches.length v2.bc, .slice v2.ga n.gens.length v2.gc, .slice v2.la n.loads.length v2.lc, .slice v2.ta n.stores.length v2.tc] 47)
        have HNEW : Hid (IsoW w n x l (some ⟨lb, loff, none⟩) (j + 1) v2 ((set6 w3 w.heap.size (.slice v2.na n.nodes.length v2.nc) (.slice v2.sa n.switches.length v2.sc) (.slice v2.ba n.branches.length v2.bc) (.slice v2.ga n.gens.length v2.gc) (.slice v2.la n.loads.length v2.lc) (.slice v2.ta n.stores.length v2.tc)).alloc (Obj.cells #[.slice v2.na n.nodes.length v2.nc, .slice v2.sa n.switches.length v2.sc, .slice v2.ba n.branches.length v2.bc, .slice v2.ga n.gens.length v2.gc, .slice v2.la n.loads.length v2.lc, .slice v2.ta n.stores.length v2.tc] 47))) := by
          refine ⟨(set6_blk HB3.out rfl _ _ _ _ _ _).alloc _, (HIN3.out.put6 HB3.out (slices6_mk _ _ _ _ _ _ _ _ _ _ _ _ _ _ _ _ _ _) _ _ _ _ _ _).below hal, ?_, ?_, ?_⟩
          · have h1 := (HG.out.list.ext HE3.out).set6 (nsS _) HB3.out (slices6_mk _ _ _ _ _ _ _ _ _ _ _ _ _ _ _ _ _ _) (.slice v2.na n.nodes.length v2.nc) (.slice v2.sa n.switches.length v2.sc) (.slice v2.ba n.branches.length v2.bc) (.slice v2.ga n.gens.length v2.gc) (.slice v2.la n.loads.length v2.lc) (.slice v2.ta n.stores.length v2.tc)
            exact (h1.below (hal.mono (by rw [set6_size]; exact Nat.le_refl _))).more (by simp [set6_size])
          · have h1 := HE3.out.cell HG.out.name
            have h2 := set6_heap w3 w.heap.size (.slice v2.na n.nodes.length v2.nc) (.slice v2.sa n.switches.length v2.sc) (.slice v2.ba n.branches.length v2.bc) (.slice v2.ga n.gens.length v2.gc) (.slice v2.la n.loads.length v2.lc) (.slice v2.ta n.stores.length v2.tc) (w.heap.size + 1) (by omega)
            have h3 : (set6 w3 w.heap.size (.slice v2.na n.nodes.length v2.nc) (.slice v2.sa n.switches.length v2.sc) (.slice v2.ba n.branches.length v2.bc) (.slice v2.ga n.gens.length v2.gc) (.slice v2.la n.loads.length v2.lc) (.slice v2.ta n.stores.length v2.tc)).cell? ⟨w.heap.size + 1, 0, none⟩ = some (.string x) := by
              simp only [World.cell?] at h1 ⊢
              rw [h2]; exact h1
            exact (show Ext _ _ from hal).cell h3
          · exact ((Ext.trans (show Ext w wa from HG.out.below) HE3.out).trans' (by exact Below.refl _ _) |> fun h => (Below.trans h (set6_below w3 w.heap.size w.heap.size _ _ _ _ _ _ (Nat.le_refl _)))).alloc (by rw [set6_size]; omega) _
        clear hal
        go_wp2
        rw [← set6_def]
        go_roundg (l.length - (j + 1))
        case measure => omega
        case rel => exact ⟨j + 1, v2, rfl, by go_num, by omega, HNEW.out⟩
      · have htk : l.take j = l := List.take_of_length_le (by omega)
        rw [htk] at hnet
        have HBB := busbars_any (openN n l) vj wa hnet
        have hve : vj.val (openN n l) = .agg #[.slice vj.na n.nodes.length vj.nc, .slice vj.sa n.switches.length vj.sc, .slice vj.ba n.branches.length vj.bc, .slice vj.ga n.gens.length vj.gc, .slice vj.la n.loads.length vj.lc, .slice vj.ta n.stores.length vj.tc] := by rw [NetV.val, openN_parts]
        rw [hve] at HBB
        have HBB2 := Lib.hid HBB
        have HG := Lib.hid hG
        have HSM := Lib.hid (bars_small (openN n l))
        clear HBB hve hnet htk hG
        go_wp2_with fail
        refine HBB2.out.mono ?_
        rintro e w3 ⟨bv, bvs, rfl, st3, hb3⟩
        obtain ⟨hmem, he0⟩ := HLAW.out
        obtain ⟨hs1, hs2⟩ := HSM.out
        generalize busbarsE (openN n l) = bb at *
        obtain ⟨bl, be⟩ := bb
        simp only at st3 hmem he0 hs1 hs2 ⊢
        subst he0
        have hnm3 := (show Ext wa w3 from hb3).cell HG.out.name
        have HHAS := Lib.hid (has29 bl bvs x bv _ (w.heap.size + 1) w3 st3 hnm3 hs1 hs2 hmem)
        have HB3 := Lib.hid (HG.out.below.trans (hb3.mono HG.out.below.size))
        obtain ⟨bA, bcc, rfl⟩ := st3.outer.val
        clear st3 hb3 hmem hs1 hs2 HBB2 HLAW
        go_wp2_with fail
        refine HHAS.out.mono ?_
        rintro e w4 ⟨rfl, hb4⟩
        have HB4 := Lib.hid (HB3.out.trans (hb4.mono HB3.out.size))
        clear hb4 HHAS
        go_wp2
        go_ret
        exact ⟨rfl, HB4.out⟩
  · rw [if_neg h0]
    have t1 : (er == 0) = false := beq_eq_false_iff_ne.2 h0
    have t2 : (er != 0) = true := by rw [bne_iff_ne]; exact h0
    clear h0 HOK
    rintro e w2 ⟨lv, rfl, hr2, hb2⟩
    obtain ⟨LA, lc, rfl⟩ := hr2.val
    have HB2 := Lib.hid (HB1.out.trans (hb2.mono HB1.out.size))
    clear hr2 hb2
    simp only [List.length_nil]
    go_wp2
    go_ret
    exact ⟨rfl, HB2.out⟩
end Go.Proofs.Ytphiiflcpeploaa
