/- netmodel.Check. -/
import Derived.Test.YtglbelmljdgaoaaGreatDoorEnds
namespace Go.Proofs.YtglbelmljdgaoaaGreatDoor
open Go.RowKit

def nodeItem (s : ByteArray) : ByteArray × List ByteArray × Bool := (s, [], true)
def switchItem (s : SwitchD) : ByteArray × List ByteArray × Bool := (s.name, [s.a, s.b], true)
def branchItem (b : BranchD) : ByteArray × List ByteArray × Bool := (b.name, [b.src, b.dst], branchOk b)

/-- the limits of a network -/
def smallN (n : NetD) : Bool := !(decide (24 < n.nodes.length) || decide (32 < n.switches.length) || decide (24 < n.branches.length) || decide (10 < n.gens.length) || decide (12 < n.loads.length) || decide (4 < n.stores.length))
theorem smallN_iff (n : NetD) : smallN n = true ↔ ¬ (24 < n.nodes.length ∨ 32 < n.switches.length ∨ 24 < n.branches.length ∨ 10 < n.gens.length ∨ 12 < n.loads.length ∨ 4 < n.stores.length) := by
  simp [smallN]; omega
theorem checkN_large (n : NetD) (h : smallN n = false) : checkN n = 2 := by
  rw [checkN, if_pos]
  have := mt (smallN_iff n).2 (by simp [h])
  exact Classical.not_not.1 this

set_option maxRecDepth 100000 in
set_option maxHeartbeats 2000000 in
theorem check_large (n : NetD) (v : NetV) (w : World) (hl : smallN n = false) (h1 : n.nodes.length ≤ 9223372036854775807) (h2 : n.switches.length ≤ 9223372036854775807) (h3 : n.branches.length ≤ 9223372036854775807) (h4 : n.gens.length ≤ 9223372036854775807) (h5 : n.loads.length ≤ 9223372036854775807) (h6 : n.stores.length ≤ 9223372036854775807) :
    Calls Tryz.prog 8 #[v.val n] w fun e w' => e = .returned (I (checkN n)) ∧ Below w.heap.size w w' := by
  have HX := Lib.hid (checkN_large n hl)
  unfold NetV.val NetV.parts
  have HL := Lib.hid hl
  clear hl
  by_cases g1 : 24 < n.nodes.length
  · go_enter Tryz.func8, Tryz.ntmps8
    go_wp2
    go_ret
    exact ⟨ret_int (by rw [HX.out]), (Below.refl _ _).alloc (Nat.le_refl _) _⟩
  · by_cases g2 : 32 < n.switches.length
    · go_enter Tryz.func8, Tryz.ntmps8
      go_wp2
      go_ret
      exact ⟨ret_int (by rw [HX.out]), (Below.refl _ _).alloc (Nat.le_refl _) _⟩
    · by_cases g3 : 24 < n.branches.length
      · go_enter Tryz.func8, Tryz.ntmps8
        go_wp2
        go_ret
        exact ⟨ret_int (by rw [HX.out]), (Below.refl _ _).alloc (Nat.le_refl _) _⟩
      · by_cases g4 : 10 < n.gens.length
        · go_enter Tryz.func8, Tryz.ntmps8
          go_wp2
          go_ret
          exact ⟨ret_int (by rw [HX.out]), (Below.refl _ _).alloc (Nat.le_refl _) _⟩
        · by_cases g5 : 12 < n.loads.length
          · go_enter Tryz.func8, Tryz.ntmps8
            go_wp2
            go_ret
            exact ⟨ret_int (by rw [HX.out]), (Below.refl _ _).alloc (Nat.le_refl _) _⟩
          · by_cases g6 : 4 < n.stores.length
            · go_enter Tryz.func8, Tryz.ntmps8
              go_wp2
              go_ret
              exact ⟨ret_int (by rw [HX.out]), (Below.refl _ _).alloc (Nat.le_refl _) _⟩
            · have := (smallN_iff n).2 (by omega)
              rw [HL.out] at this
              cases this

theorem below_grown {w w' : World} (h : w.grownBy w' (some (w.heap.size + 1))) : Below w.heap.size w w' := ⟨h.os, h.tape, h.output, h.size, fun i hi => h.block i hi (by simp; omega)⟩

structure CheckIn (w : World) (n : NetD) (v : NetV) : Prop where
  net : NetIn w n v
  ok : NetOk n
  hn : n.nodes.length ≤ 24
  hw : n.switches.length ≤ 32
  hb : n.branches.length ≤ 24
  hg : n.gens.length ≤ 10
  hl : n.loads.length ≤ 12
  hs : n.stores.length ≤ 4

set_option maxRecDepth 100000 in
set_option maxHeartbeats 2000000 in
theorem check_small (n : NetD) (v : NetV) (w : World) (hE : CheckIn w n v) : Calls Tryz.prog 8 #[v.val n] w fun e w' => e = .returned (I (checkN n)) ∧ Below w.heap.size w w' := by
  have hbn := hE.hn
  have hbw := hE.hw
  have hbb := hE.hb
  have hbg := hE.hg
  have hbl := hE.hl
  have hbs := hE.hs
  have HOK := Lib.hid hE.ok
  have HNET := Lib.hid hE.net
  have HRES : Hid (checkN n = devs n.nodes n.items []) := by rw [checkN, if_neg (by omega)]; exact rfl
  clear hE
  unfold NetV.val NetV.parts
  obtain ⟨na, nc, sa, sc, ba, bc, ga, gc, la, lc, ta, tc⟩ := v
  simp only
  obtain ⟨nodes, sws, brs, gens, loads, stores⟩ := n
  simp only at hbn hbw hbb hbg hbl hbs HOK HRES ⊢
  have hmm := @run_makeMap Tryz.prog
  have t1 : decide (24 < (nodes.length : Int)) = false := by simp; omega
  have t2 : decide (32 < (sws.length : Int)) = false := by simp; omega
  have t3 : decide (24 < (brs.length : Int)) = false := by simp; omega
  have t4 : decide (10 < (gens.length : Int)) = false := by simp; omega
  have t5 : decide (12 < (loads.length : Int)) = false := by simp; omega
  have t6 : decide (4 < (stores.length : Int)) = false := by simp; omega
  go_enter Tryz.func8, Tryz.ntmps8
  go_wp2
  clear t1 t2 t3 t4 t5 t6 hmm
  obtain ⟨nb, hnb⟩ : ∃ nb, nb = #[Value.slice na nodes.length nc, Value.slice sa sws.length sc, Value.slice ba brs.length bc, Value.slice ga gens.length gc, Value.slice la loads.length lc, Value.slice ta stores.length tc] := ⟨_, rfl⟩
  rw [← hnb]
  have hext : Below w.heap.size w (((w.alloc (Obj.cells nb 29)).alloc (Obj.map #[] 0)).alloc (Obj.cells #[Value.map (some (w.heap.size + 1)), Value.slice na nodes.length nc] 71)) :=
    (((Below.refl _ w).alloc (Nat.le_refl _) _).alloc (by simp) _).alloc (by simp; omega) _
  have HIN := Lib.hid (HNET.out.below hext)
  have hsm0 := SeenMap.made (w.alloc (Obj.cells nb 29))
  simp only [World.size_alloc] at hsm0
  have HSM := Lib.hid (hsm0.ext ((Below.refl _ _).alloc (Nat.le_refl _) (Obj.cells #[Value.map (some (w.heap.size + 1)), Value.slice na nodes.length nc] 71)))
  have HG0 := Lib.hid (grown_of_below hext (some (w.heap.size + 1)))
  have HB1 := Lib.hid (((Blk.new w 29 nb).alloc (Obj.map #[] 0)).alloc (Obj.cells #[Value.map (some (w.heap.size + 1)), Value.slice na nodes.length nc] 71))
  have HB2 := Lib.hid (Blk.new ((w.alloc (Obj.cells nb 29)).alloc (Obj.map #[] 0)) 71 #[Value.map (some (w.heap.size + 1)), Value.slice na nodes.length nc])
  generalize ((w.alloc (Obj.cells nb 29)).alloc (Obj.map #[] 0)).alloc (Obj.cells #[Value.map (some (w.heap.size + 1)), Value.slice na nodes.length nc] 71) = wb at *
  subst hnb
  clear hext hsm0 HNET
  simp only [World.size_alloc] at HB2
  have HG : Going wb (w.heap.size + 1) nodes (NetD.items ⟨nodes, sws, brs, gens, loads, stores⟩) (devs nodes (NetD.items ⟨nodes, sws, brs, gens, loads, stores⟩) []) [] wb :=
    ⟨HSM.out, World.grownBy.refl _ _, by simp [NetD.items]; omega, rfl⟩
  obtain ⟨res, hres⟩ : ∃ res, devs nodes (NetD.items ⟨nodes, sws, brs, gens, loads, stores⟩) [] = res := ⟨_, rfl⟩
  rw [hres] at HG HRES
  clear hres
  go_loopg [55] (nodes.length - 0) (fun r u wr => ∃ (j : Nat) (ss : List ByteArray), r = nodes.length - j ∧ u = I j ∧ j ≤ nodes.length ∧ Going wb (w.heap.size + 1) nodes ((nodes.drop j).map nodeItem ++ (sws.map switchItem ++ (brs.map branchItem ++ ((gens.map genItem ++ (loads.map loadItem ++ stores.map storeItem)))))) res ss wr)
  case atStart => exact ⟨0, _, rfl, rfl, by omega, HG⟩
  case round =>
    clear HG
    obtain ⟨j, ss, rfl, rfl, hj, hG⟩ := hrel
    obtain ⟨wa, rfl⟩ : ∃ wa : World, wa = wr := ⟨_, rfl⟩
    have hIN := HIN.out.seen HSM.out hG.grown
    have hb1 : wa.cell? ⟨w.heap.size + 1 + 1, 0, none⟩ = some (.map (some (w.heap.size + 1))) := grown_cell HSM.out hG.grown (by rw [HB2.out.cell]; rfl)
    have hb2 : wa.cell? ⟨w.heap.size + 1 + 1, 1, none⟩ = some (.slice na nodes.length nc) := grown_cell HSM.out hG.grown (by rw [HB2.out.cell]; rfl)
    have hn0 : wa.cell? ⟨w.heap.size, 1, none⟩ = some (.slice sa sws.length sc) := grown_cell HSM.out hG.grown (by rw [HB1.out.cell]; rfl)
    have hlt00 : w.heap.size < wa.heap.size := Nat.lt_of_lt_of_le HB1.out.lt hG.grown.size
    have hlt0 : w.heap.size + 1 + 1 < wa.heap.size := Nat.lt_of_lt_of_le HB2.out.lt hG.grown.size
    by_cases hlt : j < nodes.length
    · obtain ⟨b, off, u, rfl, _, hu, hcu⟩ := hIN.nodes.at1 hlt
      obtain ⟨nm, hnm⟩ : ∃ nm, nodes[j] = nm := ⟨_, rfl⟩
      obtain rfl : u = S nm := by simp [hlt, hnm] at hu; exact hu.symm
      have hsz1 := HOK.out.nodes nodes[j] (List.getElem_mem hlt)
      simp only [hnm] at hsz1
      have hrest : (nodes.drop j).map nodeItem ++ (sws.map switchItem ++ (brs.map branchItem ++ ((gens.map genItem ++ (loads.map loadItem ++ stores.map storeItem))))) = nodeItem nodes[j] :: ((nodes.drop (j + 1)).map nodeItem ++ (sws.map switchItem ++ (brs.map branchItem ++ ((gens.map genItem ++ (loads.map loadItem ++ stores.map storeItem)))))) := by
        rw [List.drop_eq_getElem_cons hlt]; rfl
      rw [hrest, hnm] at hG
      clear hrest hnm hu hn0
      have HN := Lib.hid hIN.nodes
      clear hIN
      have HCALL := Lib.hid (dev_step nodes ss nm [] (w.heap.size + 1) (some ⟨b, off, none⟩) none nc 0 wa wa hG.map (Below.refl _ _) hsz1 HN.out Reads.nil hbn (by simp) (by have := hG.few; omega))
      have HR := Lib.hid hG.rest
      have HG := Lib.hid hG
      clear hG
      go_wp2_with fail
      refine HCALL.out.mono ?_
      rintro e w2 ⟨rfl, hm2, hg2, hg3⟩
      have HM2 := Lib.hid hm2
      have HG2 := Lib.hid hg2
      clear hm2 hg2 hg3 HCALL
      have HGF := Lib.hid (grown_trans (grown_trans HG0.out HG.out.grown) HG2.out)
      obtain ⟨er, her⟩ : ∃ er, (deviceL nodes ss nm []).1 = er := ⟨_, rfl⟩
      rw [her]
      have HER := Lib.hid her
      clear her
      by_cases h0 : er = 0
      · subst h0
        have HX := Lib.hid (HG.out.step' HER.out rfl HM2.out HG2.out)
        go_wp2
        go_roundg (nodes.length - (j + 1))
        case measure => omega
        case rel => exact ⟨j + 1, _, rfl, by go_num, by omega, HX.out⟩
      · skip
        have t1 : (er == 0) = false := beq_eq_false_iff_ne.2 h0
        have t2 : (er != 0) = true := by rw [bne_iff_ne]; exact h0
        have HX := Lib.hid (show res = er by rw [← HR.out, nodeItem, devs, if_neg (by rw [HER.out]; exact h0), HER.out])
        clear h0
        go_wp2
        go_ret
        exact ⟨ret_int (by rw [HRES.out, HX.out]), below_grown HGF.out⟩
    · have hdr : nodes.drop j = [] := List.drop_of_length_le (by omega)
      rw [hdr] at hG
      clear hdr
      have HG : Going wb (w.heap.size + 1) nodes (sws.map switchItem ++ (brs.map branchItem ++ ((gens.map genItem ++ (loads.map loadItem ++ stores.map storeItem))))) res ss wa := hG
      clear hG hIN hb1 hb2
      go_wp2
      go_loopg [69] (sws.length - 0) (fun r u wr => ∃ (j : Nat) (ss : List ByteArray), r = sws.length - j ∧ u = I j ∧ j ≤ sws.length ∧ Going wb (w.heap.size + 1) nodes ((sws.drop j).map switchItem ++ (brs.map branchItem ++ ((gens.map genItem ++ (loads.map loadItem ++ stores.map storeItem))))) res ss wr)
      case atStart => exact ⟨0, _, rfl, rfl, by omega, HG⟩
      case round =>
        clear HG
        obtain ⟨j, ss, rfl, rfl, hj, hG⟩ := hrel
        obtain ⟨wa, rfl⟩ : ∃ wa : World, wa = wr := ⟨_, rfl⟩
        have hIN := HIN.out.seen HSM.out hG.grown
        have hb1 : wa.cell? ⟨w.heap.size + 1 + 1, 0, none⟩ = some (.map (some (w.heap.size + 1))) := grown_cell HSM.out hG.grown (by rw [HB2.out.cell]; rfl)
        have hb2 : wa.cell? ⟨w.heap.size + 1 + 1, 1, none⟩ = some (.slice na nodes.length nc) := grown_cell HSM.out hG.grown (by rw [HB2.out.cell]; rfl)
        have hn0 : wa.cell? ⟨w.heap.size, 2, none⟩ = some (.slice ba brs.length bc) := grown_cell HSM.out hG.grown (by rw [HB1.out.cell]; rfl)
        have hlt00 : w.heap.size < wa.heap.size := Nat.lt_of_lt_of_le HB1.out.lt hG.grown.size
        have hlt0 : w.heap.size + 1 + 1 < wa.heap.size := Nat.lt_of_lt_of_le HB2.out.lt hG.grown.size
        by_cases hlt : j < sws.length
        · obtain ⟨b, off, rfl, hbl', hcs⟩ := reads_by (f := SwitchD.cells) (sz := 5) (fun _ => rfl) (by omega) hIN.switches hlt
          have hsz := HOK.out.switches sws[j] (List.getElem_mem hlt)
          have hrest : (sws.drop j).map switchItem ++ (brs.map branchItem ++ ((gens.map genItem ++ (loads.map loadItem ++ stores.map storeItem)))) = switchItem sws[j] :: ((sws.drop (j + 1)).map switchItem ++ (brs.map branchItem ++ ((gens.map genItem ++ (loads.map loadItem ++ stores.map storeItem))))) := by
            rw [List.drop_eq_getElem_cons hlt]; rfl
          rw [hrest] at hG
          clear hrest
          obtain ⟨g, hg⟩ : ∃ g, sws[j] = g := ⟨_, rfl⟩
          rw [hg] at hcs hsz hG
          clear hg
          obtain ⟨nm, xa, xb, br, op⟩ := g
          have c0 := hcs 0 _ rfl
          have c1 := hcs 1 _ rfl
          have c2 := hcs 2 _ rfl
          have c3 := hcs 3 _ rfl
          have c4 := hcs 4 _ rfl
          simp only [← Nat.add_assoc, Nat.add_zero] at c0 c1 c2 c3 c4
          obtain ⟨hsz1, _, _⟩ := hsz
          have HN := Lib.hid hIN.nodes
          clear hcs hIN hn0
          have HCALL := Lib.hid (dev_step nodes ss nm [xa, xb] (w.heap.size + 1) na (some ⟨wa.heap.size + 1, 0, none⟩) nc 2 wa _ hG.map (below2 wa (.cells #[.string nm, .string xa, .string xb, .bool br, .bool op] 39) (.cells #[.string xa, .string xb] 9)) hsz1 HN.out (reads_box2 wa _ 9 xa xb) hbn (by simp) (by have := hG.few; omega))
          have HBOX := Lib.hid ((Blk.new wa 39 #[.string nm, .string xa, .string xb, .bool br, .bool op]).alloc (.cells #[.string xa, .string xb] 9))
          have HSM1 := Lib.hid (hG.map.ext (below2 wa (.cells #[.string nm, .string xa, .string xb, .bool br, .bool op] 39) (.cells #[.string xa, .string xb] 9)))
          have HR := Lib.hid hG.rest
          have HG := Lib.hid hG
          clear hG
          go_wp2_with fail
          refine HCALL.out.mono ?_
          rintro e w2 ⟨rfl, hm2, hg2, hg3⟩
          have HM2 := Lib.hid hm2
          have HG2 := Lib.hid hg2
          clear hm2 hg2 hg3 HCALL
          have HGF := Lib.hid (grown_trans (grown_trans HG0.out HG.out.grown) HG2.out)
          obtain ⟨er, her⟩ : ∃ er, (deviceL nodes ss nm [xa, xb]).1 = er := ⟨_, rfl⟩
          rw [her]
          have HER := Lib.hid her
          clear her
          by_cases h0 : er = 0
          · subst h0
            have HX := Lib.hid (HG.out.step' HER.out rfl HM2.out HG2.out)
            go_wp2
            go_roundg (sws.length - (j + 1))
            case measure => omega
            case rel => exact ⟨j + 1, _, rfl, by go_num, by omega, HX.out⟩
          · skip
            have t1 : (er == 0) = false := beq_eq_false_iff_ne.2 h0
            have t2 : (er != 0) = true := by rw [bne_iff_ne]; exact h0
            have HX := Lib.hid (show res = er by rw [← HR.out, switchItem, devs, if_neg (by rw [HER.out]; exact h0), HER.out])
            clear h0
            go_wp2
            go_ret
            exact ⟨ret_int (by rw [HRES.out, HX.out]), below_grown HGF.out⟩
        · have hdr : sws.drop j = [] := List.drop_of_length_le (by omega)
          rw [hdr] at hG
          clear hdr
          have HG : Going wb (w.heap.size + 1) nodes (brs.map branchItem ++ ((gens.map genItem ++ (loads.map loadItem ++ stores.map storeItem)))) res ss wa := hG
          clear hG hIN hb1 hb2
          go_wp2
          go_loopg [89] (brs.length - 0) (fun r u wr => ∃ (j : Nat) (ss : List ByteArray), r = brs.length - j ∧ u = I j ∧ j ≤ brs.length ∧ Going wb (w.heap.size + 1) nodes ((brs.drop j).map branchItem ++ ((gens.map genItem ++ (loads.map loadItem ++ stores.map storeItem)))) res ss wr)
          case atStart => exact ⟨0, _, rfl, rfl, by omega, HG⟩
          case round =>
            clear HG
            obtain ⟨j, ss, rfl, rfl, hj, hG⟩ := hrel
            obtain ⟨wa, rfl⟩ : ∃ wa : World, wa = wr := ⟨_, rfl⟩
            have hIN := HIN.out.seen HSM.out hG.grown
            have hb1 : wa.cell? ⟨w.heap.size + 1 + 1, 0, none⟩ = some (.map (some (w.heap.size + 1))) := grown_cell HSM.out hG.grown (by rw [HB2.out.cell]; rfl)
            have hb2 : wa.cell? ⟨w.heap.size + 1 + 1, 1, none⟩ = some (.slice na nodes.length nc) := grown_cell HSM.out hG.grown (by rw [HB2.out.cell]; rfl)
            have hn0 : wa.cell? ⟨w.heap.size, 0, none⟩ = some (.slice na nodes.length nc) := grown_cell HSM.out hG.grown (by rw [HB1.out.cell]; rfl)
            have hn1 : wa.cell? ⟨w.heap.size, 1, none⟩ = some (.slice sa sws.length sc) := grown_cell HSM.out hG.grown (by rw [HB1.out.cell]; rfl)
            have hn2 : wa.cell? ⟨w.heap.size, 2, none⟩ = some (.slice ba brs.length bc) := grown_cell HSM.out hG.grown (by rw [HB1.out.cell]; rfl)
            have hn3 : wa.cell? ⟨w.heap.size, 3, none⟩ = some (.slice ga gens.length gc) := grown_cell HSM.out hG.grown (by rw [HB1.out.cell]; rfl)
            have hn4 : wa.cell? ⟨w.heap.size, 4, none⟩ = some (.slice la loads.length lc) := grown_cell HSM.out hG.grown (by rw [HB1.out.cell]; rfl)
            have hn5 : wa.cell? ⟨w.heap.size, 5, none⟩ = some (.slice ta stores.length tc) := grown_cell HSM.out hG.grown (by rw [HB1.out.cell]; rfl)
            have hlt00 : w.heap.size < wa.heap.size := Nat.lt_of_lt_of_le HB1.out.lt hG.grown.size
            have hlt0 : w.heap.size + 1 + 1 < wa.heap.size := Nat.lt_of_lt_of_le HB2.out.lt hG.grown.size
            by_cases hlt : j < brs.length
            · obtain ⟨b, off, rfl, hbl', hcs⟩ := reads_by (f := BranchD.cells) (sz := 9) (fun _ => rfl) (by omega) hIN.branches hlt
              have hsz := HOK.out.branches brs[j] (List.getElem_mem hlt)
              have hrest : (brs.drop j).map branchItem ++ ((gens.map genItem ++ (loads.map loadItem ++ stores.map storeItem))) = branchItem brs[j] :: ((brs.drop (j + 1)).map branchItem ++ ((gens.map genItem ++ (loads.map loadItem ++ stores.map storeItem)))) := by
                rw [List.drop_eq_getElem_cons hlt]; rfl
              rw [hrest] at hG
              clear hrest
              obtain ⟨g, hg⟩ : ∃ g, brs[j] = g := ⟨_, rfl⟩
              rw [hg] at hcs hsz hG
              clear hg
              obtain ⟨nm, xa, xb, fx, ft, fs, fl, fo, fh⟩ := g
              have c0 := hcs 0 _ rfl
              have c1 := hcs 1 _ rfl
              have c2 := hcs 2 _ rfl
              have c3 := hcs 3 _ rfl
              have c4 := hcs 4 _ rfl
              have c5 := hcs 5 _ rfl
              have c6 := hcs 6 _ rfl
              have c7 := hcs 7 _ rfl
              have c8 := hcs 8 _ rfl
              simp only [← Nat.add_assoc, Nat.add_zero] at c0 c1 c2 c3 c4 c5 c6 c7 c8
              obtain ⟨hsz1, _, _⟩ := hsz
              have HN := Lib.hid hIN.nodes
              clear hcs hIN hn0 hn1 hn2 hn3 hn4 hn5
              have HCALL := Lib.hid (dev_step nodes ss nm [xa, xb] (w.heap.size + 1) na (some ⟨wa.heap.size + 1, 0, none⟩) nc 2 wa _ hG.map (below2 wa (.cells #[.string nm, .string xa, .string xb, I fx, I ft, I fs, I fl, I fo, I fh] 48) (.cells #[.string xa, .string xb] 9)) hsz1 HN.out (reads_box2 wa _ 9 xa xb) hbn (by simp) (by have := hG.few; omega))
              have HBOX := Lib.hid ((Blk.new wa 48 #[.string nm, .string xa, .string xb, I fx, I ft, I fs, I fl, I fo, I fh]).alloc (.cells #[.string xa, .string xb] 9))
              have HSM1 := Lib.hid (hG.map.ext (below2 wa (.cells #[.string nm, .string xa, .string xb, I fx, I ft, I fs, I fl, I fo, I fh] 48) (.cells #[.string xa, .string xb] 9)))
              have HR := Lib.hid hG.rest
              have HG := Lib.hid hG
              clear hG
              go_wp2_with fail
              refine HCALL.out.mono ?_
              rintro e w2 ⟨rfl, hm2, hg2, hg3⟩
              have HB3 := HBOX.out.grown HSM1.out hg3
              have d0 := HB3.cell 0
              have d1 := HB3.cell 1
              have d2 := HB3.cell 2
              have d3 := HB3.cell 3
              have d4 := HB3.cell 4
              have d5 := HB3.cell 5
              have d6 := HB3.cell 6
              have d7 := HB3.cell 7
              have d8 := HB3.cell 8
              have HM2 := Lib.hid hm2
              have HG2 := Lib.hid hg2
              clear hm2 hg2 hg3 HCALL
              have HGF := Lib.hid (grown_trans (grown_trans HG0.out HG.out.grown) HG2.out)
              obtain ⟨er, her⟩ : ∃ er, (deviceL nodes ss nm [xa, xb]).1 = er := ⟨_, rfl⟩
              rw [her]
              have HER := Lib.hid her
              clear her
              by_cases h0 : er = 0
              · subst h0
                have HBR := Lib.hid (branch_any ⟨nm, xa, xb, fx, ft, fs, fl, fo, fh⟩ w2)
                go_wp2_with fail
                refine HBR.out.mono ?_
                rintro e w3 ⟨rfl, hb3⟩
                have HM3 := Lib.hid (HM2.out.ext hb3)
                have HG3 := Lib.hid (grown_trans HG2.out (grown_of_below hb3 _))
                have HGF3 := Lib.hid (grown_trans HGF.out (grown_of_below hb3 _))
                clear hb3 HBR
                cases hok : branchOk ⟨nm, xa, xb, fx, ft, fs, fl, fo, fh⟩
                · have HX := Lib.hid (show res = 4 by rw [← HR.out, branchItem, devs, if_pos HER.out, if_neg (by simp [hok])])
                  rw [branchE, if_neg (by simp [hok])]
                  clear hok
                  go_wp2
                  go_ret
                  exact ⟨ret_int (by rw [HRES.out, HX.out]), below_grown HGF3.out⟩
                · have HX := Lib.hid (HG.out.step' HER.out hok HM3.out HG3.out)
                  rw [branchE, if_pos hok]
                  clear hok
                  go_wp2
                  go_roundg (brs.length - (j + 1))
                  case measure => omega
                  case rel => exact ⟨j + 1, _, rfl, by go_num, by omega, HX.out⟩
              · skip
                have t1 : (er == 0) = false := beq_eq_false_iff_ne.2 h0
                have t2 : (er != 0) = true := by rw [bne_iff_ne]; exact h0
                have HX := Lib.hid (show res = er by rw [← HR.out, branchItem, devs, if_neg (by rw [HER.out]; exact h0), HER.out])
                clear h0
                go_wp2
                go_ret
                exact ⟨ret_int (by rw [HRES.out, HX.out]), below_grown HGF.out⟩
            · have hdr : brs.drop j = [] := List.drop_of_length_le (by omega)
              rw [hdr] at hG
              clear hdr
              have HEND := Lib.hid (ends_any ⟨nodes, sws, brs, gens, loads, stores⟩ ⟨na, nc, sa, sc, ba, bc, ga, gc, la, lc, ta, tc⟩ (w.heap.size + 1) ss wa ⟨hIN, HOK.out, hG.map, hbn, hbg, hbl, hbs, by have := hG.few; simp at this; exact this⟩)
              have HX := Lib.hid (show res = endsL ⟨nodes, sws, brs, gens, loads, stores⟩ ss by rw [← hG.rest]; rfl)
              have HGF := Lib.hid (grown_trans HG0.out hG.grown)
              clear hG hIN
              go_wp2_with fail
              refine HEND.out.mono ?_
              rintro e w2 ⟨rfl, hg2⟩
              have HGF2 := Lib.hid (grown_trans HGF.out hg2)
              clear hg2 HEND
              go_wp2
              go_ret
              exact ⟨ret_int (by rw [HRES.out, HX.out]), below_grown HGF2.out⟩

/-- a network in memory, of whatever size -/
structure Net (w : World) (n : NetD) (v : NetV) : Prop where
  net : NetIn w n v
  ok : NetOk n
  l1 : n.nodes.length ≤ 9223372036854775807
  l2 : n.switches.length ≤ 9223372036854775807
  l3 : n.branches.length ≤ 9223372036854775807
  l4 : n.gens.length ≤ 9223372036854775807
  l5 : n.loads.length ≤ 9223372036854775807
  l6 : n.stores.length ≤ 9223372036854775807
theorem Net.below {w w' : World} {n : NetD} {v : NetV} (h : Net w n v) (hb : Below w.heap.size w w') : Net w' n v := ⟨h.net.below hb, h.ok, h.l1, h.l2, h.l3, h.l4, h.l5, h.l6⟩
theorem netCheck_any (n : NetD) (v : NetV) (w : World) (h : Net w n v) : Calls Tryz.prog 8 #[v.val n] w fun e w' => e = .returned (I (checkN n)) ∧ Below w.heap.size w w' := by
  cases hs : smallN n
  · exact check_large n v w hs h.l1 h.l2 h.l3 h.l4 h.l5 h.l6
  · have := (smallN_iff n).1 hs
    exact check_small n v w ⟨h.net, h.ok, by omega, by omega, by omega, by omega, by omega, by omega⟩
end Go.Proofs.YtglbelmljdgaoaaGreatDoor
