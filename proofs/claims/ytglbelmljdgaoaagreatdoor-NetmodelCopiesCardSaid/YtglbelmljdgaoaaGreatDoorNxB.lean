/- nettext.lines. -/
import Derived.Test.YtglbelmljdgaoaaGreatDoorNxA
namespace Go.Proofs.YtglbelmljdgaoaaGreatDoor
open Go.RowKit

theorem name_size {s : ByteArray} (h : nameOk s = true) : s.size ≤ 8 := by
  rw [nameOk, Bool.and_eq_true] at h
  exact (of_decide_eq_true h.2).2
theorem fine_name {s : ByteArray} (h : nameOk s = true) : (Wd.t s).fine := Nat.le_trans (name_size h) (by omega)
theorem fine_lit {s : ByteArray} (h : s.size ≤ 1000) : (Wd.t s).fine := h
theorem fine_num {k : Int} (h0 : -1000000 ≤ k) (h1 : k ≤ 1000000) : (Wd.n k).fine := ⟨by omega, by omega⟩
theorem nodeW_fine {s : ByteArray} (h : nameOk s = true) : ∀ w ∈ nodeW s, w.fine := fun w hw => by
  simp only [nodeW, List.mem_cons, List.not_mem_nil, or_false] at hw
  rcases hw with rfl | rfl
  · exact fine_lit (by decide)
  · exact fine_name h
theorem switchW_fine {s : SwitchD} (h : nameOk s.name = true ∧ nameOk s.a = true ∧ nameOk s.b = true) : ∀ w ∈ switchW s, w.fine := fun w hw => by
  simp only [switchW, List.mem_cons, List.not_mem_nil, or_false] at hw
  rcases hw with rfl | rfl | rfl | rfl | rfl
  · split
    · exact fine_lit (by decide)
    · exact fine_lit (by decide)
  · exact fine_name h.1
  · exact fine_name h.2.1
  · exact fine_name h.2.2
  · split
    · exact fine_lit (by decide)
    · exact fine_lit (by decide)
theorem branchW_fine {b : BranchD} (h : nameOk b.name = true ∧ nameOk b.src = true ∧ nameOk b.dst = true ∧ branchOk b = true) : ∀ w ∈ branchW b, w.fine := fun w hw => by
  obtain ⟨h1, h2, h3, h4, h5, h6⟩ := branch_nums h.2.2.2
  simp only [branchW, List.mem_cons, List.not_mem_nil, or_false] at hw
  rcases hw with rfl | rfl | rfl | rfl | rfl | rfl | rfl | rfl | rfl | rfl
  · exact fine_lit (by decide)
  · exact fine_name h.1
  · exact fine_name h.2.1
  · exact fine_name h.2.2.1
  all_goals exact fine_num (by omega) (by omega)
theorem genW_fine {g : GenD} (h : nameOk g.name = true ∧ nameOk g.node = true ∧ genOk g = true) : ∀ w ∈ genW g, w.fine := fun w hw => by
  obtain ⟨h1, h2, h3⟩ := gen_nums h.2.2
  simp only [genW, List.mem_cons, List.not_mem_nil, or_false] at hw
  rcases hw with rfl | rfl | rfl | rfl | rfl | rfl
  · exact fine_lit (by decide)
  · exact fine_name h.1
  · exact fine_name h.2.1
  all_goals exact fine_num (by omega) (by omega)
theorem loadW_fine {l : LoadD} (h : nameOk l.name = true ∧ nameOk l.node = true ∧ loadOk l = true) : ∀ w ∈ loadW l, w.fine := fun w hw => by
  have h1 : 0 ≤ l.demand ∧ l.demand ≤ 100000 := by
    have h3 := h.2.2
    rw [loadOk, Bool.not_eq_true'] at h3
    exact not_out h3
  simp only [loadW, List.mem_cons, List.not_mem_nil, or_false] at hw
  rcases hw with rfl | rfl | rfl | rfl
  · exact fine_lit (by decide)
  · exact fine_name h.1
  · exact fine_name h.2.1
  · exact fine_num (by omega) (by omega)
theorem storeW_fine {g : StoreD} (h : nameOk g.name = true ∧ nameOk g.node = true ∧ storeOk g = true) : ∀ w ∈ storeW g, w.fine := fun w hw => by
  obtain ⟨h1, h2, h3⟩ := store_nums h.2.2
  simp only [storeW, List.mem_cons, List.not_mem_nil, or_false] at hw
  rcases hw with rfl | rfl | rfl | rfl | rfl | rfl
  · exact fine_lit (by decide)
  · exact fine_name h.1
  · exact fine_name h.2.1
  all_goals exact fine_num (by omega) (by omega)
/-- a row of strings of the call's own is returned -/
def RetSs (w : World) (xs : List ByteArray) (e : Ending) (w' : World) : Prop := ∃ v, e = .returned v ∧ Row w' w.heap.size 9 1 v xs.length (xs.map S) ∧ Below w.heap.size w w'
set_option maxRecDepth 100000 in
set_option maxHeartbeats 8000000 in
theorem lines_any (n : NetD) (v : NetV) (w00 : World) (hN : NetIn w00 n v) (hc : checkN n = 0) (htab : Tab w00) : Calls Tryz.prog 29 #[v.val n] w00 (RetSs w00 (linesN n)) := by
  have hb0 : Below w00.heap.size w00 (w00.alloc (Obj.cells (v.parts n) 29)) := (Below.refl _ w00).alloc (Nat.le_refl _) _
  have HRET := Lib.hid (fun (e : Ending) (w' : World) (h : ∃ u, e = .returned u ∧ Row w' (w00.alloc (Obj.cells (v.parts n) 29)).heap.size 9 1 u (linesN n).length ((linesN n).map S) ∧ Below (w00.alloc (Obj.cells (v.parts n) 29)).heap.size (w00.alloc (Obj.cells (v.parts n) 29)) w') => show RetSs w00 (linesN n) e w' by
    obtain ⟨u, h1, h2, h3⟩ := h
    exact ⟨u, h1, h2.less hb0.size, hb0.trans (h3.mono hb0.size)⟩)
  have HNI := Lib.hid (hN.below hb0)
  have HBX := Lib.hid (Blk.new w00 29 (v.parts n))
  have HTB := Lib.hid (tab_below htab hb0)
  have HOK := Lib.hid (nok hc)
  have HV := Lib.hid (vnet hc)
  have hg1 : w00.heap.size < (w00.alloc (Obj.cells (v.parts n) 29)).heap.size := by rw [World.size_alloc]; omega
  clear hb0 hN hc htab
  obtain ⟨na, nc, sa, sc, bA, bc, gA, gc, la, lc, tA, tc⟩ := v
  unfold NetV.val NetV.parts at *
  simp only at *
  go_enter Tryz.func29, Tryz.ntmps29
  have x0 := HBX.out.cell 0
  go_wp2
  clear x0
  generalize w00.alloc (Obj.cells #[Value.slice na n.nodes.length nc, Value.slice sa n.switches.length sc, Value.slice bA n.branches.length bc, Value.slice gA n.gens.length gc, Value.slice la n.loads.length lc, Value.slice tA n.stores.length tc] 29) = w at *
  generalize w00.heap.size = g0 at *
  have HG0 := Lib.hid hg1
  clear hg1
  have HB := Lib.hid (Below.refl w.heap.size w)
  have HN := Lib.hid (show Row w w.heap.size 9 1 (.slice none 0 0) ([] ++ (n.nodes.take 0).map fun s => lineT (nodeW s)).length (([] ++ (n.nodes.take 0).map fun s => lineT (nodeW s)).map S) from Row.nil _ _ _ _)
  go_loopg [3, 21] (n.nodes.length - 0) (fun r o u wr => ∃ k : Nat, ∃ vo : Value, o = vo ∧ r = n.nodes.length - k ∧ u = I k ∧ k ≤ n.nodes.length ∧ Hid (Row wr w.heap.size 9 1 vo ([] ++ (n.nodes.take k).map fun s => lineT (nodeW s)).length (([] ++ (n.nodes.take k).map fun s => lineT (nodeW s)).map S)) ∧ Hid (Below w.heap.size w wr))
  case atStart => exact ⟨0, _, rfl, rfl, rfl, by omega, HN, HB⟩
  case round =>
    clear HN HB
    obtain ⟨k, vo, hvo, rfl, rfl, hk, HN, HB⟩ := hrel
    replace hvo := hvo.symm
    subst hvo
    obtain ⟨wa, rfl⟩ : ∃ wa : World, wa = wr := ⟨_, rfl⟩
    have hkb : n.nodes.length ≤ 100 := by have h1 := HV.out.hn; omega
    by_cases hlt : k < n.nodes.length
    · obtain ⟨x, hx⟩ : ∃ x, n.nodes[k]? = some x := ⟨_, List.getElem?_eq_getElem hlt⟩
      have hok := HOK.out.no x (List.mem_of_getElem? hx)
      have HT := Lib.hid (show [] ++ (n.nodes.take (k + 1)).map (fun s => lineT (nodeW s)) = ([] ++ (n.nodes.take k).map fun s => lineT (nodeW s)) ++ [lineT (nodeW x)] by rw [List.take_add_one, hx, List.map_append, ← List.append_assoc]; rfl)
      have hql : ([] ++ (n.nodes.take k).map fun s => lineT (nodeW s)).length ≤ 1000000 := by have h1 := HV.out.hn; have h2 := HV.out.hw; have h3 := HV.out.hb; have h4 := HV.out.hg; have h5 := HV.out.hl; have h6 := HV.out.hs; simp only [List.length_append, List.length_map, List.length_take, List.length_nil]; omega
      obtain ⟨b, off, u, rfl, _, hu, hc⟩ := (HNI.out.nodes.below HB.out).at1 hlt
      obtain rfl : u = S x := by rw [List.getElem?_map, hx] at hu; simpa using hu.symm
      clear hu hx
      generalize [] ++ (n.nodes.take k).map (fun s => lineT (nodeW s)) = q at *
      have HRD := Lib.hid (show Reads (wa.alloc (.cells #[.iface 9 (.string ⟨#[110, 111, 100, 101]⟩), .iface 9 (.string x)] 20)) (wa.alloc (.cells #[.iface 9 (.string ⟨#[110, 111, 100, 101]⟩), .iface 9 (.string x)] 20)).heap.size 1 (some ⟨wa.heap.size, 0, none⟩) 2 ((nodeW x).map Wd.val) from (reads_at0 wa 20 ((nodeW x).map Wd.val) 2 1 wa.heap.size rfl rfl).more (by rw [World.size_alloc]; exact Nat.le_refl _))
      have hz := (Below.refl _ wa).alloc (Nat.le_refl _) (Obj.cells #[.iface 9 (.string ⟨#[110, 111, 100, 101]⟩), .iface 9 (.string x)] 20)
      have HFI := Lib.hid (nodeW_fine hok)
      have HN1 := Lib.hid (HN.out.call hz)
      have HB1 := Lib.hid (HB.out.trans (hz.mono HB.out.size))
      clear hz hok HN HB
      have HC := Lib.hid (line_any (nodeW x) 2 (some ⟨wa.heap.size, 0, none⟩) 2 _ HRD.out (by omega) HFI.out (tab_below HTB.out HB1.out))
      go_wp2_with fail
      refine HC.out.mono ?_
      rintro e w3 ⟨rfl, hb⟩
      have HN3 := Lib.hid (HN1.out.call hb)
      have HB3 := Lib.hid (HB1.out.trans (hb.mono HB1.out.size))
      clear hb HC HN1 HB1 HRD HFI 
      generalize hlt9 : lineT (nodeW x) = tx at *
      clear hlt9
      go_wp2_with (at_builtin; refine wpList_appS rfl _ _ rfl w.heap.size vo q tx w3.heap.size rfl rfl rfl HN3.out hql HB3.out.size ?_)
      intro v' w4 hrow hb2
      have HNN := Lib.hid (show Row w4 w.heap.size 9 1 v' ([] ++ (n.nodes.take (k + 1)).map fun s => lineT (nodeW s)).length (([] ++ (n.nodes.take (k + 1)).map fun s => lineT (nodeW s)).map S) by rw [HT.out, List.length_append, List.map_append]; exact hrow)
      have HBN := Lib.hid (HB3.out.trans (((Below.refl _ w3).alloc (Nat.le_refl _) _).mono HB3.out.size |>.trans hb2))
      clear hrow hb2 HN3 HB3 HT
      go_wp2
      go_roundg (n.nodes.length - (k + 1))
      case measure => omega
      case rel => exact ⟨k + 1, _, rfl, rfl, by go_num, by omega, HNN, HBN⟩
    · have hkn : k = n.nodes.length := by omega
      subst hkn
      have hg := HN.out
      rw [List.take_length] at hg
      clear HN
      have HN := Lib.hid (show Row wa w.heap.size 9 1 vo (([] ++ n.nodes.map fun s => lineT (nodeW s)) ++ (n.switches.take 0).map fun s => lineT (switchW s)).length ((([] ++ n.nodes.map fun s => lineT (nodeW s)) ++ (n.switches.take 0).map fun s => lineT (switchW s)).map S) by rw [List.take_zero, List.map_nil, List.append_nil]; exact hg)
      clear hg
      have x1 : wa.cell? ⟨g0, 1, none⟩ = some (.slice sa n.switches.length sc) := (HB.out.cell (p := ⟨g0, 1, none⟩) HG0.out).trans (HBX.out.cell 1)
      have hg0 : g0 < wa.heap.size := Nat.lt_of_lt_of_le HG0.out HB.out.size
      go_wp2
      clear x1 hg0
      go_loopg [3, 37] (n.switches.length - 0) (fun r o u wr => ∃ k : Nat, ∃ vo : Value, o = vo ∧ r = n.switches.length - k ∧ u = I k ∧ k ≤ n.switches.length ∧ Hid (Row wr w.heap.size 9 1 vo (([] ++ n.nodes.map fun s => lineT (nodeW s)) ++ (n.switches.take k).map fun s => lineT (switchW s)).length ((([] ++ n.nodes.map fun s => lineT (nodeW s)) ++ (n.switches.take k).map fun s => lineT (switchW s)).map S)) ∧ Hid (Below w.heap.size w wr))
      case atStart => exact ⟨0, _, rfl, rfl, rfl, by omega, HN, HB⟩
      case round =>
        clear HN HB
        obtain ⟨k, vo, hvo, rfl, rfl, hk, HN, HB⟩ := hrel
        replace hvo := hvo.symm
        subst hvo
        obtain ⟨wa, rfl⟩ : ∃ wa : World, wa = wr := ⟨_, rfl⟩
        have hkb : n.switches.length ≤ 100 := by have h1 := HV.out.hw; omega
        by_cases hlt : k < n.switches.length
        · obtain ⟨x, hx⟩ : ∃ x, n.switches[k]? = some x := ⟨_, List.getElem?_eq_getElem hlt⟩
          have hok := HOK.out.sw x (List.mem_of_getElem? hx)
          have HT := Lib.hid (show ([] ++ n.nodes.map fun s => lineT (nodeW s)) ++ (n.switches.take (k + 1)).map (fun s => lineT (switchW s)) = (([] ++ n.nodes.map fun s => lineT (nodeW s)) ++ (n.switches.take k).map fun s => lineT (switchW s)) ++ [lineT (switchW x)] by rw [List.take_add_one, hx, List.map_append, ← List.append_assoc]; rfl)
          have hql : (([] ++ n.nodes.map fun s => lineT (nodeW s)) ++ (n.switches.take k).map fun s => lineT (switchW s)).length ≤ 1000000 := by have h1 := HV.out.hn; have h2 := HV.out.hw; have h3 := HV.out.hb; have h4 := HV.out.hg; have h5 := HV.out.hl; have h6 := HV.out.hs; simp only [List.length_append, List.length_map, List.length_take, List.length_nil]; omega
          obtain ⟨b, off, rfl, _, hcs⟩ := reads_by (f := SwitchD.cells) (sz := 5) (fun _ => rfl) (by omega) (HNI.out.switches.below HB.out) hlt
          have hx2 : n.switches[k] = x := by rw [List.getElem?_eq_getElem hlt] at hx; exact Option.some.inj hx
          rw [hx2] at hcs
          clear hx hx2
          generalize ([] ++ n.nodes.map fun s => lineT (nodeW s)) ++ (n.switches.take k).map (fun s => lineT (switchW s)) = q at *
          obtain ⟨nm, xa, xb, br, op⟩ := x
          have c0 := hcs 0 _ rfl
          have c1 := hcs 1 _ rfl
          have c2 := hcs 2 _ rfl
          have c3 := hcs 3 _ rfl
          have c4 := hcs 4 _ rfl
          simp only [← Nat.add_assoc, Nat.add_zero] at c0 c1 c2 c3 c4
          clear hcs
          cases br with
          | true =>
            cases op with
            | true =>
              have HRD := Lib.hid (show Reads ((wa.alloc (.cells #[.string nm, .string xa, .string xb, .bool true, .bool true] 39)).alloc (.cells #[.iface 9 (.string ⟨#[98, 114, 101, 97, 107, 101, 114]⟩), .iface 9 (.string nm), .iface 9 (.string xa), .iface 9 (.string xb), .iface 9 (.string ⟨#[111, 112, 101, 110]⟩)] 20)) ((wa.alloc (.cells #[.string nm, .string xa, .string xb, .bool true, .bool true] 39)).alloc (.cells #[.iface 9 (.string ⟨#[98, 114, 101, 97, 107, 101, 114]⟩), .iface 9 (.string nm), .iface 9 (.string xa), .iface 9 (.string xb), .iface 9 (.string ⟨#[111, 112, 101, 110]⟩)] 20)).heap.size 1 (some ⟨wa.heap.size + 1, 0, none⟩) 5 ((switchW ⟨nm, xa, xb, true, true⟩).map Wd.val) from (reads_at0 (wa.alloc (.cells #[.string nm, .string xa, .string xb, .bool true, .bool true] 39)) 20 ((switchW ⟨nm, xa, xb, true, true⟩).map Wd.val) 5 1 (wa.heap.size + 1) (World.size_alloc _ _) rfl).more (by rw [World.size_alloc, World.size_alloc]; exact Nat.le_refl _))
              have hz := below2 wa (.cells #[.string nm, .string xa, .string xb, .bool true, .bool true] 39) (.cells #[.iface 9 (.string ⟨#[98, 114, 101, 97, 107, 101, 114]⟩), .iface 9 (.string nm), .iface 9 (.string xa), .iface 9 (.string xb), .iface 9 (.string ⟨#[111, 112, 101, 110]⟩)] 20)
              have HFI := Lib.hid (switchW_fine hok)
              have HN1 := Lib.hid (HN.out.call hz)
              have HB1 := Lib.hid (HB.out.trans (hz.mono HB.out.size))
              clear hz hok HN HB
              have HC := Lib.hid (line_any (switchW ⟨nm, xa, xb, true, true⟩) 5 (some ⟨wa.heap.size + 1, 0, none⟩) 5 _ HRD.out (by omega) HFI.out (tab_below HTB.out HB1.out))
              go_wp2_with fail
              refine HC.out.mono ?_
              rintro e w3 ⟨rfl, hb⟩
              have HN3 := Lib.hid (HN1.out.call hb)
              have HB3 := Lib.hid (HB1.out.trans (hb.mono HB1.out.size))
              clear hb HC HN1 HB1 HRD HFI 
              generalize hlt9 : lineT (switchW ⟨nm, xa, xb, true, true⟩) = tx at *
              clear hlt9
              go_wp2_with (at_builtin; refine wpList_appS rfl _ _ rfl w.heap.size vo q tx w3.heap.size rfl rfl rfl HN3.out hql HB3.out.size ?_)
              intro v' w4 hrow hb2
              have HNN := Lib.hid (show Row w4 w.heap.size 9 1 v' (([] ++ n.nodes.map fun s => lineT (nodeW s)) ++ (n.switches.take (k + 1)).map fun s => lineT (switchW s)).length ((([] ++ n.nodes.map fun s => lineT (nodeW s)) ++ (n.switches.take (k + 1)).map fun s => lineT (switchW s)).map S) by rw [HT.out, List.length_append, List.map_append]; exact hrow)
              have HBN := Lib.hid (HB3.out.trans (((Below.refl _ w3).alloc (Nat.le_refl _) _).mono HB3.out.size |>.trans hb2))
              clear hrow hb2 HN3 HB3 HT
              go_wp2
              go_roundg (n.switches.length - (k + 1))
              case measure => omega
              case rel => exact ⟨k + 1, _, rfl, rfl, by go_num, by omega, HNN, HBN⟩
            | false =>
              have HRD := Lib.hid (show Reads ((wa.alloc (.cells #[.string nm, .string xa, .string xb, .bool true, .bool false] 39)).alloc (.cells #[.iface 9 (.string ⟨#[98, 114, 101, 97, 107, 101, 114]⟩), .iface 9 (.string nm), .iface 9 (.string xa), .iface 9 (.string xb), .iface 9 (.string ⟨#[99, 108, 111, 115, 101, 100]⟩)] 20)) ((wa.alloc (.cells #[.string nm, .string xa, .string xb, .bool true, .bool false] 39)).alloc (.cells #[.iface 9 (.string ⟨#[98, 114, 101, 97, 107, 101, 114]⟩), .iface 9 (.string nm), .iface 9 (.string xa), .iface 9 (.string xb), .iface 9 (.string ⟨#[99, 108, 111, 115, 101, 100]⟩)] 20)).heap.size 1 (some ⟨wa.heap.size + 1, 0, none⟩) 5 ((switchW ⟨nm, xa, xb, true, false⟩).map Wd.val) from (reads_at0 (wa.alloc (.cells #[.string nm, .string xa, .string xb, .bool true, .bool false] 39)) 20 ((switchW ⟨nm, xa, xb, true, false⟩).map Wd.val) 5 1 (wa.heap.size + 1) (World.size_alloc _ _) rfl).more (by rw [World.size_alloc, World.size_alloc]; exact Nat.le_refl _))
              have hz := below2 wa (.cells #[.string nm, .string xa, .string xb, .bool true, .bool false] 39) (.cells #[.iface 9 (.string ⟨#[98, 114, 101, 97, 107, 101, 114]⟩), .iface 9 (.string nm), .iface 9 (.string xa), .iface 9 (.string xb), .iface 9 (.string ⟨#[99, 108, 111, 115, 101, 100]⟩)] 20)
              have HFI := Lib.hid (switchW_fine hok)
              have HN1 := Lib.hid (HN.out.call hz)
              have HB1 := Lib.hid (HB.out.trans (hz.mono HB.out.size))
              clear hz hok HN HB
              have HC := Lib.hid (line_any (switchW ⟨nm, xa, xb, true, false⟩) 5 (some ⟨wa.heap.size + 1, 0, none⟩) 5 _ HRD.out (by omega) HFI.out (tab_below HTB.out HB1.out))
              go_wp2_with fail
              refine HC.out.mono ?_
              rintro e w3 ⟨rfl, hb⟩
              have HN3 := Lib.hid (HN1.out.call hb)
              have HB3 := Lib.hid (HB1.out.trans (hb.mono HB1.out.size))
              clear hb HC HN1 HB1 HRD HFI 
              generalize hlt9 : lineT (switchW ⟨nm, xa, xb, true, false⟩) = tx at *
              clear hlt9
              go_wp2_with (at_builtin; refine wpList_appS rfl _ _ rfl w.heap.size vo q tx w3.heap.size rfl rfl rfl HN3.out hql HB3.out.size ?_)
              intro v' w4 hrow hb2
              have HNN := Lib.hid (show Row w4 w.heap.size 9 1 v' (([] ++ n.nodes.map fun s => lineT (nodeW s)) ++ (n.switches.take (k + 1)).map fun s => lineT (switchW s)).length ((([] ++ n.nodes.map fun s => lineT (nodeW s)) ++ (n.switches.take (k + 1)).map fun s => lineT (switchW s)).map S) by rw [HT.out, List.length_append, List.map_append]; exact hrow)
              have HBN := Lib.hid (HB3.out.trans (((Below.refl _ w3).alloc (Nat.le_refl _) _).mono HB3.out.size |>.trans hb2))
              clear hrow hb2 HN3 HB3 HT
              go_wp2
              go_roundg (n.switches.length - (k + 1))
              case measure => omega
              case rel => exact ⟨k + 1, _, rfl, rfl, by go_num, by omega, HNN, HBN⟩
          | false =>
            cases op with
            | true =>
              have HRD := Lib.hid (show Reads ((wa.alloc (.cells #[.string nm, .string xa, .string xb, .bool false, .bool true] 39)).alloc (.cells #[.iface 9 (.string ⟨#[115, 119, 105, 116, 99, 104]⟩), .iface 9 (.string nm), .iface 9 (.string xa), .iface 9 (.string xb), .iface 9 (.string ⟨#[111, 112, 101, 110]⟩)] 20)) ((wa.alloc (.cells #[.string nm, .string xa, .string xb, .bool false, .bool true] 39)).alloc (.cells #[.iface 9 (.string ⟨#[115, 119, 105, 116, 99, 104]⟩), .iface 9 (.string nm), .iface 9 (.string xa), .iface 9 (.string xb), .iface 9 (.string ⟨#[111, 112, 101, 110]⟩)] 20)).heap.size 1 (some ⟨wa.heap.size + 1, 0, none⟩) 5 ((switchW ⟨nm, xa, xb, false, true⟩).map Wd.val) from (reads_at0 (wa.alloc (.cells #[.string nm, .string xa, .string xb, .bool false, .bool true] 39)) 20 ((switchW ⟨nm, xa, xb, false, true⟩).map Wd.val) 5 1 (wa.heap.size + 1) (World.size_alloc _ _) rfl).more (by rw [World.size_alloc, World.size_alloc]; exact Nat.le_refl _))
              have hz := below2 wa (.cells #[.string nm, .string xa, .string xb, .bool false, .bool true] 39) (.cells #[.iface 9 (.string ⟨#[115, 119, 105, 116, 99, 104]⟩), .iface 9 (.string nm), .iface 9 (.string xa), .iface 9 (.string xb), .iface 9 (.string ⟨#[111, 112, 101, 110]⟩)] 20)
              have HFI := Lib.hid (switchW_fine hok)
              have HN1 := Lib.hid (HN.out.call hz)
              have HB1 := Lib.hid (HB.out.trans (hz.mono HB.out.size))
              clear hz hok HN HB
              have HC := Lib.hid (line_any (switchW ⟨nm, xa, xb, false, true⟩) 5 (some ⟨wa.heap.size + 1, 0, none⟩) 5 _ HRD.out (by omega) HFI.out (tab_below HTB.out HB1.out))
              go_wp2_with fail
              refine HC.out.mono ?_
              rintro e w3 ⟨rfl, hb⟩
              have HN3 := Lib.hid (HN1.out.call hb)
              have HB3 := Lib.hid (HB1.out.trans (hb.mono HB1.out.size))
              clear hb HC HN1 HB1 HRD HFI 
              generalize hlt9 : lineT (switchW ⟨nm, xa, xb, false, true⟩) = tx at *
              clear hlt9
              go_wp2_with (at_builtin; refine wpList_appS rfl _ _ rfl w.heap.size vo q tx w3.heap.size rfl rfl rfl HN3.out hql HB3.out.size ?_)
              intro v' w4 hrow hb2
              have HNN := Lib.hid (show Row w4 w.heap.size 9 1 v' (([] ++ n.nodes.map fun s => lineT (nodeW s)) ++ (n.switches.take (k + 1)).map fun s => lineT (switchW s)).length ((([] ++ n.nodes.map fun s => lineT (nodeW s)) ++ (n.switches.take (k + 1)).map fun s => lineT (switchW s)).map S) by rw [HT.out, List.length_append, List.map_append]; exact hrow)
              have HBN := Lib.hid (HB3.out.trans (((Below.refl _ w3).alloc (Nat.le_refl _) _).mono HB3.out.size |>.trans hb2))
              clear hrow hb2 HN3 HB3 HT
              go_wp2
              go_roundg (n.switches.length - (k + 1))
              case measure => omega
              case rel => exact ⟨k + 1, _, rfl, rfl, by go_num, by omega, HNN, HBN⟩
            | false =>
              have HRD := Lib.hid (show Reads ((wa.alloc (.cells #[.string nm, .string xa, .string xb, .bool false, .bool false] 39)).alloc (.cells #[.iface 9 (.string ⟨#[115, 119, 105, 116, 99, 104]⟩), .iface 9 (.string nm), .iface 9 (.string xa), .iface 9 (.string xb), .iface 9 (.string ⟨#[99, 108, 111, 115, 101, 100]⟩)] 20)) ((wa.alloc (.cells #[.string nm, .string xa, .string xb, .bool false, .bool false] 39)).alloc (.cells #[.iface 9 (.string ⟨#[115, 119, 105, 116, 99, 104]⟩), .iface 9 (.string nm), .iface 9 (.string xa), .iface 9 (.string xb), .iface 9 (.string ⟨#[99, 108, 111, 115, 101, 100]⟩)] 20)).heap.size 1 (some ⟨wa.heap.size + 1, 0, none⟩) 5 ((switchW ⟨nm, xa, xb, false, false⟩).map Wd.val) from (reads_at0 (wa.alloc (.cells #[.string nm, .string xa, .string xb, .bool false, .bool false] 39)) 20 ((switchW ⟨nm, xa, xb, false, false⟩).map Wd.val) 5 1 (wa.heap.size + 1) (World.size_alloc _ _) rfl).more (by rw [World.size_alloc, World.size_alloc]; exact Nat.le_refl _))
              have hz := below2 wa (.cells #[.string nm, .string xa, .string xb, .bool false, .bool false] 39) (.cells #[.iface 9 (.string ⟨#[115, 119, 105, 116, 99, 104]⟩), .iface 9 (.string nm), .iface 9 (.string xa), .iface 9 (.string xb), .iface 9 (.string ⟨#[99, 108, 111, 115, 101, 100]⟩)] 20)
              have HFI := Lib.hid (switchW_fine hok)
              have HN1 := Lib.hid (HN.out.call hz)
              have HB1 := Lib.hid (HB.out.trans (hz.mono HB.out.size))
              clear hz hok HN HB
              have HC := Lib.hid (line_any (switchW ⟨nm, xa, xb, false, false⟩) 5 (some ⟨wa.heap.size + 1, 0, none⟩) 5 _ HRD.out (by omega) HFI.out (tab_below HTB.out HB1.out))
              go_wp2_with fail
              refine HC.out.mono ?_
              rintro e w3 ⟨rfl, hb⟩
              have HN3 := Lib.hid (HN1.out.call hb)
              have HB3 := Lib.hid (HB1.out.trans (hb.mono HB1.out.size))
              clear hb HC HN1 HB1 HRD HFI 
              generalize hlt9 : lineT (switchW ⟨nm, xa, xb, false, false⟩) = tx at *
              clear hlt9
              go_wp2_with (at_builtin; refine wpList_appS rfl _ _ rfl w.heap.size vo q tx w3.heap.size rfl rfl rfl HN3.out hql HB3.out.size ?_)
              intro v' w4 hrow hb2
              have HNN := Lib.hid (show Row w4 w.heap.size 9 1 v' (([] ++ n.nodes.map fun s => lineT (nodeW s)) ++ (n.switches.take (k + 1)).map fun s => lineT (switchW s)).length ((([] ++ n.nodes.map fun s => lineT (nodeW s)) ++ (n.switches.take (k + 1)).map fun s => lineT (switchW s)).map S) by rw [HT.out, List.length_append, List.map_append]; exact hrow)
              have HBN := Lib.hid (HB3.out.trans (((Below.refl _ w3).alloc (Nat.le_refl _) _).mono HB3.out.size |>.trans hb2))
              clear hrow hb2 HN3 HB3 HT
              go_wp2
              go_roundg (n.switches.length - (k + 1))
              case measure => omega
              case rel => exact ⟨k + 1, _, rfl, rfl, by go_num, by omega, HNN, HBN⟩
        · have hkn : k = n.switches.length := by omega
          subst hkn
          have hg := HN.out
          rw [List.take_length] at hg
          clear HN
          have HN := Lib.hid (show Row wa w.heap.size 9 1 vo ((([] ++ n.nodes.map fun s => lineT (nodeW s)) ++ n.switches.map fun s => lineT (switchW s)) ++ (n.branches.take 0).map fun s => lineT (branchW s)).length (((([] ++ n.nodes.map fun s => lineT (nodeW s)) ++ n.switches.map fun s => lineT (switchW s)) ++ (n.branches.take 0).map fun s => lineT (branchW s)).map S) by rw [List.take_zero, List.map_nil, List.append_nil]; exact hg)
          clear hg
          have x2 : wa.cell? ⟨g0, 2, none⟩ = some (.slice bA n.branches.length bc) := (HB.out.cell (p := ⟨g0, 2, none⟩) HG0.out).trans (HBX.out.cell 2)
          have hg0 : g0 < wa.heap.size := Nat.lt_of_lt_of_le HG0.out HB.out.size
          go_wp2
          clear x2 hg0
          go_loopg [3, 67] (n.branches.length - 0) (fun r o u wr => ∃ k : Nat, ∃ vo : Value, o = vo ∧ r = n.branches.length - k ∧ u = I k ∧ k ≤ n.branches.length ∧ Hid (Row wr w.heap.size 9 1 vo ((([] ++ n.nodes.map fun s => lineT (nodeW s)) ++ n.switches.map fun s => lineT (switchW s)) ++ (n.branches.take k).map fun s => lineT (branchW s)).length (((([] ++ n.nodes.map fun s => lineT (nodeW s)) ++ n.switches.map fun s => lineT (switchW s)) ++ (n.branches.take k).map fun s => lineT (branchW s)).map S)) ∧ Hid (Below w.heap.size w wr))
          case atStart => exact ⟨0, _, rfl, rfl, rfl, by omega, HN, HB⟩
          case round =>
            clear HN HB
            obtain ⟨k, vo, hvo, rfl, rfl, hk, HN, HB⟩ := hrel
            replace hvo := hvo.symm
            subst hvo
            obtain ⟨wa, rfl⟩ : ∃ wa : World, wa = wr := ⟨_, rfl⟩
            have hkb : n.branches.length ≤ 100 := by have h1 := HV.out.hb; omega
            by_cases hlt : k < n.branches.length
            · obtain ⟨x, hx⟩ : ∃ x, n.branches[k]? = some x := ⟨_, List.getElem?_eq_getElem hlt⟩
              have hok := HOK.out.br x (List.mem_of_getElem? hx)
              have HT := Lib.hid (show (([] ++ n.nodes.map fun s => lineT (nodeW s)) ++ n.switches.map fun s => lineT (switchW s)) ++ (n.branches.take (k + 1)).map (fun s => lineT (branchW s)) = ((([] ++ n.nodes.map fun s => lineT (nodeW s)) ++ n.switches.map fun s => lineT (switchW s)) ++ (n.branches.take k).map fun s => lineT (branchW s)) ++ [lineT (branchW x)] by rw [List.take_add_one, hx, List.map_append, ← List.append_assoc]; rfl)
              have hql : ((([] ++ n.nodes.map fun s => lineT (nodeW s)) ++ n.switches.map fun s => lineT (switchW s)) ++ (n.branches.take k).map fun s => lineT (branchW s)).length ≤ 1000000 := by have h1 := HV.out.hn; have h2 := HV.out.hw; have h3 := HV.out.hb; have h4 := HV.out.hg; have h5 := HV.out.hl; have h6 := HV.out.hs; simp only [List.length_append, List.length_map, List.length_take, List.length_nil]; omega
              obtain ⟨b, off, rfl, _, hcs⟩ := reads_by (f := BranchD.cells) (sz := 9) (fun _ => rfl) (by omega) (HNI.out.branches.below HB.out) hlt
              have hx2 : n.branches[k] = x := by rw [List.getElem?_eq_getElem hlt] at hx; exact Option.some.inj hx
              rw [hx2] at hcs
              clear hx hx2
              generalize (([] ++ n.nodes.map fun s => lineT (nodeW s)) ++ n.switches.map fun s => lineT (switchW s)) ++ (n.branches.take k).map (fun s => lineT (branchW s)) = q at *
              obtain ⟨nm, xa, xb, fx, ft, fs, fl, fo, fh⟩ := x
              have c0 := hcs 0 _ rfl
              have c1 := hcs 1 _ rfl
              have c2 := hcs 2 _ rfl
              have c3 := hcs 3 _ rfl
              have c4 := hcs 4 _ rfl
              have c5 := hcs 5 _ rfl
              have c6 := hcs 6 _ rfl
              have c7 := hcs 7 _ rfl
              have c8 := hcs 8 _ rfl
              simp only [← Nat.add_assoc, Nat.add_zero] at c0 c1 c2 c3 c4 c5 c6 c7 c8
              clear hcs
              have HRD := Lib.hid (show Reads ((wa.alloc (.cells #[.string nm, .string xa, .string xb, I fx, I ft, I fs, I fl, I fo, I fh] 48)).alloc (.cells #[.iface 9 (.string ⟨#[98, 114, 97, 110, 99, 104]⟩), .iface 9 (.string nm), .iface 9 (.string xa), .iface 9 (.string xb), .iface 3 (I fx), .iface 3 (I ft), .iface 3 (I fs), .iface 3 (I fl), .iface 3 (I fo), .iface 3 (I fh)] 20)) ((wa.alloc (.cells #[.string nm, .string xa, .string xb, I fx, I ft, I fs, I fl, I fo, I fh] 48)).alloc (.cells #[.iface 9 (.string ⟨#[98, 114, 97, 110, 99, 104]⟩), .iface 9 (.string nm), .iface 9 (.string xa), .iface 9 (.string xb), .iface 3 (I fx), .iface 3 (I ft), .iface 3 (I fs), .iface 3 (I fl), .iface 3 (I fo), .iface 3 (I fh)] 20)).heap.size 1 (some ⟨wa.heap.size + 1, 0, none⟩) 10 ((branchW ⟨nm, xa, xb, fx, ft, fs, fl, fo, fh⟩).map Wd.val) from (reads_at0 (wa.alloc (.cells #[.string nm, .string xa, .string xb, I fx, I ft, I fs, I fl, I fo, I fh] 48)) 20 ((branchW ⟨nm, xa, xb, fx, ft, fs, fl, fo, fh⟩).map Wd.val) 10 1 (wa.heap.size + 1) (World.size_alloc _ _) rfl).more (by rw [World.size_alloc, World.size_alloc]; exact Nat.le_refl _))
              have hz := below2 wa (.cells #[.string nm, .string xa, .string xb, I fx, I ft, I fs, I fl, I fo, I fh] 48) (.cells #[.iface 9 (.string ⟨#[98, 114, 97, 110, 99, 104]⟩), .iface 9 (.string nm), .iface 9 (.string xa), .iface 9 (.string xb), .iface 3 (I fx), .iface 3 (I ft), .iface 3 (I fs), .iface 3 (I fl), .iface 3 (I fo), .iface 3 (I fh)] 20)
              have HFI := Lib.hid (branchW_fine hok)
              have HN1 := Lib.hid (HN.out.call hz)
              have HB1 := Lib.hid (HB.out.trans (hz.mono HB.out.size))
              clear hz hok HN HB
              have HC := Lib.hid (line_any (branchW ⟨nm, xa, xb, fx, ft, fs, fl, fo, fh⟩) 10 (some ⟨wa.heap.size + 1, 0, none⟩) 10 _ HRD.out (by omega) HFI.out (tab_below HTB.out HB1.out))
              go_wp2_with fail
              refine HC.out.mono ?_
              rintro e w3 ⟨rfl, hb⟩
              have HN3 := Lib.hid (HN1.out.call hb)
              have HB3 := Lib.hid (HB1.out.trans (hb.mono HB1.out.size))
              clear hb HC HN1 HB1 HRD HFI 
              generalize hlt9 : lineT (branchW ⟨nm, xa, xb, fx, ft, fs, fl, fo, fh⟩) = tx at *
              clear hlt9
              go_wp2_with (at_builtin; refine wpList_appS rfl _ _ rfl w.heap.size vo q tx w3.heap.size rfl rfl rfl HN3.out hql HB3.out.size ?_)
              intro v' w4 hrow hb2
              have HNN := Lib.hid (show Row w4 w.heap.size 9 1 v' ((([] ++ n.nodes.map fun s => lineT (nodeW s)) ++ n.switches.map fun s => lineT (switchW s)) ++ (n.branches.take (k + 1)).map fun s => lineT (branchW s)).length (((([] ++ n.nodes.map fun s => lineT (nodeW s)) ++ n.switches.map fun s => lineT (switchW s)) ++ (n.branches.take (k + 1)).map fun s => lineT (branchW s)).map S) by rw [HT.out, List.length_append, List.map_append]; exact hrow)
              have HBN := Lib.hid (HB3.out.trans (((Below.refl _ w3).alloc (Nat.le_refl _) _).mono HB3.out.size |>.trans hb2))
              clear hrow hb2 HN3 HB3 HT
              go_wp2
              go_roundg (n.branches.length - (k + 1))
              case measure => omega
              case rel => exact ⟨k + 1, _, rfl, rfl, by go_num, by omega, HNN, HBN⟩
            · have hkn : k = n.branches.length := by omega
              subst hkn
              have hg := HN.out
              rw [List.take_length] at hg
              clear HN
              have HN := Lib.hid (show Row wa w.heap.size 9 1 vo (((([] ++ n.nodes.map fun s => lineT (nodeW s)) ++ n.switches.map fun s => lineT (switchW s)) ++ n.branches.map fun s => lineT (branchW s)) ++ (n.gens.take 0).map fun s => lineT (genW s)).length ((((([] ++ n.nodes.map fun s => lineT (nodeW s)) ++ n.switches.map fun s => lineT (switchW s)) ++ n.branches.map fun s => lineT (branchW s)) ++ (n.gens.take 0).map fun s => lineT (genW s)).map S) by rw [List.take_zero, List.map_nil, List.append_nil]; exact hg)
              clear hg
              have x3 : wa.cell? ⟨g0, 3, none⟩ = some (.slice gA n.gens.length gc) := (HB.out.cell (p := ⟨g0, 3, none⟩) HG0.out).trans (HBX.out.cell 3)
              have hg0 : g0 < wa.heap.size := Nat.lt_of_lt_of_le HG0.out HB.out.size
              go_wp2
              clear x3 hg0
              go_loopg [3, 108] (n.gens.length - 0) (fun r o u wr => ∃ k : Nat, ∃ vo : Value, o = vo ∧ r = n.gens.length - k ∧ u = I k ∧ k ≤ n.gens.length ∧ Hid (Row wr w.heap.size 9 1 vo (((([] ++ n.nodes.map fun s => lineT (nodeW s)) ++ n.switches.map fun s => lineT (switchW s)) ++ n.branches.map fun s => lineT (branchW s)) ++ (n.gens.take k).map fun s => lineT (genW s)).length ((((([] ++ n.nodes.map fun s => lineT (nodeW s)) ++ n.switches.map fun s => lineT (switchW s)) ++ n.branches.map fun s => lineT (branchW s)) ++ (n.gens.take k).map fun s => lineT (genW s)).map S)) ∧ Hid (Below w.heap.size w wr))
              case atStart => exact ⟨0, _, rfl, rfl, rfl, by omega, HN, HB⟩
              case round =>
                clear HN HB
                obtain ⟨k, vo, hvo, rfl, rfl, hk, HN, HB⟩ := hrel
                replace hvo := hvo.symm
                subst hvo
                obtain ⟨wa, rfl⟩ : ∃ wa : World, wa = wr := ⟨_, rfl⟩
                have hkb : n.gens.length ≤ 100 := by have h1 := HV.out.hg; omega
                by_cases hlt : k < n.gens.length
                · obtain ⟨x, hx⟩ : ∃ x, n.gens[k]? = some x := ⟨_, List.getElem?_eq_getElem hlt⟩
                  have hok := HOK.out.ge x (List.mem_of_getElem? hx)
                  have HT := Lib.hid (show ((([] ++ n.nodes.map fun s => lineT (nodeW s)) ++ n.switches.map fun s => lineT (switchW s)) ++ n.branches.map fun s => lineT (branchW s)) ++ (n.gens.take (k + 1)).map (fun s => lineT (genW s)) = (((([] ++ n.nodes.map fun s => lineT (nodeW s)) ++ n.switches.map fun s => lineT (switchW s)) ++ n.branches.map fun s => lineT (branchW s)) ++ (n.gens.take k).map fun s => lineT (genW s)) ++ [lineT (genW x)] by rw [List.take_add_one, hx, List.map_append, ← List.append_assoc]; rfl)
                  have hql : (((([] ++ n.nodes.map fun s => lineT (nodeW s)) ++ n.switches.map fun s => lineT (switchW s)) ++ n.branches.map fun s => lineT (branchW s)) ++ (n.gens.take k).map fun s => lineT (genW s)).length ≤ 1000000 := by have h1 := HV.out.hn; have h2 := HV.out.hw; have h3 := HV.out.hb; have h4 := HV.out.hg; have h5 := HV.out.hl; have h6 := HV.out.hs; simp only [List.length_append, List.length_map, List.length_take, List.length_nil]; omega
                  obtain ⟨b, off, rfl, _, hcs⟩ := reads_by (f := GenD.cells) (sz := 5) (fun _ => rfl) (by omega) (HNI.out.gens.below HB.out) hlt
                  have hx2 : n.gens[k] = x := by rw [List.getElem?_eq_getElem hlt] at hx; exact Option.some.inj hx
                  rw [hx2] at hcs
                  clear hx hx2
                  generalize ((([] ++ n.nodes.map fun s => lineT (nodeW s)) ++ n.switches.map fun s => lineT (switchW s)) ++ n.branches.map fun s => lineT (branchW s)) ++ (n.gens.take k).map (fun s => lineT (genW s)) = q at *
                  obtain ⟨nm, nd, fl, fm, fr⟩ := x
                  have c0 := hcs 0 _ rfl
                  have c1 := hcs 1 _ rfl
                  have c2 := hcs 2 _ rfl
                  have c3 := hcs 3 _ rfl
                  have c4 := hcs 4 _ rfl
                  simp only [← Nat.add_assoc, Nat.add_zero] at c0 c1 c2 c3 c4
                  clear hcs
                  have HRD := Lib.hid (show Reads ((wa.alloc (.cells #[.string nm, .string nd, I fl, I fm, I fr] 64)).alloc (.cells #[.iface 9 (.string ⟨#[103, 101, 110]⟩), .iface 9 (.string nm), .iface 9 (.string nd), .iface 3 (I fl), .iface 3 (I fm), .iface 3 (I fr)] 20)) ((wa.alloc (.cells #[.string nm, .string nd, I fl, I fm, I fr] 64)).alloc (.cells #[.iface 9 (.string ⟨#[103, 101, 110]⟩), .iface 9 (.string nm), .iface 9 (.string nd), .iface 3 (I fl), .iface 3 (I fm), .iface 3 (I fr)] 20)).heap.size 1 (some ⟨wa.heap.size + 1, 0, none⟩) 6 ((genW ⟨nm, nd, fl, fm, fr⟩).map Wd.val) from (reads_at0 (wa.alloc (.cells #[.string nm, .string nd, I fl, I fm, I fr] 64)) 20 ((genW ⟨nm, nd, fl, fm, fr⟩).map Wd.val) 6 1 (wa.heap.size + 1) (World.size_alloc _ _) rfl).more (by rw [World.size_alloc, World.size_alloc]; exact Nat.le_refl _))
                  have hz := below2 wa (.cells #[.string nm, .string nd, I fl, I fm, I fr] 64) (.cells #[.iface 9 (.string ⟨#[103, 101, 110]⟩), .iface 9 (.string nm), .iface 9 (.string nd), .iface 3 (I fl), .iface 3 (I fm), .iface 3 (I fr)] 20)
                  have HFI := Lib.hid (genW_fine hok)
                  have HN1 := Lib.hid (HN.out.call hz)
                  have HB1 := Lib.hid (HB.out.trans (hz.mono HB.out.size))
                  clear hz hok HN HB
                  have HC := Lib.hid (line_any (genW ⟨nm, nd, fl, fm, fr⟩) 6 (some ⟨wa.heap.size + 1, 0, none⟩) 6 _ HRD.out (by omega) HFI.out (tab_below HTB.out HB1.out))
                  go_wp2_with fail
                  refine HC.out.mono ?_
                  rintro e w3 ⟨rfl, hb⟩
                  have HN3 := Lib.hid (HN1.out.call hb)
                  have HB3 := Lib.hid (HB1.out.trans (hb.mono HB1.out.size))
                  clear hb HC HN1 HB1 HRD HFI 
                  generalize hlt9 : lineT (genW ⟨nm, nd, fl, fm, fr⟩) = tx at *
                  clear hlt9
                  go_wp2_with (at_builtin; refine wpList_appS rfl _ _ rfl w.heap.size vo q tx w3.heap.size rfl rfl rfl HN3.out hql HB3.out.size ?_)
                  intro v' w4 hrow hb2
                  have HNN := Lib.hid (show Row w4 w.heap.size 9 1 v' (((([] ++ n.nodes.map fun s => lineT (nodeW s)) ++ n.switches.map fun s => lineT (switchW s)) ++ n.branches.map fun s => lineT (branchW s)) ++ (n.gens.take (k + 1)).map fun s => lineT (genW s)).length ((((([] ++ n.nodes.map fun s => lineT (nodeW s)) ++ n.switches.map fun s => lineT (switchW s)) ++ n.branches.map fun s => lineT (branchW s)) ++ (n.gens.take (k + 1)).map fun s => lineT (genW s)).map S) by rw [HT.out, List.length_append, List.map_append]; exact hrow)
                  have HBN := Lib.hid (HB3.out.trans (((Below.refl _ w3).alloc (Nat.le_refl _) _).mono HB3.out.size |>.trans hb2))
                  clear hrow hb2 HN3 HB3 HT
                  go_wp2
                  go_roundg (n.gens.length - (k + 1))
                  case measure => omega
                  case rel => exact ⟨k + 1, _, rfl, rfl, by go_num, by omega, HNN, HBN⟩
                · have hkn : k = n.gens.length := by omega
                  subst hkn
                  have hg := HN.out
                  rw [List.take_length] at hg
                  clear HN
                  have HN := Lib.hid (show Row wa w.heap.size 9 1 vo ((((([] ++ n.nodes.map fun s => lineT (nodeW s)) ++ n.switches.map fun s => lineT (switchW s)) ++ n.branches.map fun s => lineT (branchW s)) ++ n.gens.map fun s => lineT (genW s)) ++ (n.loads.take 0).map fun s => lineT (loadW s)).length (((((([] ++ n.nodes.map fun s => lineT (nodeW s)) ++ n.switches.map fun s => lineT (switchW s)) ++ n.branches.map fun s => lineT (branchW s)) ++ n.gens.map fun s => lineT (genW s)) ++ (n.loads.take 0).map fun s => lineT (loadW s)).map S) by rw [List.take_zero, List.map_nil, List.append_nil]; exact hg)
                  clear hg
                  have x4 : wa.cell? ⟨g0, 4, none⟩ = some (.slice la n.loads.length lc) := (HB.out.cell (p := ⟨g0, 4, none⟩) HG0.out).trans (HBX.out.cell 4)
                  have hg0 : g0 < wa.heap.size := Nat.lt_of_lt_of_le HG0.out HB.out.size
                  go_wp2
                  clear x4 hg0
                  go_loopg [3, 137] (n.loads.length - 0) (fun r o u wr => ∃ k : Nat, ∃ vo : Value, o = vo ∧ r = n.loads.length - k ∧ u = I k ∧ k ≤ n.loads.length ∧ Hid (Row wr w.heap.size 9 1 vo ((((([] ++ n.nodes.map fun s => lineT (nodeW s)) ++ n.switches.map fun s => lineT (switchW s)) ++ n.branches.map fun s => lineT (branchW s)) ++ n.gens.map fun s => lineT (genW s)) ++ (n.loads.take k).map fun s => lineT (loadW s)).length (((((([] ++ n.nodes.map fun s => lineT (nodeW s)) ++ n.switches.map fun s => lineT (switchW s)) ++ n.branches.map fun s => lineT (branchW s)) ++ n.gens.map fun s => lineT (genW s)) ++ (n.loads.take k).map fun s => lineT (loadW s)).map S)) ∧ Hid (Below w.heap.size w wr))
                  case atStart => exact ⟨0, _, rfl, rfl, rfl, by omega, HN, HB⟩
                  case round =>
                    clear HN HB
                    obtain ⟨k, vo, hvo, rfl, rfl, hk, HN, HB⟩ := hrel
                    replace hvo := hvo.symm
                    subst hvo
                    obtain ⟨wa, rfl⟩ : ∃ wa : World, wa = wr := ⟨_, rfl⟩
                    have hkb : n.loads.length ≤ 100 := by have h1 := HV.out.hl; omega
                    by_cases hlt : k < n.loads.length
                    · obtain ⟨x, hx⟩ : ∃ x, n.loads[k]? = some x := ⟨_, List.getElem?_eq_getElem hlt⟩
                      have hok := HOK.out.lo x (List.mem_of_getElem? hx)
                      have HT := Lib.hid (show (((([] ++ n.nodes.map fun s => lineT (nodeW s)) ++ n.switches.map fun s => lineT (switchW s)) ++ n.branches.map fun s => lineT (branchW s)) ++ n.gens.map fun s => lineT (genW s)) ++ (n.loads.take (k + 1)).map (fun s => lineT (loadW s)) = ((((([] ++ n.nodes.map fun s => lineT (nodeW s)) ++ n.switches.map fun s => lineT (switchW s)) ++ n.branches.map fun s => lineT (branchW s)) ++ n.gens.map fun s => lineT (genW s)) ++ (n.loads.take k).map fun s => lineT (loadW s)) ++ [lineT (loadW x)] by rw [List.take_add_one, hx, List.map_append, ← List.append_assoc]; rfl)
                      have hql : ((((([] ++ n.nodes.map fun s => lineT (nodeW s)) ++ n.switches.map fun s => lineT (switchW s)) ++ n.branches.map fun s => lineT (branchW s)) ++ n.gens.map fun s => lineT (genW s)) ++ (n.loads.take k).map fun s => lineT (loadW s)).length ≤ 1000000 := by have h1 := HV.out.hn; have h2 := HV.out.hw; have h3 := HV.out.hb; have h4 := HV.out.hg; have h5 := HV.out.hl; have h6 := HV.out.hs; simp only [List.length_append, List.length_map, List.length_take, List.length_nil]; omega
                      obtain ⟨b, off, rfl, _, hcs⟩ := reads_by (f := LoadD.cells) (sz := 3) (fun _ => rfl) (by omega) (HNI.out.loads.below HB.out) hlt
                      have hx2 : n.loads[k] = x := by rw [List.getElem?_eq_getElem hlt] at hx; exact Option.some.inj hx
                      rw [hx2] at hcs
                      clear hx hx2
                      generalize (((([] ++ n.nodes.map fun s => lineT (nodeW s)) ++ n.switches.map fun s => lineT (switchW s)) ++ n.branches.map fun s => lineT (branchW s)) ++ n.gens.map fun s => lineT (genW s)) ++ (n.loads.take k).map (fun s => lineT (loadW s)) = q at *
                      obtain ⟨nm, nd, de⟩ := x
                      have c0 := hcs 0 _ rfl
                      have c1 := hcs 1 _ rfl
                      have c2 := hcs 2 _ rfl
                      simp only [← Nat.add_assoc, Nat.add_zero] at c0 c1 c2
                      clear hcs
                      have HRD := Lib.hid (show Reads ((wa.alloc (.cells #[.string nm, .string nd, I de] 59)).alloc (.cells #[.iface 9 (.string ⟨#[108, 111, 97, 100]⟩), .iface 9 (.string nm), .iface 9 (.string nd), .iface 3 (I de)] 20)) ((wa.alloc (.cells #[.string nm, .string nd, I de] 59)).alloc (.cells #[.iface 9 (.string ⟨#[108, 111, 97, 100]⟩), .iface 9 (.string nm), .iface 9 (.string nd), .iface 3 (I de)] 20)).heap.size 1 (some ⟨wa.heap.size + 1, 0, none⟩) 4 ((loadW ⟨nm, nd, de⟩).map Wd.val) from (reads_at0 (wa.alloc (.cells #[.string nm, .string nd, I de] 59)) 20 ((loadW ⟨nm, nd, de⟩).map Wd.val) 4 1 (wa.heap.size + 1) (World.size_alloc _ _) rfl).more (by rw [World.size_alloc, World.size_alloc]; exact Nat.le_refl _))
                      have hz := below2 wa (.cells #[.string nm, .string nd, I de] 59) (.cells #[.iface 9 (.string ⟨#[108, 111, 97, 100]⟩), .iface 9 (.string nm), .iface 9 (.string nd), .iface 3 (I de)] 20)
                      have HFI := Lib.hid (loadW_fine hok)
                      have HN1 := Lib.hid (HN.out.call hz)
                      have HB1 := Lib.hid (HB.out.trans (hz.mono HB.out.size))
                      clear hz hok HN HB
                      have HC := Lib.hid (line_any (loadW ⟨nm, nd, de⟩) 4 (some ⟨wa.heap.size + 1, 0, none⟩) 4 _ HRD.out (by omega) HFI.out (tab_below HTB.out HB1.out))
                      go_wp2_with fail
                      refine HC.out.mono ?_
                      rintro e w3 ⟨rfl, hb⟩
                      have HN3 := Lib.hid (HN1.out.call hb)
                      have HB3 := Lib.hid (HB1.out.trans (hb.mono HB1.out.size))
                      clear hb HC HN1 HB1 HRD HFI 
                      generalize hlt9 : lineT (loadW ⟨nm, nd, de⟩) = tx at *
                      clear hlt9
                      go_wp2_with (at_builtin; refine wpList_appS rfl _ _ rfl w.heap.size vo q tx w3.heap.size rfl rfl rfl HN3.out hql HB3.out.size ?_)
                      intro v' w4 hrow hb2
                      have HNN := Lib.hid (show Row w4 w.heap.size 9 1 v' ((((([] ++ n.nodes.map fun s => lineT (nodeW s)) ++ n.switches.map fun s => lineT (switchW s)) ++ n.branches.map fun s => lineT (branchW s)) ++ n.gens.map fun s => lineT (genW s)) ++ (n.loads.take (k + 1)).map fun s => lineT (loadW s)).length (((((([] ++ n.nodes.map fun s => lineT (nodeW s)) ++ n.switches.map fun s => lineT (switchW s)) ++ n.branches.map fun s => lineT (branchW s)) ++ n.gens.map fun s => lineT (genW s)) ++ (n.loads.take (k + 1)).map fun s => lineT (loadW s)).map S) by rw [HT.out, List.length_append, List.map_append]; exact hrow)
                      have HBN := Lib.hid (HB3.out.trans (((Below.refl _ w3).alloc (Nat.le_refl _) _).mono HB3.out.size |>.trans hb2))
                      clear hrow hb2 HN3 HB3 HT
                      go_wp2
                      go_roundg (n.loads.length - (k + 1))
                      case measure => omega
                      case rel => exact ⟨k + 1, _, rfl, rfl, by go_num, by omega, HNN, HBN⟩
                    · have hkn : k = n.loads.length := by omega
                      subst hkn
                      have hg := HN.out
                      rw [List.take_length] at hg
                      clear HN
                      have HN := Lib.hid (show Row wa w.heap.size 9 1 vo (((((([] ++ n.nodes.map fun s => lineT (nodeW s)) ++ n.switches.map fun s => lineT (switchW s)) ++ n.branches.map fun s => lineT (branchW s)) ++ n.gens.map fun s => lineT (genW s)) ++ n.loads.map fun s => lineT (loadW s)) ++ (n.stores.take 0).map fun s => lineT (storeW s)).length ((((((([] ++ n.nodes.map fun s => lineT (nodeW s)) ++ n.switches.map fun s => lineT (switchW s)) ++ n.branches.map fun s => lineT (branchW s)) ++ n.gens.map fun s => lineT (genW s)) ++ n.loads.map fun s => lineT (loadW s)) ++ (n.stores.take 0).map fun s => lineT (storeW s)).map S) by rw [List.take_zero, List.map_nil, List.append_nil]; exact hg)
                      clear hg
                      have x5 : wa.cell? ⟨g0, 5, none⟩ = some (.slice tA n.stores.length tc) := (HB.out.cell (p := ⟨g0, 5, none⟩) HG0.out).trans (HBX.out.cell 5)
                      have hg0 : g0 < wa.heap.size := Nat.lt_of_lt_of_le HG0.out HB.out.size
                      go_wp2
                      clear x5 hg0
                      go_loopg [3, 160] (n.stores.length - 0) (fun r o u wr => ∃ k : Nat, ∃ vo : Value, o = vo ∧ r = n.stores.length - k ∧ u = I k ∧ k ≤ n.stores.length ∧ Hid (Row wr w.heap.size 9 1 vo (((((([] ++ n.nodes.map fun s => lineT (nodeW s)) ++ n.switches.map fun s => lineT (switchW s)) ++ n.branches.map fun s => lineT (branchW s)) ++ n.gens.map fun s => lineT (genW s)) ++ n.loads.map fun s => lineT (loadW s)) ++ (n.stores.take k).map fun s => lineT (storeW s)).length ((((((([] ++ n.nodes.map fun s => lineT (nodeW s)) ++ n.switches.map fun s => lineT (switchW s)) ++ n.branches.map fun s => lineT (branchW s)) ++ n.gens.map fun s => lineT (genW s)) ++ n.loads.map fun s => lineT (loadW s)) ++ (n.stores.take k).map fun s => lineT (storeW s)).map S)) ∧ Hid (Below w.heap.size w wr))
                      case atStart => exact ⟨0, _, rfl, rfl, rfl, by omega, HN, HB⟩
                      case round =>
                        clear HN HB
                        obtain ⟨k, vo, hvo, rfl, rfl, hk, HN, HB⟩ := hrel
                        replace hvo := hvo.symm
                        subst hvo
                        obtain ⟨wa, rfl⟩ : ∃ wa : World, wa = wr := ⟨_, rfl⟩
                        have hkb : n.stores.length ≤ 100 := by have h1 := HV.out.hs; omega
                        by_cases hlt : k < n.stores.length
                        · obtain ⟨x, hx⟩ : ∃ x, n.stores[k]? = some x := ⟨_, List.getElem?_eq_getElem hlt⟩
                          have hok := HOK.out.st x (List.mem_of_getElem? hx)
                          have HT := Lib.hid (show ((((([] ++ n.nodes.map fun s => lineT (nodeW s)) ++ n.switches.map fun s => lineT (switchW s)) ++ n.branches.map fun s => lineT (branchW s)) ++ n.gens.map fun s => lineT (genW s)) ++ n.loads.map fun s => lineT (loadW s)) ++ (n.stores.take (k + 1)).map (fun s => lineT (storeW s)) = (((((([] ++ n.nodes.map fun s => lineT (nodeW s)) ++ n.switches.map fun s => lineT (switchW s)) ++ n.branches.map fun s => lineT (branchW s)) ++ n.gens.map fun s => lineT (genW s)) ++ n.loads.map fun s => lineT (loadW s)) ++ (n.stores.take k).map fun s => lineT (storeW s)) ++ [lineT (storeW x)] by rw [List.take_add_one, hx, List.map_append, ← List.append_assoc]; rfl)
                          have hql : (((((([] ++ n.nodes.map fun s => lineT (nodeW s)) ++ n.switches.map fun s => lineT (switchW s)) ++ n.branches.map fun s => lineT (branchW s)) ++ n.gens.map fun s => lineT (genW s)) ++ n.loads.map fun s => lineT (loadW s)) ++ (n.stores.take k).map fun s => lineT (storeW s)).length ≤ 1000000 := by have h1 := HV.out.hn; have h2 := HV.out.hw; have h3 := HV.out.hb; have h4 := HV.out.hg; have h5 := HV.out.hl; have h6 := HV.out.hs; simp only [List.length_append, List.length_map, List.length_take, List.length_nil]; omega
                          obtain ⟨b, off, rfl, _, hcs⟩ := reads_by (f := StoreD.cells) (sz := 5) (fun _ => rfl) (by omega) (HNI.out.stores.below HB.out) hlt
                          have hx2 : n.stores[k] = x := by rw [List.getElem?_eq_getElem hlt] at hx; exact Option.some.inj hx
                          rw [hx2] at hcs
                          clear hx hx2
                          generalize ((((([] ++ n.nodes.map fun s => lineT (nodeW s)) ++ n.switches.map fun s => lineT (switchW s)) ++ n.branches.map fun s => lineT (branchW s)) ++ n.gens.map fun s => lineT (genW s)) ++ n.loads.map fun s => lineT (loadW s)) ++ (n.stores.take k).map (fun s => lineT (storeW s)) = q at *
                          obtain ⟨nm, nd, fc, fd, fk⟩ := x
                          have c0 := hcs 0 _ rfl
                          have c1 := hcs 1 _ rfl
                          have c2 := hcs 2 _ rfl
                          have c3 := hcs 3 _ rfl
                          have c4 := hcs 4 _ rfl
                          simp only [← Nat.add_assoc, Nat.add_zero] at c0 c1 c2 c3 c4
                          clear hcs
                          have HRD := Lib.hid (show Reads ((wa.alloc (.cells #[.string nm, .string nd, I fc, I fd, I fk] 68)).alloc (.cells #[.iface 9 (.string ⟨#[115, 116, 111, 114, 101]⟩), .iface 9 (.string nm), .iface 9 (.string nd), .iface 3 (I fc), .iface 3 (I fd), .iface 3 (I fk)] 20)) ((wa.alloc (.cells #[.string nm, .string nd, I fc, I fd, I fk] 68)).alloc (.cells #[.iface 9 (.string ⟨#[115, 116, 111, 114, 101]⟩), .iface 9 (.string nm), .iface 9 (.string nd), .iface 3 (I fc), .iface 3 (I fd), .iface 3 (I fk)] 20)).heap.size 1 (some ⟨wa.heap.size + 1, 0, none⟩) 6 ((storeW ⟨nm, nd, fc, fd, fk⟩).map Wd.val) from (reads_at0 (wa.alloc (.cells #[.string nm, .string nd, I fc, I fd, I fk] 68)) 20 ((storeW ⟨nm, nd, fc, fd, fk⟩).map Wd.val) 6 1 (wa.heap.size + 1) (World.size_alloc _ _) rfl).more (by rw [World.size_alloc, World.size_alloc]; exact Nat.le_refl _))
                          have hz := below2 wa (.cells #[.string nm, .string nd, I fc, I fd, I fk] 68) (.cells #[.iface 9 (.string ⟨#[115, 116, 111, 114, 101]⟩), .iface 9 (.string nm), .iface 9 (.string nd), .iface 3 (I fc), .iface 3 (I fd), .iface 3 (I fk)] 20)
                          have HFI := Lib.hid (storeW_fine hok)
                          have HN1 := Lib.hid (HN.out.call hz)
                          have HB1 := Lib.hid (HB.out.trans (hz.mono HB.out.size))
                          clear hz hok HN HB
                          have HC := Lib.hid (line_any (storeW ⟨nm, nd, fc, fd, fk⟩) 6 (some ⟨wa.heap.size + 1, 0, none⟩) 6 _ HRD.out (by omega) HFI.out (tab_below HTB.out HB1.out))
                          go_wp2_with fail
                          refine HC.out.mono ?_
                          rintro e w3 ⟨rfl, hb⟩
                          have HN3 := Lib.hid (HN1.out.call hb)
                          have HB3 := Lib.hid (HB1.out.trans (hb.mono HB1.out.size))
                          clear hb HC HN1 HB1 HRD HFI 
                          generalize hlt9 : lineT (storeW ⟨nm, nd, fc, fd, fk⟩) = tx at *
                          clear hlt9
                          go_wp2_with (at_builtin; refine wpList_appS rfl _ _ rfl w.heap.size vo q tx w3.heap.size rfl rfl rfl HN3.out hql HB3.out.size ?_)
                          intro v' w4 hrow hb2
                          have HNN := Lib.hid (show Row w4 w.heap.size 9 1 v' (((((([] ++ n.nodes.map fun s => lineT (nodeW s)) ++ n.switches.map fun s => lineT (switchW s)) ++ n.branches.map fun s => lineT (branchW s)) ++ n.gens.map fun s => lineT (genW s)) ++ n.loads.map fun s => lineT (loadW s)) ++ (n.stores.take (k + 1)).map fun s => lineT (storeW s)).length ((((((([] ++ n.nodes.map fun s => lineT (nodeW s)) ++ n.switches.map fun s => lineT (switchW s)) ++ n.branches.map fun s => lineT (branchW s)) ++ n.gens.map fun s => lineT (genW s)) ++ n.loads.map fun s => lineT (loadW s)) ++ (n.stores.take (k + 1)).map fun s => lineT (storeW s)).map S) by rw [HT.out, List.length_append, List.map_append]; exact hrow)
                          have HBN := Lib.hid (HB3.out.trans (((Below.refl _ w3).alloc (Nat.le_refl _) _).mono HB3.out.size |>.trans hb2))
                          clear hrow hb2 HN3 HB3 HT
                          go_wp2
                          go_roundg (n.stores.length - (k + 1))
                          case measure => omega
                          case rel => exact ⟨k + 1, _, rfl, rfl, by go_num, by omega, HNN, HBN⟩
                        · have hkn : k = n.stores.length := by omega
                          subst hkn
                          have hg := HN.out
                          rw [List.take_length] at hg
                          clear HN
                          have HQ := Lib.hid (show (((((([] ++ n.nodes.map fun s => lineT (nodeW s)) ++ n.switches.map fun s => lineT (switchW s)) ++ n.branches.map fun s => lineT (branchW s)) ++ n.gens.map fun s => lineT (genW s)) ++ n.loads.map fun s => lineT (loadW s)) ++ n.stores.map fun s => lineT (storeW s)) = linesN n by simp [linesN, List.append_assoc])
                          have HR := Lib.hid (show Row wa w.heap.size 9 1 vo (linesN n).length ((linesN n).map S) by rw [← HQ.out]; exact hg)
                          clear hg HQ
                          go_wp2
                          go_ret
                          exact HRET.out _ _ ⟨vo, rfl, HR.out, HB.out⟩
end Go.Proofs.YtglbelmljdgaoaaGreatDoor
