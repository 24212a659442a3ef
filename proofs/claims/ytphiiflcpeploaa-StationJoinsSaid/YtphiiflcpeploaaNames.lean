/- station.names. -/
import Derived.Test.YtphiiflcpeploaaTFact
namespace Go.Proofs.Ytphiiflcpeploaa
open Go.RowKit

def RetStrs (w : World) (xs : List ByteArray) (e : Ending) (w' : World) : Prop := ∃ v, e = .returned v ∧ Row w' w.heap.size 9 1 v xs.length (xs.map S) ∧ Below w.heap.size w w'
/-- the name of the switch behind edge k -/
def swName (n : NetD) (i : Int) : ByteArray := ((n.switches[i.toNat]?).map (·.name)).getD ⟨#[]⟩
def namesL (n : NetD) (way which : List Int) : List ByteArray := way.map fun k => swName n (which.getD k.toNat 0)

theorem Reads.int_at {w : World} {B n : Nat} {A : Option Addr} {xs : List Int} (h : Reads w B 1 A n (xs.map I)) {k : Nat} (hk : k < n) : ∃ b off, A = some ⟨b, off, none⟩ ∧ b < B ∧ w.cell? ⟨b, off + k, none⟩ = some (I (xs.getD k 0)) := by
  obtain ⟨b, off, u, e, hb, hu, hc⟩ := h.at1 hk
  refine ⟨b, off, e, hb, ?_⟩
  have hl : xs.length = n := by have := h.1; simpa using this
  rw [hc, List.getD_eq_getElem?_getD]
  rw [List.getElem?_map] at hu
  have : xs[k]? = some (xs[k]'(by omega)) := List.getElem?_eq_getElem (by omega)
  rw [this] at hu ⊢
  simp at hu
  rw [← hu]
  rfl

structure NamesInv (wb : World) (xs : List ByteArray) (k : Nat) (v : Value) (wr : World) : Prop where
  row : Row wr wb.heap.size 9 1 v (xs.take k).length ((xs.take k).map S)
  below : Below wb.heap.size wb wr

theorem reads_oneD (w : World) (t : TypeId) (u : Value) : Reads (w.alloc (.cells #[u] t)).drew (w.heap.size + 1) 1 (some ⟨w.heap.size, 0, none⟩) 1 [u] := (reads_one w t u).drew

set_option maxRecDepth 100000 in
set_option maxHeartbeats 2000000 in
theorem names_any (n : NetD) (v : NetV) (way which : List Int) (A K : Option Addr) (ac kc : Nat) (w : World) (hN : NetIn w n v) (hA : Reads w w.heap.size 1 A way.length (way.map I)) (hK : Reads w w.heap.size 1 K which.length (which.map I))
    (hw : ∀ k ∈ way, 0 ≤ k ∧ k < which.length) (hk : ∀ i ∈ which, 0 ≤ i ∧ i < n.switches.length) (hal : way.length ≤ 1000) (_hkl : which.length ≤ 1000) (_hsl : n.switches.length ≤ 1000) :
    Calls Try.prog 60 #[v.val n, .slice A way.length ac, .slice K which.length kc] w (RetStrs w (namesL n way which)) := by
  have hb0 : Below w.heap.size w (w.alloc (Obj.cells (v.parts n) 47)) := (Below.refl _ w).alloc (Nat.le_refl _) _
  have HN := Lib.hid (hN.below hb0)
  have HA := Lib.hid ((hA.below hb0).more hb0.size)
  have HK := Lib.hid ((hK.below hb0).more hb0.size)
  have HB0 := Lib.hid hb0
  have HBX := Lib.hid (Blk.new w 47 (v.parts n))
  have HW := Lib.hid hw
  have HKI := Lib.hid hk
  clear hb0 hN hA hK hw hk
  unfold NetV.val NetV.parts at *
  go_enter Try.func60, Try.ntmps60
  go_wp2
  have HLN := Lib.hid (show (namesL n way which).length = way.length by simp [namesL])
  have HAT := Lib.hid (show ∀ k (hk : k < way.length), (namesL n way which)[k]? = some (swName n (which.getD way[k].toNat 0)) by intro k hk; simp [namesL, hk])
  obtain ⟨res, hres⟩ : ∃ res, namesL n way which = res := ⟨_, rfl⟩
  rw [hres] at HLN HAT
  have HRES := Lib.hid hres
  clear hres
  generalize w.alloc (Obj.cells #[Value.slice v.na n.nodes.length v.nc, Value.slice v.sa n.switches.length v.sc, Value.slice v.ba n.branches.length v.bc, Value.slice v.ga n.gens.length v.gc, Value.slice v.la n.loads.length v.lc, Value.slice v.ta n.stores.length v.tc] 47) = wb at *
  go_loopg [7, 12] (way.length - 0) (fun r lv iv wr => ∃ k : Nat, r = way.length - k ∧ iv = I k ∧ k ≤ way.length ∧ NamesInv wb res k lv wr)
  case atStart => exact ⟨0, rfl, rfl, by omega, Row.nil _ _ _ _, Below.refl _ _⟩
  case round =>
    obtain ⟨k, rfl, rfl, hk, hG⟩ := hrel
    obtain ⟨wa, rfl⟩ : ∃ wa : World, wa = wr := ⟨_, rfl⟩
    have hza : wb.heap.size ≤ wa.heap.size := hG.below.size
    have hlt1 : w.heap.size < wb.heap.size := HBX.out.lt
    by_cases hlt : k < way.length
    · obtain ⟨ab, aoff, hAe, hab, hca⟩ := ((HA.out.below hG.below)).int_at hlt
      have hx := HW.out way[k] (List.getElem_mem hlt)
      have hat := HAT.out k hlt
      have hgx : way.getD k 0 = way[k] := by rw [List.getD_eq_getElem?_getD, List.getElem?_eq_getElem hlt]; rfl
      rw [hgx] at hca
      obtain ⟨x, hxe⟩ : ∃ x, way[k] = x := ⟨_, rfl⟩
      rw [hxe] at hca hx hat
      clear hxe hgx
      obtain ⟨kx, rfl⟩ := Int.eq_ofNat_of_zero_le hx.1
      have hkx : kx < which.length := by omega
      obtain ⟨kb, koff, hKe, hkb, hck⟩ := ((HK.out.below hG.below)).int_at hkx
      have hi := HKI.out (which.getD kx 0) (by rw [List.getD_eq_getElem?_getD, List.getElem?_eq_getElem hkx]; exact List.getElem_mem hkx)
      rw [Int.toNat_natCast] at hat
      generalize which.getD kx 0 = y at *
      obtain ⟨ky, rfl⟩ := Int.eq_ofNat_of_zero_le hi.1
      have hky : ky < n.switches.length := by omega
      obtain ⟨sb, soff, hSe, hsb, hcs⟩ := reads_by (f := SwitchD.cells) (sz := 5) (fun _ => rfl) (by omega) (HN.out.switches.below hG.below) hky
      have hcn := hcs 0 (.string n.switches[ky].name) rfl
      rw [Nat.add_zero] at hcn
      have hsn : swName n (ky : Int) = n.switches[ky].name := by simp [swName, hky]
      rw [hsn] at hat
      obtain ⟨nm, hnm⟩ : ∃ nm, n.switches[ky].name = nm := ⟨_, rfl⟩
      rw [hnm] at hcn hat
      subst hAe hKe
      have x1 : wa.cell? ⟨w.heap.size, 1, none⟩ = some (.slice (some ⟨sb, soff, none⟩) n.switches.length v.sc) := by rw [← hSe]; exact (HBX.out.below hG.below HBX.out.lt).cell 1
      have hlt2 : w.heap.size < wa.heap.size := by omega
      have hx1 : (kx : Int) < which.length := by omega
      have hi1 : (ky : Int) < n.switches.length := by omega
      have HG := Lib.hid hG
      have HATK := Lib.hid hat
      clear hcs hG hnm hsn hx hi hat hSe
      go_wp2
      obtain ⟨i0, hi0, hz0, hz1', hz2'⟩ := info_parts Try.info9
      have HI0 := Lib.hid hi0
      have HZ0 := Lib.hid hz0
      have HZ1 := Lib.hid hz1'
      have HZ2 := Lib.hid hz2'
      clear hi0 hz0 hz1' hz2'
      have htl : (res.take k).length ≤ 1000 := by have := HLN.out; simp; omega
      obtain ⟨t, ht⟩ : ∃ t, res.take k = t := ⟨_, rfl⟩
      have HTK := Lib.hid (show res.take (k + 1) = t ++ [nm] by rw [List.take_add_one, HATK.out, ht]; rfl)
      have HL := Lib.hid HG.out.row
      rw [ht] at HL htl
      clear ht
      have hc1 : 0 ≤ (kx : Int) := by omega
      have hc2 : 0 ≤ (ky : Int) := by omega
      go_region_held3 (fun w' => w'.cell? ⟨w.heap.size, 1, none⟩ = some (.slice (some ⟨sb, soff, none⟩) n.switches.length v.sc) ∧ w'.cell? ⟨kb, koff + kx, none⟩ = some (I ky) ∧ w'.cell? ⟨sb, soff + ky * 5, none⟩ = some (.string nm))
        (first | (with_reducible exact ⟨x1, hck, hcn⟩) | (with_reducible exact HX.out) | go_keep)
        (first | (refine step_append_rowG (by rfl) _ _ 40 (by rfl) wb.heap.size 9 i0 _ 1 16 Try.underlying40 HI0.out HZ0.out HZ1.out HZ2.out rfl (by decide) u7 t.length (t.map S) (by rfl) (HL.out.alloc _).drew (wa.heap.size + 1) (some ⟨wa.heap.size, 0, none⟩) 1 1 [.string nm] (by rfl) (reads_oneD wa 9 _) (by simp [Value.oneCell']) (by unfold maxLen; omega) (by omega) (by simp; omega) ?_; intro v' w3 hr3 hg3; have HX := Lib.hid (show _ ∧ _ ∧ _ from ⟨app_keep HL.out hg3 x1 (by omega), app_keep HL.out hg3 hck (by omega), app_keep HL.out hg3 hcn (by omega)⟩)))
      have hR1 := (HL.out.alloc (Obj.cells #[.string nm] 9)).drew
      have HBE4 := Lib.hid (((HG.out.below.alloc (by omega) (Obj.cells #[.string nm] 9)).drew).trans (hR1.belowG hg3 (by simp; omega)))
      have HRO : Hid (Row w3 wb.heap.size 9 1 v' (res.take (k + 1)).length ((res.take (k + 1)).map S)) := by
        rw [HTK.out, List.length_append, List.map_append]; exact hr3
      clear hR1 hg3 hr3 HX
      go_wp2
      go_roundg (way.length - (k + 1))
      case measure => omega
      case rel => exact ⟨k + 1, rfl, by go_num, by omega, HRO.out, HBE4.out⟩
    · have htk : res.take k = res := List.take_of_length_le (by rw [HLN.out]; omega)
      have HROW := Lib.hid hG.row
      rw [htk] at HROW
      have HBW := Lib.hid (HB0.out.trans (hG.below.mono HB0.out.size))
      clear hG htk
      go_wp2
      go_ret
      rw [HRES.out]
      exact ⟨_, rfl, HROW.out.less (by omega), HBW.out⟩
end Go.Proofs.Ytphiiflcpeploaa
