/- station.Buses, topology.Of's check; station.check. -/
import Derived.Test.YtglbelmljdgaoaaDoorEdges
namespace Go.Proofs.YtglbelmljdgaoaaDoor
open Go.RowKit

def RetRow (w : World) (r : List Int) (e : Ending) (w' : World) : Prop := ∃ v, e = .returned v ∧ Row w' w.heap.size 3 1 v r.length (r.map I) ∧ Below w.heap.size w w'
def busesL (n : NetD) : List Int := (guardE n.nodes.length ((edgesL n false).map (·.1)) [] (parts n.nodes.length ((edgesL n false).map (·.1)) (-1))).1

theorem edgesFrom_len (nodes : List ByteArray) (o : Bool) (i : Nat) (s : List SwitchD) : (edgesFrom nodes o i s).length ≤ s.length := by
  induction s generalizing i with
  | nil => simp [edgesFrom]
  | cons x s ih =>
    rw [edgesFrom]
    split
    · have := ih (i + 1); simp; omega
    · have := ih (i + 1); simp; omega

theorem gargs_row {w : World} {base n : Nat} {l : List (Int × Int)} {A : Option Addr} {c : Nat} (h : Row w base 105 2 (.slice A l.length c) l.length (cells2 l)) (hl : l.length ≤ 1000) (hn : n ≤ 1000) : GArgs w (n : Int) l A c :=
  ⟨h.reads, by omega, by omega, by omega, by
    rcases h.2 with ⟨hv, h0⟩ | ⟨g, off, cap, cur, hv, _, _, hnc, _⟩
    · omega
    · injection hv with _ _ h3; omega⟩

set_option maxRecDepth 100000 in
set_option maxHeartbeats 1000000 in
theorem buses_any (n : NetD) (v : NetV) (w : World) (hN : NetIn w n v) (h1 : n.nodes.length ≤ 1000) (h2 : n.switches.length ≤ 1000) : Calls Tryd.prog 47 #[v.val n] w (RetRow w (busesL n)) := by
  have hE := edges_any n v false (w.alloc (Obj.cells (v.parts n) 29)) (hN.below ((Below.refl _ w).alloc (Nat.le_refl _) _)) h1 h2
  have HE := Lib.hid hE
  have hel := Nat.le_trans (edgesFrom_len n.nodes false 0 n.switches) h2
  have hel' : (edgesL n false).length ≤ 1000 := hel
  clear hE hel
  unfold NetV.val NetV.parts at *
  go_enter Tryd.func47, Tryd.ntmps47
  go_wp2_with fail
  refine HE.out.mono ?_
  rintro e w1 ⟨lv, kv, rfl, hl, hk, hb⟩
  obtain ⟨A, c, rfl⟩ := hl.val
  have HBU := Lib.hid (show busesL n = (guardE n.nodes.length ((edgesL n false).map (·.1)) [] (parts n.nodes.length ((edgesL n false).map (·.1)) (-1))).1 from rfl)
  have hll : ((edgesL n false).map (·.1)).length = (edgesL n false).length := by simp
  obtain ⟨l1, hl1⟩ : ∃ l1, (edgesL n false).map (·.1) = l1 := ⟨_, rfl⟩
  rw [← hll] at hl hel' ⊢
  rw [hl1] at hl hel' HBU ⊢
  have HC := Lib.hid (components_any _ _ A c w1 (gargs_row hl hel' h1))
  have c0 := ((Blk.new w 29 _).below hb (by simp)).cell 0
  have hz := hb.size
  have HB := Lib.hid hb
  clear hl hk hb hll hl1 HE
  go_wp2_with fail
  refine HC.out.mono ?_
  rintro e w2 ⟨v2, rfl, hr2, hb2⟩
  have HF : Hid (RetRow w (busesL n) (.returned v2) w2) := by
    rw [HBU.out]
    exact ⟨v2, rfl, hr2.less (by simp at hz; omega), box_below (HB.out.trans (hb2.mono HB.out.size))⟩
  clear hr2 hb2 HC
  go_wp2
  go_ret
  exact HF.out

def stCheck (n : NetD) (names : List ByteArray) : Int := if checkN n = 0 then (if (names.all fun s => Lib.containsS n.nodes s) = true then 0 else 6) else checkN n

end Go.Proofs.YtglbelmljdgaoaaDoor
