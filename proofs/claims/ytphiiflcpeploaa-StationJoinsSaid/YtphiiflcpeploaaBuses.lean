/- station.Buses, topology.Of's check; station.check. -/
import Derived.Test.YtphiiflcpeploaaEdges
namespace Go.Proofs.Ytphiiflcpeploaa
open Go.RowKit

def RetRow (w : World) (r : List Int) (e : Ending) (w' : World) : Prop := ∃ v, e = .returned v ∧ Row w' w.heap.size 3 1 v r.length (r.map I) ∧ Below w.heap.size w w'
def busesL (n : NetD) : List Int := (guardE n.nodes.length ((edgesL n false).map (·.1)) [] (parts n.nodes.length ((edgesL n false).map (·.1)) (-1))).1

theorem edgesFrom_len (nodes : List ByteArray) (o : Bool) (i : Nat) (s : List SwitchD) : (edgesFrom nodes o i s).length ≤ s.length := by
  induction s generalizing i with
  | nil => simp [edgesFrom]
  | cons x s ih =>
    rw [edgesFrom]
    split
    · have := ih (i + 1); simp; omega
    · have := ih (i + 1); simp; omega

theorem gargs_row {w : World} {base n : Nat} {l : List (Int × Int)} {A : Option Addr} {c : Nat} (h : Row w base 32 2 (.slice A l.length c) l.length (cells2 l)) (hl : l.length ≤ 1000) (hn : n ≤ 1000) : GArgs w (n : Int) l A c :=
  ⟨h.reads, by omega, by omega, by omega, by
    rcases h.2 with ⟨hv, h0⟩ | ⟨g, off, cap, cur, hv, _, _, hnc, _⟩
    · omega
    · injection hv with _ _ h3; omega⟩

set_option maxRecDepth 100000 in
set_option maxHeartbeats 1000000 in
theorem buses_any (n : NetD) (v : NetV) (w : World) (hN : NetIn w n v) (h1 : n.nodes.length ≤ 1000) (h2 : n.switches.length ≤ 1000) : Calls Try.prog 56 #[v.val n] w (RetRow w (busesL n)) := by
  have hE := edges_any n v false (w.alloc (Obj.cells (v.parts n) 47)) (hN.below ((Below.refl _ w).alloc (Nat.le_refl _) _)) h1 h2
  have HE := Lib.hid hE
  have hel := Nat.le_trans (edgesFrom_len n.nodes false 0 n.switches) h2
  have hel' : (edgesL n false).length ≤ 1000 := hel
  clear hE hel
  unfold NetV.val NetV.parts at *
  go_enter Try.func56, Try.ntmps56
  go_wp2_with fail
  refine HE.out.mono ?_
  rintro e w1 ⟨lv, kv, rfl, hl, hk, hb⟩
  obtain ⟨A, c, rfl⟩ := hl.val
  have HBU := Lib.hid (show busesL n = (guardE n.nodes.length ((edgesL n false).map (·.1)) [] (parts n.nodes.length ((edgesL n false).map (·.1)) (-1))).1 from rfl)
  have hll : ((edgesL n false).map (·.1)).length = (edgesL n false).length := by simp
  obtain ⟨l1, hl1⟩ : ∃ l1, (edgesL n false).map (·.1) = l1 := ⟨_, rfl⟩
  rw [← hll] at hl hel' ⊢
  rw [hl1] at hl hel' HBU ⊢
  have HC := Lib.hid (components_any _ _ A c w1 (gargs_row hl hel' h1))
  have c0 := ((Blk.new w 47 _).below hb (by simp)).cell 0
  have hz := hb.size
  have HB := Lib.hid hb
  clear hl hk hb hll hl1 HE
  go_wp2_with fail
  refine HC.out.mono ?_
  rintro e w2 ⟨v2, rfl, hr2, hb2⟩
  have HF : Hid (RetRow w (busesL n) (.returned v2) w2) := by
    rw [HBU.out]
    exact ⟨v2, rfl, hr2.less (by simp at hz; omega), box_below (HB.out.trans (hb2.mono HB.out.size))⟩
  clear hr2 hb2 HC
  go_wp2
  go_ret
  exact HF.out

def stCheck (n : NetD) (names : List ByteArray) : Int := if checkN n = 0 then (if (names.all fun s => Lib.containsS n.nodes s) = true then 0 else 6) else checkN n

set_option maxRecDepth 100000 in
set_option maxHeartbeats 1000000 in
theorem stCheck_any (n : NetD) (v : NetV) (names : List ByteArray) (A : Option Addr) (c : Nat) (w : World) (hN : Net w n v) (hA : Reads w w.heap.size 1 A names.length (names.map S)) (hl : names.length ≤ 1000) :
    Calls Try.prog 53 #[v.val n, .slice A names.length c] w fun e w' => e = .returned (I (stCheck n names)) ∧ Below w.heap.size w w' := by
  have hb0 : Below w.heap.size w (w.alloc (Obj.cells (v.parts n) 47)) := (Below.refl _ w).alloc (Nat.le_refl _) _
  have HC := Lib.hid (netCheck_any n v (w.alloc (Obj.cells (v.parts n) 47)) (hN.below hb0))
  have HN := Lib.hid hN
  have HA := Lib.hid hA
  have HD := Lib.hid (show stCheck n names = if checkN n = 0 then (if (names.all fun s => Lib.containsS n.nodes s) = true then 0 else 6) else checkN n from rfl)
  have hsm : checkN n = 0 → n.nodes.length ≤ 24 := fun h => by
    unfold checkN at h
    split at h
    · cases h
    · omega
  have HSM := Lib.hid hsm
  clear hb0 hN hA hsm
  unfold NetV.val NetV.parts at *
  obtain ⟨er, her⟩ : ∃ er, checkN n = er := ⟨_, rfl⟩
  rw [her] at HC HD HSM
  clear her
  go_enter Try.func53, Try.ntmps53
  go_wp2_with fail
  refine HC.out.mono ?_
  rintro e w1 ⟨rfl, hb1⟩
  have HB := Lib.hid (box_below hb1)
  have c0 := ((Blk.new w 47 _).below hb1 (by simp)).cell 0
  have hz := hb1.size
  rw [World.size_alloc] at hz
  clear hb1 HC
  by_cases h0 : er = 0
  · subst h0
    have hn24 := HSM.out rfl
    have HR1 := Lib.hid ((HA.out.below HB.out).more HB.out.size)
    have HR2 := Lib.hid ((HN.out.net.nodes.below HB.out).more HB.out.size)
    go_wp2
    go_loopg [15] (names.length - 0) (fun r u wr => ∃ k : Nat, r = names.length - k ∧ u = I k ∧ k ≤ names.length ∧ w1 = wr ∧ Hid ((names.take k).all (fun e => Lib.containsS n.nodes e) = true))
    case atStart => exact ⟨0, rfl, rfl, by omega, rfl, rfl⟩
    case round =>
      obtain ⟨k, rfl, rfl, hk, rfl, HT⟩ := hrel
      by_cases hlt : k < names.length
      · obtain ⟨b, off, u, rfl, _, hu, hcu⟩ := HR1.out.at1 hlt
        obtain ⟨x, hx⟩ : ∃ x, names[k] = x := ⟨_, rfl⟩
        obtain rfl : u = S x := by simp [hlt, hx] at hu; exact hu.symm
        cases hcb : Lib.containsS n.nodes x
        · have HF := Lib.hid (show (names.all fun e => Lib.containsS n.nodes e) = false by
            rw [Bool.eq_false_iff]
            intro h
            have := List.all_eq_true.1 h x (by rw [← hx]; exact List.getElem_mem hlt)
            rw [hcb] at this
            cases this)
          clear hu hx
          go_wp2_with (go_at_call 71; refine (containsS_any n.nodes _ v.na v.nc x _ _ rfl HR2.out (by omega)).mono ?_; rintro e w' ⟨rfl, rfl⟩; rw [hcb])
          go_ret
          exact ⟨ret_int (by rw [HD.out, HF.out]; simp), HB.out⟩
        · have HT2 := Lib.hid (show (names.take (k + 1)).all (fun e => Lib.containsS n.nodes e) = true by
            rw [List.take_succ_eq_append_getElem hlt, List.all_append, HT.out, hx]
            simp [hcb])
          clear hu hx
          go_wp2_with (go_at_call 71; refine (containsS_any n.nodes _ v.na v.nc x _ _ rfl HR2.out (by omega)).mono ?_; rintro e w' ⟨rfl, rfl⟩; rw [hcb])
          go_roundg (names.length - (k + 1))
          case measure => omega
          case rel => exact ⟨k + 1, rfl, by go_num, by omega, rfl, HT2⟩
      · have HT3 := Lib.hid (show (names.all fun e => Lib.containsS n.nodes e) = true by
          have := HT.out
          rwa [List.take_of_length_le (by omega)] at this)
        go_wp2
        go_ret
        exact ⟨ret_int (by rw [HD.out, HT3.out]; simp), HB.out⟩
  · have t1 : (er == 0) = false := beq_eq_false_iff_ne.2 h0
    have t2 : (er != 0) = true := by rw [bne_iff_ne]; exact h0
    have HX := Lib.hid (show stCheck n names = er by rw [HD.out, if_neg h0])
    clear h0
    go_wp2
    go_ret
    exact ⟨ret_int HX.out.symm, HB.out⟩
end Go.Proofs.Ytphiiflcpeploaa
