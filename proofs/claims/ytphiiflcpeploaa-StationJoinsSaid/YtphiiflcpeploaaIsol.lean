/- station.Isolate. -/
import Derived.Test.YtphiiflcpeploaaNames
namespace Go.Proofs.Ytphiiflcpeploaa
open Go.RowKit

def RetStrsE (w : World) (r : List ByteArray × Int) (e : Ending) (w' : World) : Prop := ∃ v, e = .returned (.tuple #[v, I r.2]) ∧ Row w' w.heap.size 9 1 v r.1.length (r.1.map S) ∧ Below w.heap.size w w'
def touches (x : ByteArray) (s : SwitchD) : Bool := !s.opn && (decide (s.a = x) || decide (s.b = x))
def isoFrom (x : ByteArray) : List SwitchD → List ByteArray
  | [] => []
  | s :: l => if touches x s = true then s.name :: isoFrom x l else isoFrom x l
def isoE (n : NetD) (x : ByteArray) : List ByteArray × Int := if stCheck n [x] = 0 then (isoFrom x n.switches, 0) else ([], stCheck n [x])
theorem stCheck_ok {n : NetD} {l : List ByteArray} (h : stCheck n l = 0) : checkN n = 0 ∧ ∀ s ∈ l, s ∈ n.nodes := by
  rw [stCheck] at h
  by_cases h0 : checkN n = 0
  · rw [if_pos h0] at h
    refine ⟨h0, fun s hs => ?_⟩
    by_cases h1 : (l.all fun s => Lib.containsS n.nodes s) = true
    · exact (Lib.containsS_iff _ _).1 (List.all_eq_true.1 h1 s hs)
    · rw [if_neg h1] at h; cases h
  · rw [if_neg h0] at h; exact absurd h h0

structure IsoInv (wb : World) (x : ByteArray) (sws : List SwitchD) (res : List ByteArray) (j : Nat) (v : Value) (t : List ByteArray) (wr : World) : Prop where
  row : Row wr wb.heap.size 9 1 v t.length (t.map S)
  below : Below wb.heap.size wb wr
  rest : t ++ isoFrom x (sws.drop j) = res
  few : t.length ≤ j

set_option maxRecDepth 100000 in
set_option maxHeartbeats 2000000 in
theorem isolate_any (n : NetD) (v : NetV) (x : ByteArray) (w : World) (hN : Net w n v) : Calls Try.prog 25 #[v.val n, .string x] w (RetStrsE w (isoE n x)) := by
  have hb0 := below2 w (Obj.cells (v.parts n) 47) (Obj.cells #[.string x] 9)
  have HC := Lib.hid (stCheck_any n v [x] (some ⟨w.heap.size + 1, 0, none⟩) 1 _ (hN.below hb0) (reads_box1 w _ 9 x) (by simp))
  have HN := Lib.hid hN
  have HB0 := Lib.hid hb0
  have HBX := Lib.hid ((Blk.new w 47 (v.parts n)).alloc (Obj.cells #[.string x] 9))
  have HD := Lib.hid (show isoE n x = if stCheck n [x] = 0 then (isoFrom x n.switches, 0) else ([], stCheck n [x]) from rfl)
  have HOK := Lib.hid (@stCheck_ok n [x])
  clear hb0 hN
  unfold NetV.val NetV.parts at *
  obtain ⟨er, her⟩ : ∃ er, stCheck n [x] = er := ⟨_, rfl⟩
  rw [her] at HC HD HOK
  clear her
  obtain ⟨sa, hsa⟩ : ∃ sa, v.sa = sa := ⟨_, rfl⟩
  rw [hsa] at HC HBX HB0 ⊢
  have HSA := Lib.hid hsa
  clear hsa
  go_enter Try.func25, Try.ntmps25
  go_wp2_with fail
  refine HC.out.mono ?_
  rintro e w1 ⟨rfl, b1⟩
  have HB1 := Lib.hid (HB0.out.trans (b1.mono HB0.out.size))
  have HBX1 := Lib.hid (HBX.out.below b1 HBX.out.lt)
  clear b1 HC HBX HB0
  by_cases h0 : er = 0
  · subst h0
    have HV := Lib.hid (vnet (HOK.out rfl).1)
    have HD2 := Lib.hid (show isoE n x = (isoFrom x n.switches, 0) by rw [HD.out]; simp)
    have hw := HV.out.hw
    have x1 : w1.cell? ⟨w.heap.size, 1, none⟩ = some (.slice sa n.switches.length v.sc) := HBX1.out.cell 1
    have hl1 : w.heap.size < w1.heap.size := HBX1.out.lt
    have HIN := Lib.hid (HN.out.below HB1.out).net
    clear HD HOK
    go_wp2
    obtain ⟨res, hres⟩ : ∃ res, isoFrom x n.switches = res := ⟨_, rfl⟩
    rw [hres] at HD2
    have HI : IsoInv w1 x n.switches res 0 (.slice none 0 0) [] w1 := ⟨Row.nil _ _ _ _, Below.refl _ _, hres, by simp⟩
    clear hres
    go_loopg [7, 20] (n.switches.length - 0) (fun r lv iv wr => ∃ (j : Nat) (t : List ByteArray), r = n.switches.length - j ∧ iv = I j ∧ j ≤ n.switches.length ∧ IsoInv w1 x n.switches res j lv t wr)
    case atStart => exact ⟨0, [], rfl, rfl, by omega, HI⟩
    case round =>
      clear HI
      obtain ⟨j, t, rfl, rfl, hj, hG⟩ := hrel
      obtain ⟨wa, rfl⟩ : ∃ wa : World, wa = wr := ⟨_, rfl⟩
      have hza : w1.heap.size ≤ wa.heap.size := hG.below.size
      by_cases hlt : j < n.switches.length
      · obtain ⟨b, off, hba, hbl', hcs⟩ := reads_by (f := SwitchD.cells) (sz := 5) (fun _ => rfl) (by omega) (HIN.out.switches.below hG.below) hlt
        have hrest : n.switches.drop j = n.switches[j] :: n.switches.drop (j + 1) := List.drop_eq_getElem_cons hlt
        have HR := Lib.hid hG.rest
        obtain ⟨g, hg⟩ : ∃ g, n.switches[j] = g := ⟨_, rfl⟩
        rw [hrest, hg] at HR
        rw [hg] at hcs
        clear hg hrest
        obtain ⟨nm, xa, xb, br, op⟩ := g
        have c0 := hcs 0 _ rfl
        have c1 := hcs 1 _ rfl
        have c2 := hcs 2 _ rfl
        have c3 := hcs 3 _ rfl
        have c4 := hcs 4 _ rfl
        simp only [← Nat.add_assoc, Nat.add_zero] at c0 c1 c2 c3 c4
        have hsa := HSA.out.symm.trans hba
        subst hsa
        have HG := Lib.hid hG
        clear hcs hba hG
        have skip : Hid (touches x ⟨nm, xa, xb, br, op⟩ = false → t ++ isoFrom x (n.switches.drop (j + 1)) = res) := fun h => by rw [← HR.out, isoFrom, if_neg (by simp [h])]
        have take : Hid (touches x ⟨nm, xa, xb, br, op⟩ = true → (t ++ [nm]) ++ isoFrom x (n.switches.drop (j + 1)) = res) := fun h => by rw [← HR.out, isoFrom, if_pos h]; simp
        obtain ⟨i0, hi0, hz0, hz1', hz2'⟩ := info_parts Try.info9
        have HI0 := Lib.hid hi0
        have HZ0 := Lib.hid hz0
        have HZ1 := Lib.hid hz1'
        have HZ2 := Lib.hid hz2'
        clear hi0 hz0 hz1' hz2' HR
        have hfew : t.length ≤ 32 := by have := HG.out.few; omega
        have HL := Lib.hid (HG.out.row.alloc (Obj.cells #[.string nm, .string xa, .string xb, .bool br, .bool op] 93))
        have HBL := Lib.hid (HG.out.below.alloc hza (Obj.cells #[.string nm, .string xa, .string xb, .bool br, .bool op] 93))
        have yes : Hid True := trivial
        cases op
        case true =>
          have HX := Lib.hid (skip.out (by simp [touches]))
          clear skip take
          go_wp2
          go_roundg (n.switches.length - (j + 1))
          case measure => omega
          case rel => exact ⟨j + 1, t, rfl, by go_num, by omega, HL.out, HBL.out, HX.out, by have := HG.out.few; omega⟩
        case false =>
          by_cases ha : xa = x
          · have HX := Lib.hid (take.out (by simp [touches, ha]))
            clear skip take
            subst ha
            go_wp2_with (at_builtin; refine wpList_append_rowG rfl _ _ 40 rfl w1.heap.size 9 i0 _ 1 16 Try.underlying40 HI0.out HZ0.out HZ1.out HZ2.out rfl (by decide) u7 t.length (t.map S) rfl (HL.out.alloc _) (wa.heap.size + 1 + 1) (some ⟨wa.heap.size + 1, 0, none⟩) 1 1 [.string nm] rfl (reads_at0 _ 9 [.string nm] 1 1 _ (by simp) rfl) (by simp [Value.oneCell']) ?c1 ?c2 ?c3 ?_)
            case c1 => unfold maxLen; omega
            case c2 => omega
            case c3 => simp; omega
            intro v3 w3 hr3 hg3
            have HR3 := Lib.hid hr3
            have HB3 := Lib.hid ((HBL.out.alloc (by simp; omega) (Obj.cells #[.string nm] 9)).trans ((HL.out.alloc (Obj.cells #[.string nm] 9)).belowG hg3 (by simp; omega)))
            clear hr3 hg3
            go_wp2
            go_roundg (n.switches.length - (j + 1))
            case measure => omega
            case rel => exact ⟨j + 1, t ++ [nm], rfl, by go_num, by omega, by have := HR3.out; simpa using this, HB3.out, HX.out, by have := HG.out.few; simp; omega⟩
          · have ha' : (xa.toList == x.toList) = false := (Lib.bytes_beq_false_iff xa x).2 ha
            by_cases hb : xb = x
            · have HX := Lib.hid (take.out (by simp [touches, hb]))
              clear skip take ha
              subst hb
              go_wp2_with (at_builtin; refine wpList_append_rowG rfl _ _ 40 rfl w1.heap.size 9 i0 _ 1 16 Try.underlying40 HI0.out HZ0.out HZ1.out HZ2.out rfl (by decide) u7 t.length (t.map S) rfl (HL.out.alloc _) (wa.heap.size + 1 + 1) (some ⟨wa.heap.size + 1, 0, none⟩) 1 1 [.string nm] rfl (reads_at0 _ 9 [.string nm] 1 1 _ (by simp) rfl) (by simp [Value.oneCell']) ?c1 ?c2 ?c3 ?_)
              case c1 => unfold maxLen; omega
              case c2 => omega
              case c3 => simp; omega
              intro v3 w3 hr3 hg3
              have HR3 := Lib.hid hr3
              have HB3 := Lib.hid ((HBL.out.alloc (by simp; omega) (Obj.cells #[.string nm] 9)).trans ((HL.out.alloc (Obj.cells #[.string nm] 9)).belowG hg3 (by simp; omega)))
              clear hr3 hg3
              go_wp2
              go_roundg (n.switches.length - (j + 1))
              case measure => omega
              case rel => exact ⟨j + 1, t ++ [nm], rfl, by go_num, by omega, by have := HR3.out; simpa using this, HB3.out, HX.out, by have := HG.out.few; simp; omega⟩
            · have hb' : (xb.toList == x.toList) = false := (Lib.bytes_beq_false_iff xb x).2 hb
              have HX := Lib.hid (skip.out (by simp [touches, ha, hb]))
              clear skip take ha hb
              go_wp2
              go_roundg (n.switches.length - (j + 1))
              case measure => omega
              case rel => exact ⟨j + 1, t, rfl, by go_num, by omega, HL.out, HBL.out, HX.out, by have := HG.out.few; omega⟩
      · have HX := Lib.hid (show t = res by have := hG.rest; rwa [List.drop_of_length_le (by omega), isoFrom, List.append_nil] at this)
        have HROW := Lib.hid hG.row
        have HBW := Lib.hid (HB1.out.trans (hG.below.mono HB1.out.size))
        clear hG
        go_wp2
        go_ret2
        rw [HD2.out, ← HX.out]
        exact ⟨u7, rfl, HROW.out.less (by omega), HBW.out⟩
  · have t1 : (er == 0) = false := beq_eq_false_iff_ne.2 h0
    have t2 : (er != 0) = true := by rw [bne_iff_ne]; exact h0
    have HX := Lib.hid (show isoE n x = ([], er) by rw [HD.out, if_neg h0])
    clear h0
    go_wp2
    go_ret2
    rw [HX.out]
    exact ⟨_, rfl, Row.nil _ _ _ _, HB1.out⟩
end Go.Proofs.Ytphiiflcpeploaa
