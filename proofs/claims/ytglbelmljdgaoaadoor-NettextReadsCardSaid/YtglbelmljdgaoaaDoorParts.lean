/- graph.parts computes the plain function 'parts'. -/
import Derived.Test.YtglbelmljdgaoaaDoorRepeat
import Derived.Test.YtglbelmljdgaoaaDoorFar
import Derived.Deep.LoopGhost
namespace Go.Proofs.YtglbelmljdgaoaaDoor
open Go.RowKit

/-- a call that returns a new slice of ints -/
def RetInts (w : World) (xs : List Int) (e : Ending) (w' : World) : Prop := ∃ v, e = .returned v ∧ Row w' w.heap.size 3 1 v xs.length (xs.map I) ∧ Below w.heap.size w w'

/-- the numbers of the nodes lie in block g -/
structure Nums (w : World) (g n : Nat) (o : List Int) (wr : World) : Prop where
  len : o.length = n
  blk : Blk wr g 3 (o.map I).toArray
  below : Below w.heap.size w wr

theorem Nums.set {w : World} {g n : Nat} {o : List Int} {wr : World} (h : Nums w g n o wr) (i : Nat) (m : Int) (hg : w.heap.size ≤ g) : Nums w g n (o.set i m) (wr.setCell ⟨g, i, none⟩ (I m)) := by
  refine ⟨by simpa using h.len, ?_, h.below.setCell hg _⟩
  have := h.blk.set_ i (I m)
  simpa [List.map_set] using this
theorem Nums.alloc {w : World} {g n : Nat} {o : List Int} {wr : World} (h : Nums w g n o wr) (ob : Obj) : Nums w g n o (wr.alloc ob) := ⟨h.len, h.blk.alloc _, h.below.alloc h.below.size _⟩
theorem Nums.step {w : World} {g n : Nat} {o : List Int} {wr w2 : World} (h : Nums w g n o wr) (hb : Below (g + 1) wr w2) (hg : w.heap.size ≤ g) : Nums w g n o w2 :=
  ⟨h.len, h.blk.below hb (by omega), h.below.trans (hb.mono (by omega))⟩
theorem Nums.cell {w : World} {g n : Nat} {o : List Int} {wr : World} (h : Nums w g n o wr) {i : Nat} (hi : i < n) : wr.cell? ⟨g, i, none⟩ = some (I (o.getD i 0)) := by
  rw [h.blk.cell]; have := h.len; simp [hi, this]

structure PartsO (w : World) (g n : Nat) (l : List (Int × Int)) (wo : Int) (i : Nat) (m : Int) (o : List Int) (wr : World) : Prop where
  nums : Nums w g n o wr
  hi : i ≤ n
  hm0 : 0 ≤ m
  hmi : m ≤ i
  rest : outer l wo n (n - i) i m o = parts n l wo

structure PartsM (w : World) (g n : Nat) (l : List (Int × Int)) (wo m : Int) (res : List Int) (f : Nat) (o q : List Int) (v : Value) (wr : World) : Prop where
  nums : Nums w g n o wr
  row : Row wr (g + 1) 3 1 v q.length (q.map I)
  inq : ∀ x ∈ q, 0 ≤ x ∧ x < n
  mu : q.length + neg o < f
  fle : f ≤ n + 1
  rest : bfs l wo m f o q = res

theorem PartsM.q24 {w : World} {g n : Nat} {l : List (Int × Int)} {wo m : Int} {res : List Int} {f : Nat} {o : List Int} {a : Int} {q : List Int} {v : Value} {wr : World} (h : PartsM w g n l wo m res f o (a :: q) v wr) (hn : n ≤ 24) : q.length ≤ 24 := by
  have h1 := h.mu
  have h2 := h.fle
  simp only [List.length_cons] at h1
  omega

structure PartsI (w : World) (g n : Nat) (l : List (Int × Int)) (wo m a : Int) (res : List Int × List Int) (mu : Nat) (k : Nat) (o q : List Int) (v : Value) (wr : World) : Prop where
  nums : Nums w g n o wr
  row : Row wr (g + 1) 3 1 v q.length (q.map I)
  inq : ∀ x ∈ q, 0 ≤ x ∧ x < n
  hmu : q.length + neg o = mu
  hk : k ≤ l.length
  rest : scan wo m a k (l.drop k) o q = res

section
variable {w : World} {g n : Nat} {l : List (Int × Int)} {wo m a : Int} {res : List Int × List Int} {mu : Nat} {k : Nat} {o q : List Int} {v : Value} {wr : World}
theorem drop_at {l : List (Int × Int)} {k : Nat} (hk : k < l.length) : l.drop k = l[k] :: l.drop (k + 1) := by rw [List.drop_eq_getElem_cons hk]
theorem PartsI.skip (h : PartsI w g n l wo m a res mu k o q v wr) (hk : k < l.length) (ob : Obj) (hs : (k : Int) = wo ∨ (l[k].1 ≠ a ∧ l[k].2 ≠ a)) : PartsI w g n l wo m a res mu (k + 1) o q v (wr.alloc ob) := by
  refine ⟨h.nums.alloc _, h.row.alloc _, h.inq, h.hmu, hk, ?_⟩
  have := h.rest
  rw [drop_at hk, scan_skip hs] at this
  simpa using this
theorem PartsI.old (h : PartsI w g n l wo m a res mu k o q v wr) (hk : k < l.length) (ob : Obj) (hs : ¬ ((k : Int) = wo ∨ (l[k].1 ≠ a ∧ l[k].2 ≠ a))) (h2 : ¬ o.getD (l[k].1 + l[k].2 - a).toNat 0 < 0) : PartsI w g n l wo m a res mu (k + 1) o q v (wr.alloc ob) := by
  refine ⟨h.nums.alloc _, h.row.alloc _, h.inq, h.hmu, hk, ?_⟩
  have := h.rest
  rw [drop_at hk, scan_old hs h2] at this
  simpa using this
theorem PartsI.new (h : PartsI w g n l wo m a res mu k o q v wr) (hk : k < l.length) (hs : ¬ ((k : Int) = wo ∨ (l[k].1 ≠ a ∧ l[k].2 ≠ a))) (h2 : o.getD (l[k].1 + l[k].2 - a).toNat 0 < 0) (hm : 0 ≤ m) (hg : w.heap.size ≤ g)
    (hin : 0 ≤ l[k].1 + l[k].2 - a ∧ l[k].1 + l[k].2 - a < n) {wx w2 : World} {v2 : Value} (hwx : Nums w g n (o.set (l[k].1 + l[k].2 - a).toNat m) wx) (hb : Below (g + 1) wx w2)
    (hrow : Row w2 (g + 1) 3 1 v2 (q.length + 1) (q.map I ++ [I (l[k].1 + l[k].2 - a)])) :
    PartsI w g n l wo m a res mu (k + 1) (o.set (l[k].1 + l[k].2 - a).toNat m) (q ++ [l[k].1 + l[k].2 - a]) v2 w2 := by
  refine ⟨?_, by simpa using hrow, ?_, ?_, hk, ?_⟩
  · exact hwx.step hb hg
  · intro x hx
    rcases List.mem_append.1 hx with hx | hx
    · exact h.inq x hx
    · simp at hx; omega
  · have h1 := h.hmu
    have h3 := neg_set (o := o) (i := (l[k].1 + l[k].2 - a).toNat) (m := m) (by rw [h.nums.len]; omega) hm h2
    simp; omega
  · have := h.rest
    rw [drop_at hk, scan_new hs h2] at this
    simpa using this
end

set_option maxRecDepth 100000 in
set_option maxHeartbeats 1000000 in
theorem parts_any (n : Nat) (l : List (Int × Int)) (A : Option Addr) (c : Nat) (wo : Int) (w : World) (hr : Reads w w.heap.size 2 A l.length (cells2 l)) (hv : Valid n l) (hn : n ≤ 24) (hl : l.length ≤ 64) :
    Calls Tryd.prog 61 #[I n, .slice A l.length c, I wo] w (RetInts w (parts n l wo)) := by
  go_enter Tryd.func61, Tryd.ntmps61
  go_wp2_with (go_at_call 80; refine (repeat_any (-1) n w.heap.size 0 1 _ (by simp) (by simp) (by omega)).mono ?_; rintro e w1 ⟨rfl, hblk, hbw⟩)
  have HO : PartsO w (w.heap.size + 1) n l wo 0 0 (List.replicate n (-1)) w1 := by
    refine ⟨⟨by simp, ?_, ?_⟩, by omega, by omega, by omega, rfl⟩
    · rw [List.map_replicate, List.toArray_replicate]; simpa using hblk
    · have := hbw.mono (B' := w.heap.size) (by simp)
      exact ((Below.refl _ w).alloc (Nat.le_refl _) _).trans this
  clear hblk hbw
  have HV := Lib.hid hv
  have HR := Lib.hid hr
  clear hv hr
  go_loopg [8, 19] (n - 0) (fun r v8 v19 wr => ∃ (i : Nat) (m : Int) (o : List Int), r = n - i ∧ v8 = I m ∧ v19 = I i ∧ PartsO w (w.heap.size + 1) n l wo i m o wr)
  case atStart => exact ⟨0, 0, _, rfl, rfl, rfl, HO⟩
  case round =>
    clear HO
    obtain ⟨i, m, o, rfl, rfl, rfl, hO⟩ := hrel
    obtain ⟨wa, rfl⟩ : ∃ wa : World, wa = wr := ⟨_, rfl⟩
    have hi := hO.hi
    have hm0 := hO.hm0
    have hmi := hO.hmi
    by_cases hlt : i < n
    · by_cases hneg : o.getD i 0 < 0
      · have hc := hO.nums.cell hlt
        have HN := Lib.hid hneg
        have hf : wa.frozen? ⟨w.heap.size + 1, i, none⟩ = false := hO.nums.blk.frozen i
        obtain ⟨oi, hoi⟩ : ∃ oi, o.getD i 0 = oi := ⟨_, rfl⟩
        rw [hoi] at hc hneg
        clear hoi
        go_wp2
        have HM : PartsM w (w.heap.size + 1) n l wo m (bfs l wo m (n + 1) (o.set i m) [(i : Int)]) (n + 1) (o.set i m) [(i : Int)] (.slice (some ⟨wa.heap.size, 0, none⟩) 1 1) ((wa.setCell ⟨w.heap.size + 1, i, none⟩ (Value.int IntKind.i64 m)).alloc (Obj.cells #[I i] 3)) := by
          have hset := hO.nums.set i m (by omega)
          have hlt2 := hset.blk.lt
          refine ⟨hset.alloc _, ?_, ?_, ?_, Nat.le_refl _, rfl⟩
          · have := Row.one (wa.setCell ⟨w.heap.size + 1, i, none⟩ (Value.int IntKind.i64 m)) (w.heap.size + 2) 3 (I i) hlt2
            simpa using this
          · intro x hx; simp at hx; omega
          · have h1 := neg_set (o := o) (i := i) (m := m) (by rw [hO.nums.len]; exact hlt) hm0 HN.out
            have h2 := neg_le o
            rw [hO.nums.len] at h2
            simp; omega
        have HO2 : Hid (outer l wo n (n - (i + 1)) (i + 1) (m + 1) (bfs l wo m (n + 1) (o.set i m) [(i : Int)]) = parts n l wo) := by
          have := hO.rest
          rw [show n - i = (n - (i + 1)) + 1 by omega, outer, if_pos HN.out] at this
          exact this
        obtain ⟨res, hres⟩ : ∃ res, bfs l wo m (n + 1) (o.set i m) [(i : Int)] = res := ⟨_, rfl⟩
        rw [hres] at HM HO2
        clear hres hc hf hneg hO HN
        go_loopg [10] (n + 1) (fun f v wr => ∃ (o q : List Int), PartsM w (w.heap.size + 1) n l wo m res f o q v wr)
        case atStart => exact ⟨_, _, HM⟩
        case round =>
          clear HM
          obtain ⟨o1, q, hM⟩ := hrel
          obtain ⟨wb, rfl⟩ : ∃ wb : World, wb = wr := ⟨_, rfl⟩
          cases q with
          | nil =>
            obtain ⟨A1, c1, rfl⟩ := hM.row.val
            have HF : PartsO w (w.heap.size + 1) n l wo (i + 1) (m + 1) o1 wb := by
              have h1 := hM.rest
              have h2 := hM.mu
              obtain ⟨f, rfl⟩ : ∃ f, gk = f + 1 := ⟨gk - 1, by omega⟩
              rw [bfs] at h1
              rw [← h1] at HO2
              exact ⟨hM.nums, by omega, by omega, by omega, HO2.out⟩
            clear hM HO2
            simp only [List.length_nil]
            go_wp2
            go_roundg (n - (i + 1))
            case measure => omega
            case rel => exact ⟨i + 1, m + 1, o1, rfl, rfl, by go_num, HF⟩
          | cons a q =>
            obtain ⟨g2, off2, cap2, rfl, hg2, hg3, hc2, hrow2⟩ := hM.row.pop
            have hq := hM.inq a (by simp)
            have hcut := run_cut (P := Tryd.prog) Tryd.underlying30 Tryd.sizeOf3 (some ⟨g2, off2, none⟩) (q.length + 1) cap2 1 (by omega) (by omega)
            obtain ⟨v2, hv2⟩ : ∃ v2, sliced (some ⟨g2, off2, none⟩) 1 (q.length + 1) cap2 1 = v2 := ⟨_, rfl⟩
            simp only [Int.toNat_one] at hcut
            rw [hv2] at hcut hrow2
            clear hv2
            have hq25 : q.length ≤ 24 := hM.q24 hn
            go_wp2
            obtain ⟨f, rfl⟩ : ∃ f, gk = f + 1 := ⟨gk - 1, by have := hM.mu; omega⟩
            have HI : PartsI w (w.heap.size + 1) n l wo m a (scan wo m a 0 l o1 q) (q.length + neg o1) 0 o1 q v2 wb :=
              ⟨hM.nums, hrow2, fun x hx => hM.inq x (by simp [hx]), rfl, by omega, by simp⟩
            have HJ := Lib.hid (show q.length + neg o1 < f ∧ f + 1 ≤ n + 1 ∧ bfs l wo m f (scan wo m a 0 l o1 q).1 (scan wo m a 0 l o1 q).2 = res by
              have h1 := hM.mu
              have h2 := hM.fle
              have h3 := hM.rest
              rw [bfs] at h3
              simp only [List.length_cons] at h1
              exact ⟨by omega, by omega, h3⟩)
            obtain ⟨pr, hpr⟩ : ∃ pr, scan wo m a 0 l o1 q = pr := ⟨_, rfl⟩
            obtain ⟨mu, hmu⟩ : ∃ mu, q.length + neg o1 = mu := ⟨_, rfl⟩
            rw [hpr] at HI HJ
            rw [hmu] at HI HJ
            clear hpr hmu hM hcut hrow2 hc2 hg2 hg3
            have HM25 := Lib.hid (show mu ≤ 24 by have := HJ.out; omega)
            go_loopg [10, 43] (l.length - 0) (fun r v10 v43 wr => ∃ (k : Nat) (o q : List Int), r = l.length - k ∧ v43 = I k ∧ PartsI w (w.heap.size + 1) n l wo m a pr mu k o q v10 wr)
            case atStart => exact ⟨0, _, _, rfl, rfl, HI⟩
            case round =>
              clear HI
              obtain ⟨k, o2, q2, rfl, rfl, hI⟩ := hrel
              have hk := hI.hk
              by_cases hkl : k < l.length
              · obtain ⟨b, off, rfl, hbl, hx0, hx1⟩ := reads2_at (HR.out.below hI.nums.below) hkl
                have hval := HV.out l[k] (List.getElem_mem hkl)
                have hgl := hI.nums.blk.lt
                obtain ⟨y1, hy1⟩ : ∃ y, l[k].1 = y := ⟨_, rfl⟩
                obtain ⟨y2, hy2⟩ : ∃ y, l[k].2 = y := ⟨_, rfl⟩
                rw [hy1] at hx0 hval
                rw [hy2] at hx1 hval
                obtain ⟨hva, hvb, hvc, hvd⟩ := hval
                have HY := Lib.hid (And.intro hy1 hy2)
                clear hy1 hy2
                by_cases hskip : (k : Int) = wo ∨ (y1 ≠ a ∧ y2 ≠ a)
                · have HS := Lib.hid hskip
                  rcases hskip with h1 | ⟨h1, h2⟩
                  · have t1 : ((k : Int) == wo) = true := by simpa using h1
                    clear h1
                    go_wp2
                    go_roundg (l.length - (k + 1))
                    case measure => omega
                    case rel => exact ⟨k + 1, o2, q2, rfl, by go_num, hI.skip hkl _ (by rw [HY.out.1, HY.out.2]; exact HS.out)⟩
                  · have t2 : (y1 != a) = true := by simpa using h1
                    have t3 : (y2 != a) = true := by simpa using h2
                    clear h1 h2
                    cases t1 : ((k : Int) == wo)
                    all_goals
                      go_wp2
                      go_roundg (l.length - (k + 1))
                      case measure => omega
                      case rel => exact ⟨k + 1, o2, q2, rfl, by go_num, hI.skip hkl _ (by rw [HY.out.1, HY.out.2]; exact HS.out)⟩
                · have HS := Lib.hid hskip
                  have t1 : ((k : Int) == wo) = false := by simp; intro h; exact hskip (.inl h)
                  have ht0 : 0 ≤ y1 + y2 - a := by omega
                  have ht1 : y1 + y2 - a < n := by omega
                  have hc := hI.nums.cell (i := (y1 + y2 - a).toNat) (by omega)
                  have hf : wr.frozen? ⟨w.heap.size + 1, (y1 + y2 - a).toNat, none⟩ = false := hI.nums.blk.frozen _
                  have h4 : y1 = a ∨ (y1 ≠ a ∧ y2 = a) := by omega
                  have hq1 : q2.length ≤ 1000000 := by have := hI.hmu; have := HM25.out; omega
                  clear hskip
                  by_cases hneg : o2.getD (y1 + y2 - a).toNat 0 < 0
                  · have HN := Lib.hid hneg
                    obtain ⟨ot, hot⟩ : ∃ ot, o2.getD (y1 + y2 - a).toNat 0 = ot := ⟨_, rfl⟩
                    rw [hot] at hc hneg
                    clear hot
                    rcases h4 with h4 | ⟨h4, h5⟩
                    · have t2 : (y1 != a) = false := by simpa using h4
                      clear h4
                      go_wp2_with (at_builtin; go_loud (refine wpList_app28 rfl _ _ rfl (w.heap.size + 2) u10 q2 (y1 + y2 - a) (wr.heap.size + 1) (by simp) (by rfl) (by rfl) ((hI.row.setCell (by simp) _).alloc _) hq1 (by simp; omega) ?_); intro v2 w2 hrow2 hb2)
                      go_roundg (l.length - (k + 1))
                      case measure => omega
                      case rel => exact ⟨k + 1, _, _, rfl, by go_num, hI.new hkl (by rw [HY.out.1, HY.out.2]; exact HS.out) (by rw [HY.out.1, HY.out.2]; exact HN.out) hm0 (by omega) (by rw [HY.out.1, HY.out.2]; omega) (by rw [HY.out.1, HY.out.2]; exact ((hI.nums.set _ m (by omega)).alloc _).alloc _) hb2 (by rw [HY.out.1, HY.out.2]; exact hrow2)⟩
                    · have t2 : (y1 != a) = true := by simpa using h4
                      have t3 : (y2 != a) = false := by simpa using h5
                      clear h4 h5
                      go_wp2_with (at_builtin; go_loud (refine wpList_app28 rfl _ _ rfl (w.heap.size + 2) u10 q2 (y1 + y2 - a) (wr.heap.size + 1) (by simp) (by rfl) (by rfl) ((hI.row.setCell (by simp) _).alloc _) hq1 (by simp; omega) ?_); intro v2 w2 hrow2 hb2)
                      go_roundg (l.length - (k + 1))
                      case measure => omega
                      case rel => exact ⟨k + 1, _, _, rfl, by go_num, hI.new hkl (by rw [HY.out.1, HY.out.2]; exact HS.out) (by rw [HY.out.1, HY.out.2]; exact HN.out) hm0 (by omega) (by rw [HY.out.1, HY.out.2]; omega) (by rw [HY.out.1, HY.out.2]; exact ((hI.nums.set _ m (by omega)).alloc _).alloc _) hb2 (by rw [HY.out.1, HY.out.2]; exact hrow2)⟩
                  · have HN := Lib.hid hneg
                    obtain ⟨ot, hot⟩ : ∃ ot, o2.getD (y1 + y2 - a).toNat 0 = ot := ⟨_, rfl⟩
                    rw [hot] at hc hneg
                    clear hot
                    rcases h4 with h4 | ⟨h4, h5⟩
                    · have t2 : (y1 != a) = false := by simpa using h4
                      clear h4
                      go_wp2
                      go_roundg (l.length - (k + 1))
                      case measure => omega
                      case rel => exact ⟨k + 1, o2, q2, rfl, by go_num, hI.old hkl _ (by rw [HY.out.1, HY.out.2]; exact HS.out) (by rw [HY.out.1, HY.out.2]; have := HN.out; omega)⟩
                    · have t2 : (y1 != a) = true := by simpa using h4
                      have t3 : (y2 != a) = false := by simpa using h5
                      clear h4 h5
                      go_wp2
                      go_roundg (l.length - (k + 1))
                      case measure => omega
                      case rel => exact ⟨k + 1, o2, q2, rfl, by go_num, hI.old hkl _ (by rw [HY.out.1, HY.out.2]; exact HS.out) (by rw [HY.out.1, HY.out.2]; have := HN.out; omega)⟩
              · obtain rfl : k = l.length := by omega
                have HF : PartsM w (w.heap.size + 1) n l wo m res f o2 q2 u10 wr := by
                  have h1 := hI.rest
                  rw [List.drop_of_length_le (Nat.le_refl _), scan] at h1
                  have h2 := HJ.out
                  rw [← h1] at h2
                  exact ⟨hI.nums, hI.row, hI.inq, by have := hI.hmu; omega, by omega, h2.2.2⟩
                clear hI HJ
                go_wp2
                go_roundg f
                case measure => omega
                case rel => exact ⟨o2, q2, HF⟩
      · have hc := hO.nums.cell hlt
        have HF : PartsO w (w.heap.size + 1) n l wo (i + 1) m o wa := by
          have := hO.rest
          rw [show n - i = (n - (i + 1)) + 1 by omega, outer, if_neg hneg] at this
          exact ⟨hO.nums, by omega, by omega, by omega, this⟩
        obtain ⟨oi, hoi⟩ : ∃ oi, o.getD i 0 = oi := ⟨_, rfl⟩
        rw [hoi] at hc hneg
        clear hoi hO
        go_wp2
        go_roundg (n - (i + 1))
        case measure => omega
        case rel => exact ⟨i + 1, m, o, rfl, rfl, by go_num, HF⟩
    · obtain rfl : i = n := by omega
      have HF : Row wa w.heap.size 3 1 (.slice (some ⟨w.heap.size + 1, 0, none⟩) i i) (parts i l wo).length ((parts i l wo).map I) ∧ Below w.heap.size w wa := by
        have h1 := hO.rest
        rw [Nat.sub_self, outer] at h1
        rw [← h1, hO.nums.len]
        refine ⟨⟨by simp [hO.nums.len], .inr ⟨w.heap.size + 1, 0, i, _, rfl, by omega, hO.nums.blk, Nat.le_refl _, by unfold maxLen; omega, by simp [hO.nums.len], ?_⟩⟩, hO.nums.below⟩
        simp
        rw [List.take_of_length_le (by simp [hO.nums.len])]
      clear hO
      go_wp2
      go_ret
      exact ⟨_, rfl, HF⟩
end Go.Proofs.YtglbelmljdgaoaaDoor
