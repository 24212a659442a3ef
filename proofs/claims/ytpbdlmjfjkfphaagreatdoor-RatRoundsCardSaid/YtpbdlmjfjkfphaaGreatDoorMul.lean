/- large.Int: Mul. -/
import Derived.Test.YtpbdlmjfjkfphaaGreatDoorBig2
namespace Go.Proofs.YtpbdlmjfjkfphaaGreatDoor
open Go.RowKit

theorem val_set (l : List Int) : ∀ (j : Nat) (x : Int), j < l.length → val (l.set j x) = val l + P32 j * (x - l.getD j 0) := by
  induction l with
  | nil => intro j x h; simp at h
  | cons y l ih =>
    intro j x h
    cases j with
    | zero => simp [val, P32_zero]; omega
    | succ j =>
      simp only [List.set_cons_succ, val, List.getD_cons_succ]
      rw [ih j x (by simpa using h), P32_succ, Int.mul_add, Int.mul_assoc]
      omega
theorem mul_bound {x y : Int} (hx : 0 ≤ x ∧ x < 4294967296) (hy : 0 ≤ y ∧ y < 4294967296) : 0 ≤ x * y ∧ x * y ≤ 18446744065119617025 := by
  refine ⟨Int.mul_nonneg hx.1 hy.1, ?_⟩
  have := Int.mul_le_mul (show x ≤ 4294967295 by omega) (show y ≤ 4294967295 by omega) hy.1 (by omega)
  omega
/-- behind i words of a -/
structure MulO (w : World) (g : Nat) (a b : List Int) (i : Nat) (o : List Int) (wr : World) : Prop where
  wrd : Wrd w g (a.length + b.length) o wr
  hi : i ≤ a.length
  sum : val o = val (a.take i) * val b
  zero : ∀ k, i + b.length ≤ k → o.getD k 0 = 0
/-- .. and k words of b -/
structure MulK (w : World) (g : Nat) (a b : List Int) (i : Nat) (x : Int) (k : Nat) (c : Int) (o : List Int) (wr : World) : Prop where
  wrd : Wrd w g (a.length + b.length) o wr
  hk : k ≤ b.length
  hc : 0 ≤ c ∧ c < 4294967296
  sum : val o + P32 (i + k) * c = val (a.take i) * val b + P32 i * (x * val (b.take k))
  zero : ∀ k, i + b.length ≤ k → o.getD k 0 = 0
theorem MulK.step {w : World} {g : Nat} {a b : List Int} {i : Nat} {x : Int} {k : Nat} {c : Int} {o : List Int} {wr : World} (h : MulK w g a b i x k c o wr) (ob : Ok b) (hx : 0 ≤ x ∧ x < 4294967296) (hlt : k < b.length) (hi : i < a.length) (hg : w.heap.size ≤ g) {s : Int} (hs : s = c + (o.getD (i + k) 0 + x * b.getD k 0)) :
    MulK w g a b i x (k + 1) (s / 4294967296) (o.set (i + k) (s % 4294967296)) (wr.setCell ⟨g, i + k, none⟩ (U (s % 4294967296))) := by
  have h1 := ob.at_ k
  have h2 := h.wrd.ok.at_ (i + k)
  have h3 := h.hc
  have h4 := mul_bound hx h1
  refine ⟨h.wrd.set (i + k) (by omega) hg, by omega, by omega, ?_, ?_⟩
  · have hl := h.wrd.len
    rw [val_set o (i + k) _ (by omega), val_take_succ, show i + (k + 1) = (i + k) + 1 from rfl, P32_succ]
    have h5 := h.sum
    have h6 := mul_split (P32 (i + k)) s
    have e1 : P32 (i + k) * s = P32 (i + k) * c + (P32 (i + k) * o.getD (i + k) 0 + P32 (i + k) * (x * b.getD k 0)) := by rw [hs, Int.mul_add, Int.mul_add]
    have e2 : P32 i * (x * (val (b.take k) + P32 k * b.getD k 0)) = P32 i * (x * val (b.take k)) + P32 (i + k) * (x * b.getD k 0) := by
      rw [Int.mul_add, Int.mul_add, P32_add]
      congr 1
      rw [Int.mul_assoc, Int.mul_left_comm x]
    rw [e2, Int.mul_sub]
    omega
  · intro j hj
    rw [getD_set_ne _ _ (by omega)]
    exact h.zero j hj
theorem MulK.last {w : World} {g : Nat} {a b : List Int} {i : Nat} {x : Int} {c : Int} {o : List Int} {wr : World} (h : MulK w g a b i x b.length c o wr) (hi : i < a.length) (hx : x = a.getD i 0) (hg : w.heap.size ≤ g) :
    MulO w g a b (i + 1) (o.set (i + b.length) c) (wr.setCell ⟨g, i + b.length, none⟩ (U c)) := by
  refine ⟨h.wrd.set (i + b.length) h.hc hg, by omega, ?_, ?_⟩
  · have hl := h.wrd.len
    have h5 := h.sum
    rw [val_set o (i + b.length) _ (by omega), h.zero _ (Nat.le_refl _), val_take_succ, ← hx, Int.add_mul, Int.mul_assoc]
    rw [List.take_of_length_le (Nat.le_refl _)] at h5
    rw [Int.sub_zero]
    exact h5
  · intro j hj
    rw [getD_set_ne _ _ (by omega)]
    exact h.zero j (by omega)
theorem sgn_mul (x y : Int) : sgn (decide (x < 0) != decide (y < 0)) ((x.natAbs : Int) * (y.natAbs : Int)) = x * y := by
  by_cases h1 : x < 0
  · by_cases h2 : y < 0
    · have e1 : (x.natAbs : Int) = -x := by omega
      have e2 : (y.natAbs : Int) = -y := by omega
      simp [sgn, h1, h2, e1, e2, Int.neg_mul, Int.mul_neg]
    · have e1 : (x.natAbs : Int) = -x := by omega
      have e2 : (y.natAbs : Int) = y := by omega
      simp [sgn, h1, h2, e1, e2, Int.neg_mul]
  · by_cases h2 : y < 0
    · have e1 : (x.natAbs : Int) = x := by omega
      have e2 : (y.natAbs : Int) = -y := by omega
      simp [sgn, h1, h2, e1, e2, Int.mul_neg]
    · have e1 : (x.natAbs : Int) = x := by omega
      have e2 : (y.natAbs : Int) = y := by omega
      simp [sgn, h1, h2, e1, e2]
set_option maxRecDepth 100000 in
set_option maxHeartbeats 4000000 in
theorem mul_any (u v : Value) (x y : Int) (w : World) (hx : Big w u x) (hy : Big w v y) {N : Nat} (hN : N ≤ 1000000) (fx : Fits N x) (fy : Fits N y) : Calls Tryz.prog 49 #[u, v] w (RetBig w (x * y)) := by
  obtain ⟨A, ca, wx, rfl, hrx, ⟨hcx, hmx⟩, hox, hnx, hvx⟩ := hx
  obtain ⟨B, cb, wy, rfl, hry, ⟨hcy, hmy⟩, hoy, hny, hvy⟩ := hy
  have lx := fx.len hox hnx hvx
  have ly := fy.len hoy hny hvy
  have hS := sgn_mul x y
  rw [← hvx, ← hvy] at hS
  have HS := Lib.hid hS
  clear hvx hvy fx fy hS
  have hb1 : Below w.heap.size w (((w.alloc (.cells #[.bool (decide (x < 0)), .slice A wx.length ca] bigT)).alloc (.cells #[.bool (decide (y < 0)), .slice B wy.length cb] bigT)).alloc (.cells #[.bool false, .slice none 0 0] bigT)) := (((Below.refl _ _).alloc (Nat.le_refl _) _).alloc (by simp) _).alloc (by simp; omega) _
  have HX := Lib.hid (((Blk.new w bigT #[.bool (decide (x < 0)), .slice A wx.length ca]).alloc (.cells #[.bool (decide (y < 0)), .slice B wy.length cb] bigT)).alloc (.cells #[.bool false, .slice none 0 0] bigT))
  have HY := Lib.hid ((Blk.new (w.alloc (.cells #[.bool (decide (x < 0)), .slice A wx.length ca] bigT)) bigT #[.bool (decide (y < 0)), .slice B wy.length cb]).alloc (.cells #[.bool false, .slice none 0 0] bigT))
  have HR := Lib.hid (Blk.new ((w.alloc (.cells #[.bool (decide (x < 0)), .slice A wx.length ca] bigT)).alloc (.cells #[.bool (decide (y < 0)), .slice B wy.length cb] bigT)) bigT #[.bool false, .slice none 0 0])
  rw [World.size_alloc w] at HY
  rw [World.size_alloc _, World.size_alloc w] at HR
  have HRX := Lib.hid ((hrx.below hb1).more hb1.size)
  have HRY := Lib.hid ((hry.below hb1).more hb1.size)
  have HB := Lib.hid hb1
  clear hrx hry hb1
  generalize decide (x < 0) = bx at *
  generalize decide (y < 0) = by_ at *
  have hmk := make_u32 (wx.length + wy.length) (by omega)
  have e1 : ((wx.length + wy.length : Nat) : Int) = (wx.length : Int) + wy.length := by omega
  rw [e1] at hmk
  clear e1
  unfold bigT at *
  go_enter Tryz.func49, Tryz.ntmps49
  go_wp2
  have HW : Hid (Wrd (((w.alloc (Obj.cells #[Value.bool bx, Value.slice A wx.length ca] 45)).alloc (Obj.cells #[Value.bool by_, Value.slice B wy.length cb] 45)).alloc (Obj.cells #[Value.bool false, Value.slice none 0 0] 45)) (w.heap.size + 1 + 1 + 1) (wx.length + wy.length) (List.replicate (wx.length + wy.length) 0)
      ((((w.alloc (Obj.cells #[Value.bool bx, Value.slice A wx.length ca] 45)).alloc (Obj.cells #[Value.bool by_, Value.slice B wy.length cb] 45)).alloc (Obj.cells #[Value.bool false, Value.slice none 0 0] 45)).alloc (Obj.cells (Array.replicate (wx.length + wy.length) (U 0)) 78))) := by
    have := Wrd.start (((w.alloc (Obj.cells #[Value.bool bx, Value.slice A wx.length ca] 45)).alloc (Obj.cells #[Value.bool by_, Value.slice B wy.length cb] 45)).alloc (Obj.cells #[Value.bool false, Value.slice none 0 0] 45)) (wx.length + wy.length)
    rw [World.size_alloc _, World.size_alloc _, World.size_alloc w] at this
    exact this
  have HZ : Hid ((((w.alloc (Obj.cells #[Value.bool bx, Value.slice A wx.length ca] 45)).alloc (Obj.cells #[Value.bool by_, Value.slice B wy.length cb] 45)).alloc (Obj.cells #[Value.bool false, Value.slice none 0 0] 45)).heap.size ≤ w.heap.size + 1 + 1 + 1) := by rw [World.size_alloc _, World.size_alloc _, World.size_alloc w]; exact Nat.le_refl _
  generalize hW0 : ((w.alloc (Obj.cells #[Value.bool bx, Value.slice A wx.length ca] 45)).alloc (Obj.cells #[Value.bool by_, Value.slice B wy.length cb] 45)).alloc (Obj.cells #[Value.bool false, Value.slice none 0 0] 45) = W0 at *
  clear hW0 hmk
  generalize w.heap.size + 1 + 1 + 1 = g at *
  go_loopg [22] (wx.length - 0) (fun r iv wr => ∃ (i : Nat) (o : List Int), r = wx.length - i ∧ iv = I i ∧ MulO W0 g wx wy i o wr)
  case atStart => exact ⟨0, _, rfl, rfl, HW.out, by omega, by rw [val_replicate]; simp [val], fun k _ => by simp [List.getD_eq_getElem?_getD, List.getElem?_replicate]; split <;> rfl⟩
  case round =>
    clear HW
    obtain ⟨i, o, rfl, rfl, hO⟩ := hrel
    obtain ⟨wa, rfl⟩ : ∃ wa : World, wa = wr := ⟨_, rfl⟩
    have hi := hO.hi
    have y1 := (HY.out.below hO.wrd.below HY.out.lt).cell 1
    have hyl := (HY.out.below hO.wrd.below HY.out.lt).lt
    by_cases hlt : i < wx.length
    · obtain ⟨ba, offa, hAe, hba, hca⟩ := (HRX.out.below hO.wrd.below).word hlt
      subst hAe
      have hxx := hox.at_ i
      obtain ⟨z, hze⟩ : ∃ z, wx.getD i 0 = z := ⟨_, rfl⟩
      rw [hze] at hca hxx
      have HZE := Lib.hid hze
      obtain ⟨hz0, hz1⟩ := hxx
      have hK : MulK W0 g wx wy i z 0 0 o wa := ⟨hO.wrd, by omega, by omega, by rw [hO.sum]; simp [val], hO.zero⟩
      have HK := Lib.hid hK
      clear hze hK hO
      go_wp2
      go_loopg [8, 30] (wy.length - 0) (fun r cv kv wr => ∃ (k : Nat) (c : Int) (o : List Int), r = wy.length - k ∧ cv = .int .u64 c ∧ kv = I k ∧ MulK W0 g wx wy i z k c o wr)
      case atStart => exact ⟨0, 0, o, rfl, rfl, rfl, HK.out⟩
      case round =>
        clear HK y1 hca
        obtain ⟨k, c, o2, rfl, rfl, rfl, hK⟩ := hrel
        have hk := hK.hk
        obtain ⟨hc0, hc1⟩ := hK.hc
        have y1 := (HY.out.below hK.wrd.below HY.out.lt).cell 1
        have hlo := hK.wrd.blk.lt
        by_cases hkl : k < wy.length
        · obtain ⟨bb, offb, hBe, hbb, hcb⟩ := (HRY.out.below hK.wrd.below).word hkl
          subst hBe
          have hyy := hoy.at_ k
          obtain ⟨q, hqe⟩ : ∃ q, wy.getD k 0 = q := ⟨_, rfl⟩
          rw [hqe] at hcb hyy
          have hoo := hK.wrd.ok.at_ (i + k)
          have hco := hK.wrd.cell (i := i + k) (by omega)
          obtain ⟨p, hpe⟩ : ∃ p, o2.getD (i + k) 0 = p := ⟨_, rfl⟩
          rw [hpe] at hco hoo
          have hN := hK.step hoy ⟨hz0, hz1⟩ hkl hlt HZ.out (s := c + (p + z * q)) (by rw [hpe, hqe])
          have hmb := mul_bound ⟨hz0, hz1⟩ hyy
          have hf : wr.frozen? ⟨g, i + k, none⟩ = false := hK.wrd.blk.frozen _
          have HN := Lib.hid hN
          obtain ⟨hmb0, hmb1⟩ := hmb
          obtain ⟨hq0, hq1⟩ := hyy
          obtain ⟨hp0, hp1⟩ := hoo
          clear hN hK hpe hqe
          go_wp2
          go_roundg (wy.length - (k + 1))
          case measure => omega
          case rel => exact ⟨k + 1, _, _, rfl, rfl, by go_num, HN.out⟩
        · obtain rfl : k = wy.length := by omega
          have hN := hK.last hlt HZE.out.symm HZ.out
          have hf : wr.frozen? ⟨g, i + wy.length, none⟩ = false := hK.wrd.blk.frozen _
          have hco := hK.wrd.cell (i := i + wy.length) (by omega)
          have HN := Lib.hid hN
          clear hN hK
          go_wp2
          go_roundg (wx.length - (i + 1))
          case measure => omega
          case rel => exact ⟨i + 1, _, rfl, by go_num, HN.out⟩
    · obtain rfl : i = wx.length := by omega
      have x0 := (HX.out.below hO.wrd.below HX.out.lt).cell 0
      have x1 := (HX.out.below hO.wrd.below HX.out.lt).cell 1
      have y0 := (HY.out.below hO.wrd.below HY.out.lt).cell 0
      have hxl := (HX.out.below hO.wrd.below HX.out.lt).lt
      have hV := hO.sum
      rw [List.take_of_length_le (Nat.le_refl _)] at hV
      have hl := hO.wrd.len
      have hNm := norm_any (bx != by_) o (some ⟨g, 0, none⟩) (wx.length + wy.length) wa hO.wrd.reads (by omega) (by unfold maxLen; omega) hO.wrd.ok
      rw [hV, HS.out, hl] at hNm
      have HNm := Lib.hid hNm
      have HR1 := Lib.hid (HR.out.below hO.wrd.below HR.out.lt)
      have HB1 := Lib.hid (HB.out.trans (hO.wrd.below.mono HB.out.size))
      clear hO hV hl hNm
      go_wp2_with fail
      refine HNm.out.mono ?_
      rintro e w1 ⟨v, rfl, hv, hb⟩
      obtain ⟨b1, A1, n1, c1, rfl⟩ := hv.ofWords
      have hR1 := HR1.out.below hb HR1.out.lt
      have q0 := hR1.cell 0
      have q1 := hR1.cell 1
      have f0 := hR1.frozen 0
      have f1 := hR1.frozen 1
      have HQ := Lib.hid (ret_big_set (HB1.out.trans (hb.mono HB1.out.size)) (by omega) hR1 hv)
      have HR2 := Lib.hid (hR1.set2 (.bool b1) (.slice A1 n1 c1))
      clear hv hb hR1 HB HNm HR
      go_wp2
      have z0 := HR2.out.cell 0
      have z1 := HR2.out.cell 1
      generalize (w1.setCell ⟨w.heap.size + 1 + 1, 0, none⟩ (.bool b1)).setCell ⟨w.heap.size + 1 + 1, 1, none⟩ (.slice A1 n1 c1) = W at *
      exact bodyPost_ret (v := .agg #[.bool b1, .slice A1 n1 c1]) (by simp [results, Tryz.results49, go_sem, z0, z1]) rfl HQ.out
end Go.Proofs.YtpbdlmjfjkfphaaGreatDoor
