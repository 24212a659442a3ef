/- rating: Over, Left, Time. rating: large.Abs; Left; what is written into a watch. -/
import Derived.Test.YtfigffaghaaaoaaGreatDoorRX1
import Derived.Test.YtfigffaghaaaoaaGreatDoorRO
namespace Go.Proofs.YtfigffaghaaaoaaGreatDoor
open Go.RowKit

def RetNm (w : World) (l : List ByteArray) (e : Ending) (w' : World) : Prop := ∃ A c, e = .returned (.slice A l.length c) ∧ Row w' w.heap.size 9 1 (.slice A l.length c) l.length (l.map S) ∧ Below w.heap.size w w'
theorem getD_of {α : Type} {l : List α} {i : Nat} {x d : α} (h : l[i]? = some x) : l.getD i d = x := by rw [List.getD_eq_getElem?_getD, h]; rfl
theorem WS.get {w : World} {base : Nat} {p : Wat} {bs : List BranchD} {st : List RtB} {t : Int} (h : WS w base p bs st t) {i : Nat} (hi : i < bs.length) : ∃ b x, bs[i]? = some b ∧ st[i]? = some x :=
  ⟨bs[i], st[i]'(by rw [h.len]; exact hi), List.getElem?_eq_getElem hi, List.getElem?_eq_getElem (by rw [h.len]; exact hi)⟩
theorem WS.br0 {w : World} {base : Nat} {p : Wat} {bs : List BranchD} {st : List RtB} {t : Int} (h : WS w base p bs st t) {i : Nat} {b : BranchD} (hi : bs[i]? = some b) : ∃ bb off, p.bA = some ⟨bb, off, none⟩ ∧ bb < w.heap.size ∧ w.cell? ⟨bb, off + i * 9, none⟩ = some (.string b.name) ∧ w.cell? ⟨bb, off + i * 9 + 1, none⟩ = some (.string b.src) ∧ w.cell? ⟨bb, off + i * 9 + 2, none⟩ = some (.string b.dst) ∧
    w.cell? ⟨bb, off + i * 9 + 3, none⟩ = some (I b.x) ∧ w.cell? ⟨bb, off + i * 9 + 4, none⟩ = some (I b.tap) ∧ w.cell? ⟨bb, off + i * 9 + 5, none⟩ = some (I b.shift) ∧ w.cell? ⟨bb, off + i * 9 + 6, none⟩ = some (I b.limit) ∧ w.cell? ⟨bb, off + i * 9 + 7, none⟩ = some (I b.short) ∧ w.cell? ⟨bb, off + i * 9 + 8, none⟩ = some (I b.hold) := by
  obtain ⟨hl, rfl⟩ := List.getElem?_eq_some_iff.1 hi
  obtain ⟨bb, off, e, hlt, hc⟩ := h.branch hl
  have g : ∀ j u, bs[i].cells[j]? = some u → w.cell? ⟨bb, off + i * 9 + j, none⟩ = some u := fun j u hu => by rw [Nat.add_assoc]; exact hc j u hu
  exact ⟨bb, off, e, hlt, g 0 _ rfl, g 1 _ rfl, g 2 _ rfl, g 3 _ rfl, g 4 _ rfl, g 5 _ rfl, g 6 _ rfl, g 7 _ rfl, g 8 _ rfl⟩
set_option maxRecDepth 100000 in
set_option maxHeartbeats 4000000 in
theorem rover_any (p : Wat) (bs : List BranchD) (st : List RtB) (t : Int) (base : Nat) (w : World) (h : WS w base p bs st t) (hbn : bs.length ≤ 24) : Calls Tryz.prog 15 #[.pointer (some ⟨p.g, 0, none⟩)] w (RetNm w (overL bs st)) := by
  obtain ⟨g, bA, bc, fA, fc, ab, ob⟩ := p
  have H := Lib.hid h
  have c0 := h.c0
  have HLN := Lib.hid h.len
  clear h
  simp only at c0 ⊢
  have HN0 := Lib.hid (show Row w w.heap.size 9 1 (.slice none 0 0) (overL (bs.take 0) (st.take 0)).length ((overL (bs.take 0) (st.take 0)).map S) from Row.nil _ _ _ _)
  have HB0 := Lib.hid (Below.refl w.heap.size w)
  go_enter Tryz.func15, Tryz.ntmps15
  go_wp2
  clear c0
  go_loopg [3, 11] (bs.length - 0) (fun r o v wr => ∃ k : Nat, ∃ vo : Value, o = vo ∧ r = bs.length - k ∧ v = I k ∧ k ≤ bs.length ∧ Hid (Row wr w.heap.size 9 1 vo (overL (bs.take k) (st.take k)).length ((overL (bs.take k) (st.take k)).map S)) ∧ Hid (Below w.heap.size w wr))
  case atStart => exact ⟨0, _, rfl, rfl, rfl, by omega, HN0, HB0⟩
  case round =>
    clear HN0 HB0
    obtain ⟨k, vo, hvo, rfl, rfl, hk, HR, HB⟩ := hrel
    replace hvo := hvo.symm
    subst hvo
    obtain ⟨wa, rfl⟩ : ∃ wa : World, wa = wr := ⟨_, rfl⟩
    by_cases hlt : k < bs.length
    · have hW := H.out.call HB.out
      obtain ⟨b, x, hb1, hx1⟩ := hW.get hlt
      obtain ⟨bb, off, e, hbl, u0, u1, u2, u3, u4, u5, u6, u7, u8⟩ := hW.br0 hb1
      simp only at e
      subst e
      have HW := Lib.hid hW
      have HS := Lib.hid (overL_succ bs st k b x hb1 hx1)
      have HX := Lib.hid (getD_of (d := rt0) hx1)
      clear hW hb1 hx1
      obtain ⟨nm, sr, ds, bx, ta, sh, li, so, ho⟩ := b
      simp only at u0 u1 u2 u3 u4 u5 u6 u7 u8
      go_upto_region 5 with (fail)
      clear u0 u1 u2 u3 u4 u5 u6 u7 u8
      have hz := below_new wa (Obj.cells #[.string nm, .string sr, .string ds, I bx, I ta, I sh, I li, I so, I ho] brT)
      have hn0 := (Blk.new wa brT #[.string nm, .string sr, .string ds, I bx, I ta, I sh, I li, I so, I ho]).cell 0
      change _ = some (Value.string nm) at hn0
      have hs1 := World.size_alloc wa (Obj.cells #[.string nm, .string sr, .string ds, I bx, I ta, I sh, I li, I so, I ho] brT)
      have HRA := Lib.hid (HR.out.call hz)
      have HBA := Lib.hid (HB.out.trans (hz.mono HB.out.size))
      have c3 := (HW.out.call hz).c3
      have cv := (HW.out.call hz).obv hlt
      rw [HX.out] at cv
      simp only at c3 cv
      clear hz HW HR HB HX
      unfold brT at *
      generalize wa.alloc (Obj.cells #[.string nm, .string sr, .string ds, I bx, I ta, I sh, I li, I so, I ho] 68) = W1 at *
      have hg1 : wa.heap.size < W1.heap.size := by omega
      clear hs1
      generalize wa.heap.size = ga at *
      have hql : (overL (bs.take k) (st.take k)).length ≤ 1000000 := by
        have := overL_le (bs.take k) (st.take k)
        rw [List.length_take] at this
        omega
      cases hxo : x.o with
      | true =>
        rw [hxo] at cv
        replace HS := Lib.hid (show overL (bs.take (k + 1)) (st.take (k + 1)) = overL (bs.take k) (st.take k) ++ [nm] by rw [HS.out, if_pos hxo])
        clear hxo
        generalize overL (bs.take k) (st.take k) = q at *
        go_wp2_with (at_builtin; refine wpList_appS rfl _ _ rfl w.heap.size vo q nm W1.heap.size rfl rfl rfl HRA.out hql HBA.out.size ?_)
        intro v9 w9 hrow hb2
        have HNN := Lib.hid (show Row w9 w.heap.size 9 1 v9 (overL (bs.take (k + 1)) (st.take (k + 1))).length ((overL (bs.take (k + 1)) (st.take (k + 1))).map S) by rw [HS.out, List.length_append, List.map_append]; exact hrow)
        have HBN := Lib.hid (HBA.out.trans (((Below.refl _ W1).alloc (Nat.le_refl _) _).mono HBA.out.size |>.trans hb2))
        clear hrow hb2 HRA HBA HS c3 cv hn0
        go_wp2
        go_roundg (bs.length - (k + 1))
        case measure => omega
        case rel => exact ⟨k + 1, _, rfl, rfl, by go_num, by omega, HNN, HBN⟩
      | false =>
        rw [hxo] at cv
        replace HS := Lib.hid (show overL (bs.take (k + 1)) (st.take (k + 1)) = overL (bs.take k) (st.take k) by rw [HS.out, if_neg (by rw [hxo]; decide), List.append_nil])
        clear hxo
        have HNN := Lib.hid (show Row W1 w.heap.size 9 1 vo (overL (bs.take (k + 1)) (st.take (k + 1))).length ((overL (bs.take (k + 1)) (st.take (k + 1))).map S) by rw [HS.out]; exact HRA.out)
        clear HRA HS
        go_wp2
        clear c3 cv hn0
        go_roundg (bs.length - (k + 1))
        case measure => omega
        case rel => exact ⟨k + 1, _, rfl, rfl, by go_num, by omega, HNN, HBA⟩
    · have hin : k = bs.length := by omega
      subst hin
      have hr := HR.out
      rw [List.take_of_length_le (Nat.le_refl _), List.take_of_length_le (by rw [HLN.out]; exact Nat.le_refl _)] at hr
      obtain ⟨A9, c9, rfl⟩ := hr.val
      have HQ := Lib.hid hr
      clear hr HR
      go_wp2
      go_ret
      exact ⟨A9, c9, rfl, HQ.out, HB.out⟩
/-- a row of pairs of a name and a number -/
def lfC (x : ByteArray × Int) : List Value := [.string x.1, I x.2]
abbrev lfT : TypeId := 43
theorem info_lf : (Tryz.prog.info? lfT).map (fun i => (i.zero, i.size, i.bytes)) = some (some (.agg #[.string ⟨#[]⟩, I 0]), 2, 24) := by kernel_rfl
def RetLf (w : World) (l : List (ByteArray × Int)) (e : Ending) (w' : World) : Prop := ∃ A c, e = .returned (.slice A l.length c) ∧ Row w' w.heap.size lfT 2 (.slice A l.length c) l.length (cellsBy lfC l) ∧ Below w.heap.size w w'
theorem wpList_appL {ops : Array Oper} {rest : List Oper} {o : Oper} {a : Act} {Q : Exit → Act → World → Prop} {W : World} (hgd : o.guard = none) (s x : Operand)
    (ho : o.op = .call { callee := .builtin .append, args := #[s, x], argTypes := #[40, 40] }) (base : Nat) (v : Value) (q : List (ByteArray × Int)) (y : ByteArray) (z : Int) (N : Nat) (hN : W.heap.size = N)
    (hsv : a.eval s = v) (hx : a.eval x = .slice (some ⟨N, 0, none⟩) 1 1) (hr : Row W base lfT 2 v q.length (cellsBy lfC q)) (hq : q.length ≤ 1000000) (hb : base ≤ W.heap.size)
    (h : ∀ v' w', Row w' base lfT 2 v' (q.length + 1) (cellsBy lfC q ++ [.string y, I z]) → Below base (W.alloc (.cells #[.string y, I z] lfT)) w' → wpList Tryz.prog ops Q rest (a.put o.dst v') w') :
    wpList Tryz.prog ops Q (o :: rest) a (W.alloc (.cells #[.string y, I z] lfT)) := by
  obtain ⟨i0, hi0, hz0, hz1, hz2⟩ := info_parts info_lf
  subst hN
  refine wpList_append_row hgd s x 40 ho base lfT i0 _ 2 24 Tryz.underlying40 hi0 hz0 hz1 hz2 rfl (by decide) v q.length (cellsBy lfC q) hsv (hr.alloc _) (W.heap.size + 1) (some ⟨W.heap.size, 0, none⟩) 1 1 [.string y, I z] hx ?_ (by simp [Value.oneCell']) (by unfold maxLen; omega) (by omega) (by simp; omega) h
  refine ⟨rfl, fun _ => ⟨_, _, rfl, by omega, fun j u hu => ?_⟩⟩
  rw [(Blk.new W lfT #[.string y, I z]).cell]
  simpa using hu
set_option maxRecDepth 100000 in
set_option maxHeartbeats 4000000 in
theorem rtime_any (p : Wat) (bs : List BranchD) (st : List RtB) (t : Int) (base : Nat) (w : World) (h : WS w base p bs st t) : Calls Tryz.prog 16 #[.pointer (some ⟨p.g, 0, none⟩)] w fun e w' => e = .returned (I t) ∧ w' = w := by
  have c4 := h.c4
  clear h
  go_enter Tryz.func16, Tryz.ntmps16
  go_wp2
  go_ret
  exact ⟨rfl, rfl⟩
end Go.Proofs.YtfigffaghaaaoaaGreatDoor
namespace Go.Proofs.YtfigffaghaaaoaaGreatDoor
open Go.RowKit

set_option maxRecDepth 100000 in
set_option maxHeartbeats 4000000 in
theorem rabs_any (u : Value) (q : Rat) (w : World) (hu : Rt w u q) : Calls Tryz.prog 26 #[u] w (RetRt w (absQ q)) := by
  obtain ⟨nb, A, l, c, B, m, d, rfl⟩ := hu.bools
  obtain ⟨hv1, hv2, hb⟩ := boxes2 w (.bool nb) (.slice A l c) (.bool false) (.slice B m d) (.bool false) (.slice none 0 0) (.bool false) (.slice none 0 0)
  have HU := Lib.hid (hu.ext hb)
  have HB := Lib.hid hb
  have V1 := Lib.hid hv1
  have V2 := Lib.hid hv2
  unfold ratT at V1 V2 HU HB
  clear hu hb hv1 hv2
  go_enter Tryz.func26, Tryz.ntmps26
  go_upto_region 1 with (fail)
  generalize (w.alloc (.cells #[.bool nb, .slice A l c, .bool false, .slice B m d] 73)).alloc (.cells #[.bool false, .slice none 0 0, .bool false, .slice none 0 0] 73) = w1 at *
  have HS := Lib.hid (rsign_any _ q w1 HU.out)
  have c0 := V1.out.c0
  have c1 := V1.out.c1
  have c2 := V1.out.c2
  have c3 := V1.out.c3
  go_wp2_with fail
  refine HS.out.mono ?_
  rintro e w2 ⟨rfl, hb⟩
  clear HS c0 c1 c2 c3
  replace HU := Lib.hid (HU.out.ext hb)
  replace V1 := Lib.hid (V1.out.below hb)
  replace V2 := Lib.hid (V2.out.below hb)
  replace HB := Lib.hid (HB.out.trans (hb.mono HB.out.size))
  clear hb
  have c0 := V1.out.c0
  have c1 := V1.out.c1
  have c2 := V1.out.c2
  have c3 := V1.out.c3
  have hgw : w.heap.size ≤ w.heap.size + 1 := by omega
  by_cases hn : q.num < 0
  · have hs : q.num.sign = -1 := Int.sign_eq_neg_one_of_neg hn
    rw [hs]
    have HQ := Lib.hid (show absQ q = -q by rw [absQ, if_pos hn])
    clear hn hs
    have HC := Lib.hid (rneg_any _ q w2 HU.out)
    go_wp2_with fail
    refine HC.out.mono ?_
    rintro e w3 ⟨v, rfl, hv, hb⟩
    clear HC c0 c1 c2 c3
    replace V2 := Lib.hid (V2.out.below hb)
    replace HB := Lib.hid (HB.out.trans (hb.mono HB.out.size))
    clear hb HU V1
    obtain ⟨nb2, A2, l2, d2, B2, m2, e2, rfl⟩ := hv.bools
    have HF := Lib.hid (show RetRt w (absQ q) _ _ by rw [HQ.out]; exact ret_rat_set HB.out hgw V2.out hv)
    have z0 := V2.out.c0
    have y0 := V2.out.f0
    have z1 := V2.out.c1
    have y1 := V2.out.f1
    have z2 := V2.out.c2
    have y2 := V2.out.f2
    have z3 := V2.out.c3
    have y3 := V2.out.f3
    have HZ := Lib.hid (V2.out.set (.bool nb2) (.slice A2 l2 d2) (.bool false) (.slice B2 m2 e2))
    unfold set4 at HF HZ
    clear hv HB V2
    go_wp2
    clear z0 z1 z2 z3 y0 y1 y2 y3
    have z0 := HZ.out.c0
    have z1 := HZ.out.c1
    have z2 := HZ.out.c2
    have z3 := HZ.out.c3
    generalize ((((w3.setCell ⟨w.heap.size + 1, 0, none⟩ (.bool nb2)).setCell ⟨w.heap.size + 1, 1, none⟩ (.slice A2 l2 d2)).setCell ⟨w.heap.size + 1, 2, none⟩ (.bool false)).setCell ⟨w.heap.size + 1, 3, none⟩ (.slice B2 m2 e2)) = W at *
    exact bodyPost_ret (v := .agg #[(.bool nb2), (.slice A2 l2 d2), (.bool false), (.slice B2 m2 e2)]) (by simp [results, Tryz.results26, go_sem, z0, z1, z2, z3]) rfl HF.out
  · have hs : ¬ q.num.sign < 0 := by rw [Int.sign_neg_iff]; exact hn
    have hs2 : decide (q.num.sign < 0) = false := decide_eq_false hs
    have HQ := Lib.hid (show absQ q = q by rw [absQ, if_neg hn])
    clear hn hs
    generalize q.num.sign = sg at *
    have HF := Lib.hid (show RetRt w (absQ q) _ _ by rw [HQ.out]; exact ret_rat_set HB.out hgw V2.out HU.out)
    have z0 := V2.out.c0
    have y0 := V2.out.f0
    have z1 := V2.out.c1
    have y1 := V2.out.f1
    have z2 := V2.out.c2
    have y2 := V2.out.f2
    have z3 := V2.out.c3
    have y3 := V2.out.f3
    have HZ := Lib.hid (V2.out.set (.bool nb) (.slice A l c) (.bool false) (.slice B m d))
    unfold set4 at HF HZ
    clear HB V2 HU V1
    go_wp2
    clear z0 z1 z2 z3 y0 y1 y2 y3
    have z0 := HZ.out.c0
    have z1 := HZ.out.c1
    have z2 := HZ.out.c2
    have z3 := HZ.out.c3
    generalize ((((w2.setCell ⟨w.heap.size + 1, 0, none⟩ (.bool nb)).setCell ⟨w.heap.size + 1, 1, none⟩ (.slice A l c)).setCell ⟨w.heap.size + 1, 2, none⟩ (.bool false)).setCell ⟨w.heap.size + 1, 3, none⟩ (.slice B m d)) = W at *
    exact bodyPost_ret (v := .agg #[(.bool nb), (.slice A l c), (.bool false), (.slice B m d)]) (by simp [results, Tryz.results26, go_sem, z0, z1, z2, z3]) rfl HF.out
theorem branch_lim {b : BranchD} (h : branchOk b = true) : 0 ≤ b.limit ∧ b.limit ≤ 100000 ∧ 0 ≤ b.short ∧ b.short ≤ 100000 ∧ 0 ≤ b.hold ∧ b.hold ≤ 200000 := by
  simp only [branchOk, outB, Bool.not_eq_true', Bool.or_eq_false_iff, decide_eq_false_iff_not] at h
  omega
structure StOk (bs : List BranchD) (st : List RtB) : Prop where
  b : ∀ b ∈ bs, branchOk b = true
  a : ∀ x ∈ st, 0 ≤ x.a ∧ x.a ≤ 200000
  f : ∀ x ∈ st, FitR 210 x.f
theorem fitR_lim {k : Int} (h0 : 0 ≤ k) (h1 : k ≤ 100000) : FitR 210 (k : Rat) := by
  have e : (k : Rat).num = k := by simp
  have e2 : (k : Rat).den = 1 := by simp
  refine ⟨?_, ?_⟩
  · rw [e]; exact fits_one 210 (by omega) k (by omega) (by omega)
  · rw [e2]; exact fits_one 210 (by omega) _ (by decide) (by decide)
/-- the cells of flow i -/
theorem WS.flow {w : World} {base : Nat} {p : Wat} {bs : List BranchD} {st : List RtB} {t : Int} (h : WS w base p bs st t) {i : Nat} {x : RtB} (hi : st[i]? = some x) : ∃ b o nb B1 l1 c1 B2 l2 c2, p.fA = some ⟨b, o, none⟩ ∧ El w b (o + i * 4) (.bool nb) (.slice B1 l1 c1) (.bool false) (.slice B2 l2 c2) ∧ base ≤ b ∧ b < w.heap.size ∧ Rt w (.agg #[.bool nb, .slice B1 l1 c1, .bool false, .slice B2 l2 c2]) x.f := by
  have hl : i < st.length := (List.getElem?_eq_some_iff.1 hi).1
  have hq : (st.map RtB.f)[i]? = some x.f := by rw [List.getElem?_map, hi]; rfl
  have hn : (st.map RtB.f).length = bs.length := by rw [List.length_map, h.len]
  have hib : i < bs.length := by rw [← h.len]; exact hl
  obtain ⟨b, o, nb, B1, l1, c1, B2, l2, c2, e, hbl, hC, hrt⟩ := h.fl.rv.form (k := i) hib _ hq
  obtain ⟨cur, hB⟩ := h.fl.blk (g := b) (by rw [e]; rfl)
  exact ⟨b, o, nb, B1, l1, c1, B2, l2, c2, e, ⟨hC.c0, hC.c1, hC.c2, hC.c3, hB.frozen _, hB.frozen _, hB.frozen _, hB.frozen _⟩, (h.fl.lt (g := b) (by rw [e]; rfl)).1, hbl, hrt⟩
theorem lf_app (q : List (ByteArray × Int)) (y : ByteArray) (z : Int) : cellsBy lfC (q ++ [(y, z)]) = cellsBy lfC q ++ [.string y, I z] := by simp [cellsBy, lfC]
set_option maxRecDepth 100000 in
set_option maxHeartbeats 16000000 in
theorem rleft_any (p : Wat) (bs : List BranchD) (st : List RtB) (t : Int) (base : Nat) (w : World) (h : WS w base p bs st t) (hbn : bs.length ≤ 24) (hok : StOk bs st) : Calls Tryz.prog 10 #[.pointer (some ⟨p.g, 0, none⟩)] w (RetLf w (leftL bs st)) := by
  obtain ⟨g, bA, bc, fA, fc, ab, ob⟩ := p
  have H := Lib.hid h
  have c0 := h.c0
  have HLN := Lib.hid h.len
  have HOK := Lib.hid hok
  clear h hok
  simp only at c0 ⊢
  have HN0 := Lib.hid (show Row w w.heap.size lfT 2 (.slice none 0 0) (leftL (bs.take 0) (st.take 0)).length (cellsBy lfC (leftL (bs.take 0) (st.take 0))) from Row.nil _ _ _ _)
  have HB0 := Lib.hid (Below.refl w.heap.size w)
  go_enter Tryz.func10, Tryz.ntmps10
  go_wp2
  clear c0
  go_loopg [3, 12] (bs.length - 0) (fun r o v wr => ∃ k : Nat, ∃ vo : Value, o = vo ∧ r = bs.length - k ∧ v = I k ∧ k ≤ bs.length ∧ Hid (Row wr w.heap.size lfT 2 vo (leftL (bs.take k) (st.take k)).length (cellsBy lfC (leftL (bs.take k) (st.take k)))) ∧ Hid (Below w.heap.size w wr))
  case atStart => exact ⟨0, _, rfl, rfl, rfl, by omega, HN0, HB0⟩
  case round =>
    clear HN0 HB0
    obtain ⟨k, vo, hvo, rfl, rfl, hk, HR, HB⟩ := hrel
    replace hvo := hvo.symm
    subst hvo
    obtain ⟨wa, rfl⟩ : ∃ wa : World, wa = wr := ⟨_, rfl⟩
    by_cases hlt : k < bs.length
    · have hW := H.out.call HB.out
      obtain ⟨b, x, hb1, hx1⟩ := hW.get hlt
      obtain ⟨bb, off, e, hbl, u0, u1, u2, u3, u4, u5, u6, u7, u8⟩ := hW.br0 hb1
      simp only at e
      subst e
      obtain ⟨fb, fo, fn, F1, f1, k1, F2, f2, k2, e, hE, _, hfl, hrt⟩ := hW.flow hx1
      simp only at e
      subst e
      have HW := Lib.hid hW
      have HS := Lib.hid (leftL_succ bs st k b x hb1 hx1)
      have HX := Lib.hid (getD_of (d := rt0) hx1)
      have hlim := branch_lim (HOK.out.b b (List.mem_of_getElem? hb1))
      have hxa := HOK.out.a x (List.mem_of_getElem? hx1)
      have HXF := Lib.hid (HOK.out.f x (List.mem_of_getElem? hx1))
      have HRT := Lib.hid hrt
      have HEL := Lib.hid hE
      clear hW hb1 hx1 hrt hE
      obtain ⟨nm, sr, ds, bx, ta, sh, li, so, ho⟩ := b
      simp only at u0 u1 u2 u3 u4 u5 u6 u7 u8 hlim
      obtain ⟨hl0, hl1, _, _, hh0, hh1⟩ := hlim
      obtain ⟨ha0, ha1⟩ := hxa
      go_upto_region 5 with (fail)
      clear u0 u1 u2 u3 u4 u5 u6 u7 u8
      have BA := Lib.hid (below_new wa (Obj.cells #[.string nm, .string sr, .string ds, I bx, I ta, I sh, I li, I so, I ho] brT))
      have HBX := Lib.hid (Blk.new wa brT #[.string nm, .string sr, .string ds, I bx, I ta, I sh, I li, I so, I ho])
      have hs1 := World.size_alloc wa (Obj.cells #[.string nm, .string sr, .string ds, I bx, I ta, I sh, I li, I so, I ho] brT)
      unfold brT at *
      generalize wa.alloc (Obj.cells #[.string nm, .string sr, .string ds, I bx, I ta, I sh, I li, I so, I ho] 68) = W1 at *
      have hg1 : wa.heap.size < W1.heap.size := by omega
      clear hs1
      generalize hga : wa.heap.size = ga at *
      have hn0 := HBX.out.cell 0
      change _ = some (Value.string nm) at hn0
      go_upto_region 6 with (fail)
      clear hn0
      have hz := below_new W1 (Obj.cells #[.string nm, I (-1)] lfT)
      have HLF := Lib.hid (Blk.new W1 lfT #[.string nm, I (-1)])
      have hs1 := World.size_alloc W1 (Obj.cells #[.string nm, I (-1)] lfT)
      replace HBX := Lib.hid (HBX.out.below hz hg1)
      replace BA := Lib.hid (BA.out.trans (hz.mono (Nat.le_of_lt hg1)))
      clear hz
      unfold lfT at HLF hs1 HBX BA
      generalize W1.alloc (Obj.cells #[.string nm, I (-1)] 43) = W2 at *
      have hg2 : W1.heap.size < W2.heap.size := by omega
      clear hs1
      generalize hgl : W1.heap.size = gl at *
      clear hgl
      have c3 := (HW.out.call (hga ▸ BA.out)).c3
      have cv := (HW.out.call (hga ▸ BA.out)).obv hlt
      rw [HX.out] at cv
      simp only at c3 cv
      cases hxo : x.o with
      | true =>
        rw [hxo] at cv
        have HLB := Lib.hid (show leftB ⟨nm, sr, ds, bx, ta, sh, li, so, ho⟩ x = 0 by rw [leftB, if_pos hxo])
        clear hxo
        have q0 := HLF.out.cell 0
        have q1 := HLF.out.cell 1
        have y1 := HLF.out.frozen 1
        change _ = some (I (-1)) at q1
        go_upto_region 10 with (fail)
        clear q0 q1 y1 c3 cv
        replace HLF := Lib.hid (show Blk (W2.setCell ⟨gl, 1, none⟩ (I 0)) gl lfT #[.string nm, I 0] from HLF.out.set_ 1 (I 0))
        replace BA := Lib.hid (BA.out.setCell (p := ⟨gl, 1, none⟩) (by show ga ≤ gl; omega) (I 0))
        clear HBX
        have HBX := Lib.hid True.intro
        generalize W2.setCell ⟨gl, 1, none⟩ (I 0) = W2 at *
        have hql : (leftL (bs.take k) (st.take k)).length ≤ 1000000 := by
          have := leftL_le (bs.take k) (st.take k)
          rw [List.length_take] at this
          omega
        have HRA := Lib.hid (HR.out.call (hga ▸ BA.out))
        have HBA := Lib.hid (HB.out.trans ((hga ▸ BA.out : Below wa.heap.size wa W2).mono HB.out.size))
        replace HS := Lib.hid (show leftL (bs.take (k + 1)) (st.take (k + 1)) = leftL (bs.take k) (st.take k) ++ [(nm, 0)] by rw [HS.out, HLB.out])
        have q0 := HLF.out.cell 0
        have q1 := HLF.out.cell 1
        change _ = some (Value.string nm) at q0
        change _ = some (I (0)) at q1
        clear HR HB BA HW HX HXF HRT HEL HLB HBX HLF
        generalize leftL (bs.take k) (st.take k) = q at *
        unfold lfT at *
        go_wp2_with (at_builtin; refine wpList_appL rfl _ _ rfl w.heap.size vo q nm (0) W2.heap.size rfl rfl rfl HRA.out hql HBA.out.size ?_)
        intro v9 w9 hrow hb2
        unfold lfT at hb2
        have HNN := Lib.hid (show Row w9 w.heap.size 43 2 v9 (leftL (bs.take (k + 1)) (st.take (k + 1))).length (cellsBy lfC (leftL (bs.take (k + 1)) (st.take (k + 1)))) by rw [HS.out, List.length_append, lf_app]; exact hrow)
        have HBN := Lib.hid (HBA.out.trans (((Below.refl _ W2).alloc (Nat.le_refl _) _).mono HBA.out.size |>.trans hb2))
        clear hrow hb2 HRA HBA HS q0 q1
        go_wp2
        go_roundg (bs.length - (k + 1))
        case measure => omega
        case rel => exact ⟨k + 1, _, rfl, rfl, by go_num, by omega, HNN, HBN⟩
      | false =>
        rw [hxo] at cv
        go_upto_region 8 with (fail)
        clear c3 cv
        have hd := below_draw W2
        replace HBX := Lib.hid (HBX.out.below hd HBX.out.lt)
        replace HLF := Lib.hid (HLF.out.below hd HLF.out.lt)
        replace BA := Lib.hid (BA.out.trans (hd.mono (by rw [← hga]; exact BA.out.size)))
        clear hd
        have hWW := HW.out.call (hga ▸ BA.out)
        have C1 := Lib.hid hWW.c1
        have CF := Lib.hid ((HEL.out.below (hga ▸ BA.out)))
        have HRT2 := Lib.hid (HRT.out.ext (hga ▸ BA.out))
        have CL := Lib.hid (HBX.out.cell 6)
        clear hWW
        simp only at C1
        replace CL := Lib.hid (show W2.drew.cell? ⟨ga, 6, none⟩ = some (I li) from CL.out)
        refine wp_region_c (fun w' => w'.cell? ⟨g, 1, none⟩ = some (.slice (some ⟨fb, fo, none⟩) bs.length fc) ∧ w'.cell? ⟨fb, fo + k * 4, none⟩ = some (.bool fn) ∧ w'.cell? ⟨fb, fo + k * 4 + 1, none⟩ = some (.slice F1 f1 k1) ∧ w'.cell? ⟨fb, fo + k * 4 + 2, none⟩ = some (.bool false) ∧ w'.cell? ⟨fb, fo + k * 4 + 3, none⟩ = some (.slice F2 f2 k2) ∧ w'.cell? ⟨ga, 6, none⟩ = some (I li)) 10 (by kernel_rfl) ?_
        generalize W2.drew = W3 at *
        refine wpAnyC_take8 (i := 0) (oi := _) (v := .pointer (some ⟨g, 0, none⟩)) rfl (by kernel_rfl) (by kernel_rfl) (by kernel_rfl) (by kernel_rfl) (by kernel_rfl) (by kernel_rfl) (fun _ _ _ h => h) (Or.inl ⟨by rfl, ?_⟩) ⟨C1.out, CF.out.c0, CF.out.c1, CF.out.c2, CF.out.c3, CL.out⟩ ?_
        · intro w hSw
          obtain ⟨s0, s1, s2, s3, s4, s5⟩ := hSw
          go_simp
        try simp only [Act.put, List.setIfInBounds_toArray]
        refine wpAnyC_take8 (i := 1) (oi := _) (v := .pointer (some ⟨g, 0, none⟩)) rfl (by kernel_rfl) (by kernel_rfl) (by kernel_rfl) (by kernel_rfl) (by kernel_rfl) (by kernel_rfl) (fun _ _ _ h => h) (Or.inl ⟨by rfl, ?_⟩) ⟨C1.out, CF.out.c0, CF.out.c1, CF.out.c2, CF.out.c3, CL.out⟩ ?_
        · intro w hSw
          obtain ⟨s0, s1, s2, s3, s4, s5⟩ := hSw
          go_simp
        try simp only [Act.put]
        refine wpAnyC_take8 (i := 2) (oi := _) (v := .pointer (some ⟨g, 1, none⟩)) rfl (by kernel_rfl) (by kernel_rfl) (by kernel_rfl) (by kernel_rfl) (by kernel_rfl) (by kernel_rfl) (fun _ _ _ h => h) (Or.inl ⟨by rfl, ?_⟩) ⟨C1.out, CF.out.c0, CF.out.c1, CF.out.c2, CF.out.c3, CL.out⟩ ?_
        · intro w hSw
          obtain ⟨s0, s1, s2, s3, s4, s5⟩ := hSw
          go_simp
        try simp only [Act.put]
        refine wpAnyC_take8 (i := 3) (oi := _) (v := .slice (some ⟨fb, fo, none⟩) bs.length fc) rfl (by kernel_rfl) (by kernel_rfl) (by kernel_rfl) (by kernel_rfl) (by kernel_rfl) (by kernel_rfl) (fun _ _ _ h => h) (Or.inl ⟨by rfl, ?_⟩) ⟨C1.out, CF.out.c0, CF.out.c1, CF.out.c2, CF.out.c3, CL.out⟩ ?_
        · intro w hSw
          obtain ⟨s0, s1, s2, s3, s4, s5⟩ := hSw
          go_simp
        try simp only [Act.put]
        refine wpAnyC_take8 (i := 4) (oi := _) (v := I k) rfl (by kernel_rfl) (by kernel_rfl) (by kernel_rfl) (by kernel_rfl) (by kernel_rfl) (by kernel_rfl) (fun _ _ _ h => h) (Or.inl ⟨by rfl, ?_⟩) ⟨C1.out, CF.out.c0, CF.out.c1, CF.out.c2, CF.out.c3, CL.out⟩ ?_
        · intro w hSw
          obtain ⟨s0, s1, s2, s3, s4, s5⟩ := hSw
          go_simp
        try simp only [Act.put]
        refine wpAnyC_take8 (i := 5) (oi := _) (v := .pointer (some ⟨fb, fo + k * 4, none⟩)) rfl (by kernel_rfl) (by kernel_rfl) (by kernel_rfl) (by kernel_rfl) (by kernel_rfl) (by kernel_rfl) (fun _ _ _ h => h) (Or.inl ⟨by rfl, ?_⟩) ⟨C1.out, CF.out.c0, CF.out.c1, CF.out.c2, CF.out.c3, CL.out⟩ ?_
        · intro w hSw
          obtain ⟨s0, s1, s2, s3, s4, s5⟩ := hSw
          go_simp
        try simp only [Act.put]
        refine wpAnyC_take8 (i := 6) (oi := _) (v := .agg #[.bool fn, .slice F1 f1 k1, .bool false, .slice F2 f2 k2]) rfl (by kernel_rfl) (by kernel_rfl) (by kernel_rfl) (by kernel_rfl) (by kernel_rfl) (by kernel_rfl) (fun _ _ _ h => h) (Or.inl ⟨by rfl, ?_⟩) ⟨C1.out, CF.out.c0, CF.out.c1, CF.out.c2, CF.out.c3, CL.out⟩ ?_
        · intro w hSw
          obtain ⟨s0, s1, s2, s3, s4, s5⟩ := hSw
          go_simp
        try simp only [Act.put]
        refine wpAnyC_take8 (i := 7) (oi := _) (v := .pointer (some ⟨ga, 6, none⟩)) rfl (by kernel_rfl) (by kernel_rfl) (by kernel_rfl) (by kernel_rfl) (by kernel_rfl) (by kernel_rfl) (fun _ _ _ h => h) (Or.inl ⟨by rfl, ?_⟩) ⟨C1.out, CF.out.c0, CF.out.c1, CF.out.c2, CF.out.c3, CL.out⟩ ?_
        · intro w hSw
          obtain ⟨s0, s1, s2, s3, s4, s5⟩ := hSw
          go_simp
        try simp only [Act.put]
        refine wpAnyC_take8 (i := 8) (oi := _) (v := I li) rfl (by kernel_rfl) (by kernel_rfl) (by kernel_rfl) (by kernel_rfl) (by kernel_rfl) (by kernel_rfl) (fun _ _ _ h => h) (Or.inl ⟨by rfl, ?_⟩) ⟨C1.out, CF.out.c0, CF.out.c1, CF.out.c2, CF.out.c3, CL.out⟩ ?_
        · intro w hSw
          obtain ⟨s0, s1, s2, s3, s4, s5⟩ := hSw
          go_simp
        try simp only [Act.put]
        refine wpAnyC_one (i := 9) (by kernel_rfl) rfl (fun K hK => ?_)
        go_simp
        go_at_call 28
        refine (rwhole_any li W3 (by omega) (by omega)).mono ?_
        rintro e W4 ⟨vw, rfl, hvw, hb⟩
        replace HBX := Lib.hid (HBX.out.below hb HBX.out.lt)
        replace HLF := Lib.hid (HLF.out.below hb HLF.out.lt)
        replace BA := Lib.hid (BA.out.trans (hb.mono (by rw [← hga]; exact BA.out.size)))
        replace C1 := Lib.hid (cell_below C1.out hb)
        replace CF := Lib.hid (CF.out.below hb)
        replace CL := Lib.hid (cell_below CL.out hb)
        replace HRT2 := Lib.hid (HRT2.out.ext hb)
        clear hb
        have HVW := Lib.hid hvw
        clear hvw
        refine hK.out _ _ (fun _ => ⟨C1.out, CF.out.c0, CF.out.c1, CF.out.c2, CF.out.c3, CL.out⟩) ?_
        clear hK K C1 CF CL
        try simp only [Act.put, List.setIfInBounds_toArray, List.set_cons_zero, List.set_cons_succ]
        refine wpAnyC_one (i := 10) (by kernel_rfl) rfl (fun K hK => ?_)
        go_simp
        go_at_call 27
        refine (rcmp_any _ _ x.f (li : Rat) W4 HRT2.out HVW.out (N := 210) (by decide) HXF.out (fitR_lim hl0 hl1)).mono ?_
        rintro e W5 ⟨rfl, hb⟩
        replace HBX := Lib.hid (HBX.out.below hb HBX.out.lt)
        replace HLF := Lib.hid (HLF.out.below hb HLF.out.lt)
        replace BA := Lib.hid (BA.out.trans (hb.mono (by rw [← hga]; exact BA.out.size)))
        clear hb HVW HRT2
        have HGT := Lib.hid (show gtI x.f li = decide (0 < (x.f.num * ((li : Rat).den : Int) - (li : Rat).num * (x.f.den : Int)).sign) from rfl)
        generalize (x.f.num * ((li : Rat).den : Int) - (li : Rat).num * (x.f.den : Int)).sign = sg at *
        refine hK.out _ _ (fun h => absurd h (by decide)) ?_
        clear hK K
        try simp only [Act.put, List.setIfInBounds_toArray, List.set_cons_zero, List.set_cons_succ]
        by_cases hgt : 0 < sg
        · skip
          have hgd : decide (sg > 0) = true := decide_eq_true hgt
          refine wpAnyC_one (i := 11) (by kernel_rfl) rfl (fun K hK => ?_)
          go_simp
          refine hK.out _ _ (fun h => absurd h (by decide)) ?_
          clear hK K
          try simp only [Act.put, List.setIfInBounds_toArray, List.set_cons_zero, List.set_cons_succ]
          refine wpAnyC_one (i := 12) (by kernel_rfl) rfl (fun K hK => ?_)
          go_simp
          refine hK.out _ _ (fun h => absurd h (by decide)) ?_
          clear hK K
          try simp only [Act.put, List.setIfInBounds_toArray, List.set_cons_zero, List.set_cons_succ]
          refine wpAnyC_done (by kernel_rfl) ?_ _
          have HLB := Lib.hid (show leftB ⟨nm, sr, ds, bx, ta, sh, li, so, ho⟩ x = ho - x.a by rw [leftB, if_neg (by rw [hxo]; decide), if_pos (by rw [HGT.out]; exact decide_eq_true hgt)])
          clear hgd HGT hxo hgt
          go_upto_region 9 with (fail)
          have hd := below_draw W5
          replace HBX := Lib.hid (HBX.out.below hd HBX.out.lt)
          replace HLF := Lib.hid (HLF.out.below hd HLF.out.lt)
          replace BA := Lib.hid (BA.out.trans (hd.mono (by rw [← hga]; exact BA.out.size)))
          clear hd
          have hWW := HW.out.call (hga ▸ BA.out)
          have C2 := Lib.hid hWW.c2
          have CA := Lib.hid (hWW.abv hlt)
          rw [HX.out] at CA
          simp only at C2 CA
          clear hWW
          have CH := Lib.hid (show W5.drew.cell? ⟨ga, 8, none⟩ = some (I ho) from HBX.out.cell 8)
          have CR := Lib.hid (show W5.drew.cell? ⟨gl, 1, none⟩ = some (I (-1)) from HLF.out.cell 1)
          have FR := Lib.hid (HLF.out.frozen 1)
          refine wp_region_c (fun w' => w'.cell? ⟨ga, 8, none⟩ = some (I ho) ∧ w'.cell? ⟨g, 2, none⟩ = some (.slice (some ⟨ab, 0, none⟩) bs.length bs.length) ∧ w'.cell? ⟨ab, k, none⟩ = some (I x.a)) 11 (by kernel_rfl) ?_
          generalize W5.drew = W6 at *
          refine wpAnyC_take8 (i := 0) (oi := _) (v := .pointer (some ⟨ga, 8, none⟩)) rfl (by kernel_rfl) (by kernel_rfl) (by kernel_rfl) (by kernel_rfl) (by kernel_rfl) (by kernel_rfl) (fun _ _ _ h => h) (Or.inl ⟨by rfl, ?_⟩) ⟨CH.out, C2.out, CA.out⟩ ?_
          · intro w hSw
            obtain ⟨s0, s1, s2⟩ := hSw
            go_simp
          try simp only [Act.put, List.setIfInBounds_toArray]
          refine wpAnyC_take8 (i := 1) (oi := _) (v := I ho) rfl (by kernel_rfl) (by kernel_rfl) (by kernel_rfl) (by kernel_rfl) (by kernel_rfl) (by kernel_rfl) (fun _ _ _ h => h) (Or.inl ⟨by rfl, ?_⟩) ⟨CH.out, C2.out, CA.out⟩ ?_
          · intro w hSw
            obtain ⟨s0, s1, s2⟩ := hSw
            go_simp
          try simp only [Act.put]
          refine wpAnyC_take8 (i := 2) (oi := _) (v := .pointer (some ⟨g, 0, none⟩)) rfl (by kernel_rfl) (by kernel_rfl) (by kernel_rfl) (by kernel_rfl) (by kernel_rfl) (by kernel_rfl) (fun _ _ _ h => h) (Or.inl ⟨by rfl, ?_⟩) ⟨CH.out, C2.out, CA.out⟩ ?_
          · intro w hSw
            obtain ⟨s0, s1, s2⟩ := hSw
            go_simp
          try simp only [Act.put]
          refine wpAnyC_take8 (i := 3) (oi := _) (v := .pointer (some ⟨g, 0, none⟩)) rfl (by kernel_rfl) (by kernel_rfl) (by kernel_rfl) (by kernel_rfl) (by kernel_rfl) (by kernel_rfl) (fun _ _ _ h => h) (Or.inl ⟨by rfl, ?_⟩) ⟨CH.out, C2.out, CA.out⟩ ?_
          · intro w hSw
            obtain ⟨s0, s1, s2⟩ := hSw
            go_simp
          try simp only [Act.put]
          refine wpAnyC_take8 (i := 4) (oi := _) (v := .pointer (some ⟨g, 2, none⟩)) rfl (by kernel_rfl) (by kernel_rfl) (by kernel_rfl) (by kernel_rfl) (by kernel_rfl) (by kernel_rfl) (fun _ _ _ h => h) (Or.inl ⟨by rfl, ?_⟩) ⟨CH.out, C2.out, CA.out⟩ ?_
          · intro w hSw
            obtain ⟨s0, s1, s2⟩ := hSw
            go_simp
          try simp only [Act.put]
          refine wpAnyC_take8 (i := 5) (oi := _) (v := .slice (some ⟨ab, 0, none⟩) bs.length bs.length) rfl (by kernel_rfl) (by kernel_rfl) (by kernel_rfl) (by kernel_rfl) (by kernel_rfl) (by kernel_rfl) (fun _ _ _ h => h) (Or.inl ⟨by rfl, ?_⟩) ⟨CH.out, C2.out, CA.out⟩ ?_
          · intro w hSw
            obtain ⟨s0, s1, s2⟩ := hSw
            go_simp
          try simp only [Act.put]
          refine wpAnyC_take8 (i := 6) (oi := _) (v := I k) rfl (by kernel_rfl) (by kernel_rfl) (by kernel_rfl) (by kernel_rfl) (by kernel_rfl) (by kernel_rfl) (fun _ _ _ h => h) (Or.inl ⟨by rfl, ?_⟩) ⟨CH.out, C2.out, CA.out⟩ ?_
          · intro w hSw
            obtain ⟨s0, s1, s2⟩ := hSw
            go_simp
          try simp only [Act.put]
          refine wpAnyC_take8 (i := 7) (oi := _) (v := .pointer (some ⟨ab, k, none⟩)) rfl (by kernel_rfl) (by kernel_rfl) (by kernel_rfl) (by kernel_rfl) (by kernel_rfl) (by kernel_rfl) (fun _ _ _ h => h) (Or.inl ⟨by rfl, ?_⟩) ⟨CH.out, C2.out, CA.out⟩ ?_
          · intro w hSw
            obtain ⟨s0, s1, s2⟩ := hSw
            go_simp
          try simp only [Act.put]
          refine wpAnyC_take8 (i := 8) (oi := _) (v := I x.a) rfl (by kernel_rfl) (by kernel_rfl) (by kernel_rfl) (by kernel_rfl) (by kernel_rfl) (by kernel_rfl) (fun _ _ _ h => h) (Or.inl ⟨by rfl, ?_⟩) ⟨CH.out, C2.out, CA.out⟩ ?_
          · intro w hSw
            obtain ⟨s0, s1, s2⟩ := hSw
            go_simp
          try simp only [Act.put]
          refine wpAnyC_take8 (i := 9) (oi := _) (v := I (ho - x.a)) rfl (by kernel_rfl) (by kernel_rfl) (by kernel_rfl) (by kernel_rfl) (by kernel_rfl) (by kernel_rfl) (fun _ _ _ h => h) (Or.inl ⟨by rfl, ?_⟩) ⟨CH.out, C2.out, CA.out⟩ ?_
          · intro w hSw
            go_simp
            exact IntWalk.i64_in _ (by omega)
          try simp only [Act.put]
          refine wpAnyC_take8 (i := 10) (oi := _) (v := .pointer (some ⟨gl, 1, none⟩)) rfl (by kernel_rfl) (by kernel_rfl) (by kernel_rfl) (by kernel_rfl) (by kernel_rfl) (by kernel_rfl) (fun _ _ _ h => h) (Or.inl ⟨by rfl, ?_⟩) ⟨CH.out, C2.out, CA.out⟩ ?_
          · intro w hSw
            obtain ⟨s0, s1, s2⟩ := hSw
            go_simp
          try simp only [Act.put]
          have q1 := CR.out
          have y1 := FR.out
          refine wpAnyC_one (i := 11) (by kernel_rfl) rfl (fun K hK => ?_)
          go_simp
          replace HLF := Lib.hid (show Blk (W6.setCell ⟨gl, 1, none⟩ (I (ho - x.a))) gl lfT #[.string nm, I (ho - x.a)] from HLF.out.set_ 1 (I (ho - x.a)))
          replace BA := Lib.hid (BA.out.setCell (p := ⟨gl, 1, none⟩) (by show ga ≤ gl; omega) (I (ho - x.a)))
          clear q1 y1 CR FR CH C2 CA HBX
          have HBX := Lib.hid True.intro
          generalize W6.setCell ⟨gl, 1, none⟩ (I (ho - x.a)) = W2 at *
          refine hK.out _ _ (fun h => absurd h (by decide)) ?_
          clear hK K
          try simp only [Act.put, List.setIfInBounds_toArray, List.set_cons_zero, List.set_cons_succ]
          refine wpAnyC_done (by kernel_rfl) ?_ _
          have hql : (leftL (bs.take k) (st.take k)).length ≤ 1000000 := by
            have := leftL_le (bs.take k) (st.take k)
            rw [List.length_take] at this
            omega
          have HRA := Lib.hid (HR.out.call (hga ▸ BA.out))
          have HBA := Lib.hid (HB.out.trans ((hga ▸ BA.out : Below wa.heap.size wa W2).mono HB.out.size))
          replace HS := Lib.hid (show leftL (bs.take (k + 1)) (st.take (k + 1)) = leftL (bs.take k) (st.take k) ++ [(nm, ho - x.a)] by rw [HS.out, HLB.out])
          have q0 := HLF.out.cell 0
          have q1 := HLF.out.cell 1
          change _ = some (Value.string nm) at q0
          change _ = some (I (ho - x.a)) at q1
          clear HR HB BA HW HX HXF HRT HEL HLB HBX HLF
          generalize leftL (bs.take k) (st.take k) = q at *
          unfold lfT at *
          go_wp2_with (at_builtin; refine wpList_appL rfl _ _ rfl w.heap.size vo q nm (ho - x.a) W2.heap.size rfl rfl rfl HRA.out hql HBA.out.size ?_)
          intro v9 w9 hrow hb2
          unfold lfT at hb2
          have HNN := Lib.hid (show Row w9 w.heap.size 43 2 v9 (leftL (bs.take (k + 1)) (st.take (k + 1))).length (cellsBy lfC (leftL (bs.take (k + 1)) (st.take (k + 1)))) by rw [HS.out, List.length_append, lf_app]; exact hrow)
          have HBN := Lib.hid (HBA.out.trans (((Below.refl _ W2).alloc (Nat.le_refl _) _).mono HBA.out.size |>.trans hb2))
          clear hrow hb2 HRA HBA HS q0 q1
          go_wp2
          go_roundg (bs.length - (k + 1))
          case measure => omega
          case rel => exact ⟨k + 1, _, rfl, rfl, by go_num, by omega, HNN, HBN⟩
        · skip
          have hgd : decide (sg > 0) = false := decide_eq_false hgt
          refine wpAnyC_one (i := 11) (by kernel_rfl) rfl (fun K hK => ?_)
          go_simp
          refine hK.out _ _ (fun h => absurd h (by decide)) ?_
          clear hK K
          try simp only [Act.put, List.setIfInBounds_toArray, List.set_cons_zero, List.set_cons_succ]
          refine wpAnyC_one (i := 12) (by kernel_rfl) rfl (fun K hK => ?_)
          go_simp
          refine hK.out _ _ (fun h => absurd h (by decide)) ?_
          clear hK K
          try simp only [Act.put, List.setIfInBounds_toArray, List.set_cons_zero, List.set_cons_succ]
          refine wpAnyC_done (by kernel_rfl) ?_ _
          have HLB := Lib.hid (show leftB ⟨nm, sr, ds, bx, ta, sh, li, so, ho⟩ x = -1 by rw [leftB, if_neg (by rw [hxo]; decide), if_neg (by rw [HGT.out, decide_eq_false hgt]; decide)])
          clear hgd HGT hxo hgt
          generalize W5 = W2 at *
          have hql : (leftL (bs.take k) (st.take k)).length ≤ 1000000 := by
            have := leftL_le (bs.take k) (st.take k)
            rw [List.length_take] at this
            omega
          have HRA := Lib.hid (HR.out.call (hga ▸ BA.out))
          have HBA := Lib.hid (HB.out.trans ((hga ▸ BA.out : Below wa.heap.size wa W2).mono HB.out.size))
          replace HS := Lib.hid (show leftL (bs.take (k + 1)) (st.take (k + 1)) = leftL (bs.take k) (st.take k) ++ [(nm, -1)] by rw [HS.out, HLB.out])
          have q0 := HLF.out.cell 0
          have q1 := HLF.out.cell 1
          change _ = some (Value.string nm) at q0
          change _ = some (I (-1)) at q1
          clear HR HB BA HW HX HXF HRT HEL HLB HBX HLF
          generalize leftL (bs.take k) (st.take k) = q at *
          unfold lfT at *
          go_wp2_with (at_builtin; refine wpList_appL rfl _ _ rfl w.heap.size vo q nm (-1) W2.heap.size rfl rfl rfl HRA.out hql HBA.out.size ?_)
          intro v9 w9 hrow hb2
          unfold lfT at hb2
          have HNN := Lib.hid (show Row w9 w.heap.size 43 2 v9 (leftL (bs.take (k + 1)) (st.take (k + 1))).length (cellsBy lfC (leftL (bs.take (k + 1)) (st.take (k + 1)))) by rw [HS.out, List.length_append, lf_app]; exact hrow)
          have HBN := Lib.hid (HBA.out.trans (((Below.refl _ W2).alloc (Nat.le_refl _) _).mono HBA.out.size |>.trans hb2))
          clear hrow hb2 HRA HBA HS q0 q1
          go_wp2
          go_roundg (bs.length - (k + 1))
          case measure => omega
          case rel => exact ⟨k + 1, _, rfl, rfl, by go_num, by omega, HNN, HBN⟩
    · have hin : k = bs.length := by omega
      subst hin
      have hr := HR.out
      rw [List.take_of_length_le (Nat.le_refl _), List.take_of_length_le (by rw [HLN.out]; exact Nat.le_refl _)] at hr
      obtain ⟨A9, c9, rfl⟩ := hr.val
      have HQ := Lib.hid hr
      clear hr HR
      go_wp2
      go_ret
      exact ⟨A9, c9, rfl, HQ.out, HB.out⟩
end Go.Proofs.YtfigffaghaaaoaaGreatDoor
