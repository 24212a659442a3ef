/- The walk of LossPieces. LossPieces returns true for every input: tangents touch the loss at their points and are nowhere above it; chords meet it at both points. No conditions. The row's listed variables hold what the program's text lays (the card ties them). -/
import Derived.Test.YtmnedfkinepnfaaGreatDoorLJG
import Derived.Test.YtmnedfkinepnfaaGreatDoorCards
import Derived.Test.YtmnedfkinepnfaaGreatDoorTie
import Derived.Test.YtmnedfkinepnfaaGreatDoorJZ
import Derived.ShutString
import Derived.ChangeMaps5
namespace Go.Proofs.YtmnedfkinepnfaaGreatDoor
open Go.RowKit

theorem LPv.at_ {w : World} {A : Option Addr} {n : Nat} {t : List (List UInt8 × List UInt8)} (h : LPv w A n (mkP t)) {k : Nat} {a b : List UInt8} (hk : t[k]? = some (a, b)) :
    ∃ g o, A = some ⟨g, o, none⟩ ∧ w.cell? ⟨g, o + k * 2, none⟩ = some (Sv ⟨a.toArray⟩) ∧ w.cell? ⟨g, o + k * 2 + 1, none⟩ = some (Sv ⟨b.toArray⟩) ∧ k < n ∧ g < w.heap.size := by
  have hm : (mkP t)[k]? = some (⟨a.toArray⟩, ⟨b.toArray⟩) := by rw [mkP, List.getElem?_map, hk]; rfl
  have hl : (mkP t).length = n := by have := h.1; rw [lpV_len] at this; omega
  have hkn : k < n := by have := (List.getElem?_eq_some_iff.1 hm).1; omega
  obtain ⟨g, o, rfl, hg, hc⟩ := h.2 (by omega)
  have h1 := hc _ _ (lpV_at hm).1
  have h2 := hc _ _ (lpV_at hm).2
  rw [← Nat.add_assoc] at h2
  exact ⟨g, o, rfl, h1, h2, hkn, hg⟩
theorem at_known {a b f y : List UInt8} (w : World) (h : atT a b f = (y, true)) (ha : a.length ≤ 4002) (hb : b.length ≤ 4002) (hf : (⟨f.toArray⟩ : ByteArray).size ≤ 9223372036854775807) (htab : Tab w) :
    Calls Tryz.prog 26 #[.agg #[.string ⟨a.toArray⟩, .string ⟨b.toArray⟩], .string ⟨f.toArray⟩] w fun e w' => e = .returned (.tuple #[.string ⟨y.toArray⟩, .bool true]) ∧ Below w.heap.size w w' := by
  have h1 := at_any ⟨a.toArray⟩ ⟨b.toArray⟩ ⟨f.toArray⟩ w (by show (List.toArray _).size ≤ _; rw [List.size_toArray]; omega) (by show (List.toArray _).size ≤ _; rw [List.size_toArray]; omega) hf htab
  rw [show atT (SL ⟨a.toArray⟩) (SL ⟨b.toArray⟩) (SL ⟨f.toArray⟩) = (y, true) from h] at h1
  exact h1
/-- when the texts of the pieces are not told -/
theorem pieces_err {r : List UInt8} {l : List (List UInt8)} : (lchk r l ≠ 0 → tanT r l = ([], lchk r l) ∧ choT r l = ([], lchk r l)) ∧ (lchk r l = 0 → ((tanT r l).2 = 0 ∨ tanT r l = ([], 2)) ∧ ((choT r l).2 = 0 ∨ choT r l = ([], 2))) := by
  refine ⟨fun h => ⟨by rw [tanT, if_pos h], by rw [choT, if_pos h]⟩, fun h => ?_⟩
  have hp : ∀ ps : List PcQ, (pcsT ps).2 = 0 ∨ pcsT ps = ([], 2) := fun ps => by
    unfold pcsT
    split
    · exact .inl rfl
    · exact .inr rfl
  rw [tanT, if_neg (fun k => k h), choT, if_neg (fun k => k h)]
  exact ⟨hp _, hp _⟩
theorem str_eta (s : ByteArray) : (⟨(SL s).toArray⟩ : ByteArray) = s := rfl
set_option maxRecDepth 100000 in
set_option maxHeartbeats 16000000 in
theorem lossPieces_any (r : ByteArray) (l : List ByteArray) (n : Nat) (A : Option Addr) (c : Nat) (f : ByteArray) (w : World) (sr : r.size ≤ 9223372036854775807) (hr : SV w A n l) (hs : Sh1 l) (_hl : n ≤ 9223372036854775807) (sf : f.size ≤ 9223372036854775807) (htab : Tab w) :
    Calls Tryz.prog 4 #[.string r, .slice A n c, .string f] w fun e w' => e = .returned (.bool true) ∧ Below w.heap.size w w' := by
  have HTB := Lib.hid htab
  have HS := Lib.hid hs
  have HLB := Lib.hid hr.len
  have HLN := Lib.hid (show (tx1 l).length = n by rw [tx1, List.length_map, hr.len])
  clear htab hs
  have HB := Lib.hid (Below.refl w.heap.size w)
  have HL := Lib.hid (hr)
  clear hr
  go_enter Tryz.func4, Tryz.ntmps4
  have HC := Lib.hid (lossFact_any w HTB.out)
  go_wp2_with fail
  refine HC.out.mono ?_
  rintro e w1 ⟨rfl, hb⟩
  clear HC
  replace HB := Lib.hid (HB.out.trans (hb.mono HB.out.size))
  replace HL := Lib.hid (HL.out.below hb)
  clear hb
  obtain ⟨t, te, ht⟩ : ∃ a b, tanT (SL r) (tx1 l) = (a, b) := ⟨_, _, rfl⟩
  obtain ⟨cs, ce, hc⟩ : ∃ a b, choT (SL r) (tx1 l) = (a, b) := ⟨_, _, rfl⟩
  have HT := Lib.hid ht
  have HCH := Lib.hid hc
  clear ht hc
  have HC := Lib.hid (tangentsT_any r l n A c w1 sr HL.out HS.out (tab_below HTB.out HB.out))
  go_wp2_with fail
  refine HC.out.mono ?_
  rintro e w2 h
  clear HC
  obtain ⟨At, kt, rfl, hm, hb⟩ := h.known HT.out
  clear h
  replace HB := Lib.hid (HB.out.trans (hb.mono HB.out.size))
  replace HL := Lib.hid (HL.out.below hb)
  clear hb
  have MT := Lib.hid (hm)
  clear hm
  have HC := Lib.hid (chordsT_any r l n A c w2 sr HL.out HS.out (tab_below HTB.out HB.out))
  go_wp2_with fail
  refine HC.out.mono ?_
  rintro e w3 h
  clear HC
  obtain ⟨Ac, kc, rfl, hm, hb⟩ := h.known HCH.out
  clear h
  replace HB := Lib.hid (HB.out.trans (hb.mono HB.out.size))
  replace HL := Lib.hid (HL.out.below hb)
  replace MT := Lib.hid (MT.out.below hb)
  clear hb
  have MC := Lib.hid (hm)
  clear hm
  obtain ⟨nt, hnt⟩ : ∃ m, t.length = m := ⟨_, rfl⟩
  obtain ⟨nc, hnc⟩ : ∃ m, cs.length = m := ⟨_, rfl⟩
  rw [hnt] at MT ⊢
  rw [hnc] at MC ⊢
  have HNT := Lib.hid hnt
  have HNC := Lib.hid hnc
  clear hnt hnc
  by_cases hk0 : lchk (SL r) (tx1 l) = 0
  · have hn : n ≤ 16 := by
      have h := (lchk_ok hk0).few
      rw [HLN.out] at h; exact h
    have HK := Lib.hid hk0
    have HLAW := Lib.hid (show lhS (l ++ [r, f]) = false → te = 0 ∧ ce = 0 from fun h => by
      obtain ⟨q1, q2, q3⟩ := lh_false h
      obtain ⟨t2, c2, X2, h3, h4, _⟩ := pieces_law hk0 (rchk_48) q1 (show [48].length ≤ 100 by decide) q3
      have e1 := HT.out
      have e2 := HCH.out
      rw [h3] at e1
      rw [h4] at e2
      injection e1 with _ e1
      injection e2 with _ e2
      exact ⟨e1.symm, e2.symm⟩)
    have HER := Lib.hid (pieces_err.2 hk0)
    clear hk0
    by_cases h1 : te = 0
    · subst h1
      by_cases h2 : ce = 0
      · subst h2
        have HC := Lib.hid (rchk_any f w3 sf (tab_below HTB.out HB.out))
        go_wp2_with fail
        refine HC.out.mono ?_
        rintro e w4 ⟨rfl, hb⟩
        clear HC
        replace HB := Lib.hid (HB.out.trans (hb.mono HB.out.size))
        replace HL := Lib.hid (HL.out.below hb)
        replace MT := Lib.hid (MT.out.below hb)
        replace MC := Lib.hid (MC.out.below hb)
        clear hb
        by_cases h3 : rchk (SL f) = 0
        · rw [h3]
          have H3 := Lib.hid h3
          clear h3
          have HC := Lib.hid (lengthy_any r f l n A c w4 HL.out (by omega))
          go_wp2_with fail
          refine HC.out.mono ?_
          rintro e w5 ⟨rfl, hb⟩
          clear HC
          replace HB := Lib.hid (HB.out.trans (hb.mono HB.out.size))
          replace HL := Lib.hid (HL.out.below hb)
          replace MT := Lib.hid (MT.out.below hb)
          replace MC := Lib.hid (MC.out.below hb)
          clear hb
          cases hlg : lhS (l ++ [r, f]) with
          | true =>
            go_wp2
            go_ret
            exact ⟨rfl, HB.out⟩
          | false =>
            obtain ⟨q1, q2, q3⟩ := lh_false hlg
            obtain ⟨t2, c2, X, e1, e2, e3, e4, e5, e6, e7⟩ := pieces_law HK.out H3.out q1 q2 q3
            rw [HT.out] at e1
            rw [HCH.out] at e2
            injection e1 with e1 _
            injection e2 with e2 _
            subst e1 e2
            rw [HNT.out, HLN.out] at e4
            rw [HNC.out, HLN.out] at e5
            subst e4 e5
            have h2n : 2 ≤ nt := by
              have h := (lchk_ok HK.out).two
              rw [HLN.out] at h; exact h
            have E3 := Lib.hid e3
            have E7 := Lib.hid e7
            have SX := Lib.hid (show (⟨X.toArray⟩ : ByteArray).size ≤ 9223372036854775807 by show (List.toArray _).size ≤ _; rw [List.size_toArray]; omega)
            clear hlg q1 q2 q3 e3 e6 e7 HER HLAW
            have tcc : ((((nt - 1 : Nat) : Int)) != (nt : Int) - 1) = false := by
              have : ((nt - 1 : Nat) : Int) = (nt : Int) - 1 := by omega
              rw [this]; simp
            have HC := Lib.hid (exact_any r f w5 sr sf (tab_below HTB.out HB.out))
            go_wp2_with fail
            refine HC.out.mono ?_
            rintro e w6 h
            clear HC
            obtain ⟨rfl, hb⟩ := h.known E3.out
            clear h
            replace HB := Lib.hid (HB.out.trans (hb.mono HB.out.size))
            replace HL := Lib.hid (HL.out.below hb)
            replace MT := Lib.hid (MT.out.below hb)
            replace MC := Lib.hid (MC.out.below hb)
            clear hb
            clear tcc
            go_wp2
            have HBW := Lib.hid HB.out
            have HB0 := Lib.hid (Below.refl w6.heap.size w6)
            go_loopg [104] (nt - 0) (fun mm v wr => ∃ k : Nat, mm = nt - k ∧ v = I k ∧ k ≤ nt ∧ Hid (Below w6.heap.size w6 wr))
            case atStart => exact ⟨0, rfl, rfl, by omega, HB0⟩
            case round =>
              clear HB0 HB
              obtain ⟨k, rfl, rfl, hk, HB0⟩ := hrel
              obtain ⟨wa, rfl⟩ : ∃ wa : World, wa = wr := ⟨_, rfl⟩
              have HB := Lib.hid (HBW.out.trans (HB0.out.mono HBW.out.size))
              by_cases hlt : k < nt
              · obtain ⟨x, hx⟩ : ∃ x, l[k]? = some x := ⟨_, List.getElem?_eq_getElem (by rw [HLB.out]; exact hlt)⟩
                have hxt : (tx1 l)[k]? = some (SL x) := by rw [tx1, List.getElem?_map, hx]; rfl
                obtain ⟨⟨a, b, Y, Z, d, p1, p2, p3, p4, p5, p6, la, lb, lY, lZ, p7, p8⟩⟩ := E7.out k (SL x) hxt
                have HSX := Lib.hid (HS.out x (List.mem_of_getElem? hx))
                obtain ⟨bl, ol, u, rfl, _, hu, hcl⟩ := (HL.out.below HB0.out).at1 (k := k) hlt
                obtain rfl : u = Sv x := by rw [List.getElem?_map, hx] at hu; simpa using hu.symm
                obtain ⟨bt, ot, rfl, ht0, ht1, _, htl⟩ := (MT.out.below HB0.out).at_ p1
                have SY := Lib.hid (show (⟨Y.toArray⟩ : ByteArray).size ≤ 9223372036854775807 by show (List.toArray _).size ≤ _; rw [List.size_toArray]; omega)
                have SZ := Lib.hid (show (⟨Z.toArray⟩ : ByteArray).size ≤ 9223372036854775807 by show (List.toArray _).size ≤ _; rw [List.size_toArray]; omega)
                have dd : decide (0 < d) = false := decide_eq_false (by omega)
                have P2 := Lib.hid p2
                have P3 := Lib.hid p3
                have P4 := Lib.hid p4
                have P5 := Lib.hid p5
                have P7 := Lib.hid p7
                have P8 := Lib.hid p8
                have LA := Lib.hid (And.intro la lb)
                have DD := Lib.hid dd
                have HLN2 := Lib.hid (show (tx1 l).length = nt from HLN.out)
                clear hu hx hxt p1 p2 p3 p4 p5 p6 p7 p8 la lb lY lZ dd
                have CT0 := Lib.hid ht0
                have CT1 := Lib.hid ht1
                clear ht0 ht1 htl
                have HC := Lib.hid (exact_any r x wa sr HSX.out (tab_below HTB.out HB.out))
                go_wp2_with fail
                refine HC.out.mono ?_
                rintro e w7 h
                clear HC
                obtain ⟨rfl, hb⟩ := h.known P2.out
                clear h
                replace HB := Lib.hid (HB.out.trans (hb.mono HB.out.size))
                replace HB0 := Lib.hid (HB0.out.trans (hb.mono HB0.out.size))
                replace CT0 := Lib.hid (cell_below CT0.out hb)
                replace CT1 := Lib.hid (cell_below CT1.out hb)
                clear hb
                clear hcl
                have HC := Lib.hid (at_known w7 P3.out LA.out.1 LA.out.2 HSX.out (tab_below HTB.out HB.out))
                have ct0 := CT0.out
                have ct1 := CT1.out
                go_wp2_with fail
                refine HC.out.mono ?_
                rintro e w8 ⟨rfl, hb⟩
                clear HC ct0 ct1
                replace HB := Lib.hid (HB.out.trans (hb.mono HB.out.size))
                replace HB0 := Lib.hid (HB0.out.trans (hb.mono HB0.out.size))
                replace CT0 := Lib.hid (cell_below CT0.out hb)
                replace CT1 := Lib.hid (cell_below CT1.out hb)
                clear hb
                have HC := Lib.hid (at_known w8 P4.out LA.out.1 LA.out.2 sf (tab_below HTB.out HB.out))
                have ct0 := CT0.out
                have ct1 := CT1.out
                go_wp2_with fail
                refine HC.out.mono ?_
                rintro e w9 ⟨rfl, hb⟩
                clear HC ct0 ct1
                replace HB := Lib.hid (HB.out.trans (hb.mono HB.out.size))
                replace HB0 := Lib.hid (HB0.out.trans (hb.mono HB0.out.size))
                replace CT0 := Lib.hid (cell_below CT0.out hb)
                replace CT1 := Lib.hid (cell_below CT1.out hb)
                clear hb
                clear CT0 CT1
                have HC := Lib.hid (ratCmp_any ⟨Z.toArray⟩ ⟨X.toArray⟩ w9 SZ.out SX.out (tab_below HTB.out HB.out))
                go_wp2_with fail
                refine HC.out.mono ?_
                rintro e w10 h
                clear HC
                obtain ⟨rfl, hb⟩ := h.known P5.out
                clear h
                replace HB := Lib.hid (HB.out.trans (hb.mono HB.out.size))
                replace HB0 := Lib.hid (HB0.out.trans (hb.mono HB0.out.size))
                clear hb
                have HX := Lib.hid (fine_any [0, 0, 0] 3 (some ⟨w10.heap.size, 0, none⟩) 3 (w10.alloc (.cells #[I 0, I 0, I 0] 25)) _ (reads_lits w10 _ [I 0, I 0, I 0]) (by omega))
                rw [show fineB [0, 0, 0] = true from rfl] at HX
                have hb := below_new w10 (.cells #[I 0, I 0, I 0] 25)
                replace HB := Lib.hid (HB.out.trans (hb.mono HB.out.size))
                replace HB0 := Lib.hid (HB0.out.trans (hb.mono HB0.out.size))
                clear hb
                go_wp2_with fail
                refine HX.out.mono ?_
                rintro e w11 ⟨rfl, rfl⟩
                clear HX
                generalize w10.alloc (.cells #[I 0, I 0, I 0] 25) = w12 at *
                have dd := DD.out
                have hwk : IntKind.i64.wrap ((k : Int) - 1) = (k : Int) - 1 := IntWalk.i64_in _ (by omega)
                go_wp2
                clear dd hwk
                have i0 : ∀ w, (Instr.index 44 (.agg #[I ((k : Int) - 1), I k]) (.int .i64 0)).run Tryz.prog w = .ok (I ((k : Int) - 1)) w := fun _ => by kernel_rfl
                have i1 : ∀ w, (Instr.index 44 (.agg #[I ((k : Int) - 1), I k]) (.int .i64 1)).run Tryz.prog w = .ok (I k) w := fun _ => by kernel_rfl
                go_loopg [166] (2 - 0) (fun mm v wr => ∃ i : Nat, mm = 2 - i ∧ v = I i ∧ i ≤ 2 ∧ Hid (Below w6.heap.size w6 wr))
                case atStart => exact ⟨0, rfl, rfl, by omega, HB0⟩
                case round =>
                  clear HB0 HB
                  obtain ⟨i, rfl, rfl, hi, HB0⟩ := hrel
                  obtain ⟨wb, rfl⟩ : ∃ wb : World, wb = wr := ⟨_, rfl⟩
                  have HB := Lib.hid (HBW.out.trans (HB0.out.mono HBW.out.size))
                  match i, hi with
                  | 0, _ =>
                    by_cases hj : 1 ≤ k
                    · obtain ⟨a2, b2, p1, p2, la2, lb2⟩ := P7.out hj
                      obtain ⟨bc, oc, rfl, hc0, hc1, hcn, hcl⟩ := (MC.out.below HB0.out).at_ p1
                      have HC := Lib.hid (at_known wb p2 la2 lb2 HSX.out (tab_below HTB.out HB.out))
                      clear p1 p2 la2 lb2
                      have tj : decide ((k : Int) - 1 < 0) = false := decide_eq_false (by omega)
                      have tj2 : decide ((nt - 1 : Nat) ≤ (k : Int) - 1) = false := decide_eq_false (by omega)
                      have tj3 : ((k : Int) - 1).toNat = k - 1 := by omega
                      have tj4 : ¬ ((k : Int) < 1) := by omega
                      go_wp2_with fail
                      refine HC.out.mono ?_
                      rintro e w13 ⟨rfl, hb⟩
                      clear HC hc0 hc1 hcn hcl
                      replace HB := Lib.hid (HB.out.trans (hb.mono HB.out.size))
                      replace HB0 := Lib.hid (HB0.out.trans (hb.mono HB0.out.size))
                      clear hb
                      go_wp2
                      go_roundg (2 - (0 + 1))
                      case measure => omega
                      case rel => exact ⟨0 + 1, rfl, rfl, by omega, HB0⟩
                    · skip
                      have tj : decide ((k : Int) - 1 < 0) = true := decide_eq_true (by omega)
                      have tj4 : (k : Int) < 1 := by omega
                      go_wp2
                      go_roundg (2 - (0 + 1))
                      case measure => omega
                      case rel => exact ⟨0 + 1, rfl, rfl, by omega, HB0⟩
                  | 1, _ =>
                    by_cases hj : k + 1 < nt
                    · obtain ⟨a2, b2, p1, p2, la2, lb2⟩ := P8.out (by rw [HLN2.out]; omega)
                      obtain ⟨bc, oc, rfl, hc0, hc1, hcn, hcl⟩ := (MC.out.below HB0.out).at_ p1
                      have HC := Lib.hid (at_known wb p2 la2 lb2 HSX.out (tab_below HTB.out HB.out))
                      clear p1 p2 la2 lb2
                      have tj : decide ((k : Int) < 0) = false := decide_eq_false (by omega)
                      have tj2 : decide (nt - 1 ≤ k) = false := decide_eq_false (by omega)
                      go_wp2_with fail
                      refine HC.out.mono ?_
                      rintro e w13 ⟨rfl, hb⟩
                      clear HC hc0 hc1 hcn hcl
                      replace HB := Lib.hid (HB.out.trans (hb.mono HB.out.size))
                      replace HB0 := Lib.hid (HB0.out.trans (hb.mono HB0.out.size))
                      clear hb
                      go_wp2
                      go_roundg (2 - (1 + 1))
                      case measure => omega
                      case rel => exact ⟨1 + 1, rfl, rfl, by omega, HB0⟩
                    · skip
                      have tj : decide ((k : Int) < 0) = false := decide_eq_false (by omega)
                      have tj2 : decide (nt - 1 ≤ k) = true := decide_eq_true (by omega)
                      go_wp2
                      go_roundg (2 - (1 + 1))
                      case measure => omega
                      case rel => exact ⟨1 + 1, rfl, rfl, by omega, HB0⟩
                  | 2, _ =>
                    go_wp2
                    go_roundg (nt - (k + 1))
                    case measure => omega
                    case rel => exact ⟨k + 1, rfl, by go_num, by omega, HB0⟩
              · have hkn : k = nt := by omega
                subst hkn
                go_wp2
                go_ret
                exact ⟨rfl, HB.out⟩
        · have tf : (rchk (SL f) != 0) = true := bne_iff_ne.2 h3
          generalize rchk (SL f) = fe at *
          clear h3
          go_wp2
          go_ret
          exact ⟨rfl, HB.out⟩
      · rcases HER.out.2 with h4 | h4
        · rw [HCH.out] at h4; exact absurd h4 h2
        rw [HCH.out] at h4
        injection h4 with h4 h5
        subst h4 h5
        clear h2
        cases hlg : lhS (l ++ [r, f]) with
        | false => exact absurd (HLAW.out hlg).2 (by decide)
        | true =>
          have HC := Lib.hid (lengthy_any r f l n A c w3 HL.out (by omega))
          go_wp2_with fail
          refine HC.out.mono ?_
          rintro e w4 ⟨rfl, hb⟩
          clear HC
          replace HB := Lib.hid (HB.out.trans (hb.mono HB.out.size))
          replace HL := Lib.hid (HL.out.below hb)
          replace MT := Lib.hid (MT.out.below hb)
          replace MC := Lib.hid (MC.out.below hb)
          clear hb
          rw [hlg]
          clear hlg
          go_wp2
          go_ret
          exact ⟨rfl, HB.out⟩
    · rcases HER.out.1 with h4 | h4
      · rw [HT.out] at h4; exact absurd h4 h1
      rw [HT.out] at h4
      injection h4 with h4 h5
      subst h4 h5
      clear h1
      have hnt : nt = 0 := HNT.out.symm
      subst hnt
      rcases HER.out.2 with h4 | h4
      · rw [HCH.out] at h4
        have h4 : ce = 0 := h4
        subst h4
        cases hlg : lhS (l ++ [r, f]) with
        | false => exact absurd (HLAW.out hlg).1 (by decide)
        | true =>
          have HC := Lib.hid (lengthy_any r f l n A c w3 HL.out (by omega))
          go_wp2_with fail
          refine HC.out.mono ?_
          rintro e w4 ⟨rfl, hb⟩
          clear HC
          replace HB := Lib.hid (HB.out.trans (hb.mono HB.out.size))
          replace HL := Lib.hid (HL.out.below hb)
          replace MT := Lib.hid (MT.out.below hb)
          replace MC := Lib.hid (MC.out.below hb)
          clear hb
          rw [hlg]
          clear hlg
          go_wp2
          go_ret
          exact ⟨rfl, HB.out⟩
      · rw [HCH.out] at h4
        injection h4 with h4 h5
        subst h4 h5
        have hnc : nc = 0 := HNC.out.symm
        subst hnc
        go_wp2
        go_ret
        exact ⟨rfl, HB.out⟩
  · obtain ⟨e1, e2⟩ := pieces_err.1 hk0
    rw [HT.out] at e1
    rw [HCH.out] at e2
    injection e1 with e1 e3
    injection e2 with e2 e4
    subst e1 e2
    have hnt : nt = 0 := HNT.out.symm
    subst hnt
    have hnc : nc = 0 := HNC.out.symm
    subst hnc
    rw [← e3] at e4 hk0
    have tn : (te != 0) = true := bne_iff_ne.2 hk0
    have tz : (te == 0) = false := beq_eq_false_iff_ne.2 hk0
    clear hk0 e3
    subst e4
    go_wp2
    go_ret
    exact ⟨rfl, HB.out⟩
end Go.Proofs.YtmnedfkinepnfaaGreatDoor
namespace Go.Proofs.YtmnedfkinepnfaaGreatDoor
open Go.ChangeShapes Go.WideShapes Go.ChangeAt Go.RowKit Go.ChangeMaps

theorem lossPieces_door (os : Os) (args : Array Value) : laidMetH Tryz.prog Rows.lossPiecesRow.laid ((World.doorLaid Tryz.prog 62 os).forCall (fun _ _ => 0) ⟨#[], args, []⟩).memory :=
  laidMetH_of_parts3 (fuel := 8) (laidMet_of_run' 8 (by kernel_rfl) (by kernel_rfl)) (by kernel_rfl) (by kernel_rfl)
set_option linter.unusedVariables false in
set_option maxRecDepth 100000 in
theorem lossPieces_lifted (os : Os) (started : os.Started) (H : Type) (enc : TypeId × Value → H) :
    ReturnsInHanded {} Tryz.checked os 4 .any (fun w args => (Rows.lossPiecesSpec.pre enc Tryz.prog Tryz.f4 [] false w args ∧ laidMetH Tryz.prog Rows.lossPiecesRow.laid w) ∧ sizedMet enc Tryz.prog Tryz.f4 (OpenSpec.ofChange Rows.lossPiecesSpec) false w args)
      (Rows.lossPiecesSpec.post enc Tryz.prog Tryz.f4 false true false false) := by
  refine returnsInHanded_of_change_and (C := Tryz.checked) (X := fun w _ => laidMetH Tryz.prog Rows.lossPiecesRow.laid w) (fun _ _ _ hh h => h.of_heap hh) own started (by kernel_rfl) Tryz.func4
    (ChangeSpec.witness_shaped (enc := enc) (C := Tryz.checked) (os := os) (X := fun w _ => laidMetH Tryz.prog Rows.lossPiecesRow.laid w) false (World.doorLaid Tryz.prog 62 os) #[.string ⟨#[]⟩, .slice none 0 0, .string ⟨#[]⟩] 8 rfl (World.shaped_of_RefB (by kernel_rfl) (by kernel_rfl)) (by kernel_rfl) (by kernel_rfl) (by kernel_rfl) (lossPieces_door os _)) ?_
  intro W base args ds gs before hval0 hW _ _ hL _
  have hval : ∀ (j : Nat) t v, Tryz.f4.params[j]? = some t → args[j]? = some v → Value.okWide Tryz.prog W .any base t v := hval0
  have hW' := hW
  obtain ⟨p, q, hA0, hV, rfl, hfz, hnd⟩ := hW
  have hA : DataW.TrodAll enc Tryz.prog W 0 (fun _ => true) true Tryz.f4.params.toList args.toList ds p := hA0
  rw [Tryz.params4] at hA hval
  obtain ⟨v0, vs0, d0, ds0, p0, q0, hargs, rfl, rfl, h0, r0⟩ := trodAll_cons hA
  obtain ⟨v1, vs1, d1, ds1, p1, q1, rfl, rfl, rfl, h1, r1⟩ := trodAll_cons r0
  obtain ⟨v2, vs2, d2, ds2, p2, q2, rfl, rfl, rfl, h2, r2⟩ := trodAll_cons r1
  obtain ⟨rfl, rfl, rfl⟩ := trodAll_nil r2
  obtain rfl : args = #[v0, v1, v2] := by cases args; simp_all
  obtain ⟨rfl, rfl⟩ := trodVars_none hV
  obtain ⟨s0, rfl, rfl, rfl, ws0⟩ := open_string Tryz.underlying22 (hval 0 22 v0 rfl rfl) h0
  have k1 := h1
  have lt1 : ∀ x ∈ p1, x.block < W.heap.size := by obtain ⟨m, hm⟩ := k1; exact DataW.trod_lt m _ _ _ hm
  obtain ⟨a1, len1, cap1, rfl⟩ := okWide_slice Tryz.underlying23 (hval 1 23 v1 rfl rfl)
  obtain ⟨fu1, ho1⟩ := h1
  obtain ⟨m1, A1, c1, e1, hm1, hs1, hl1⟩ := open_vec Tryz.underlying23 (u := .slice a1 len1 cap1) ho1
  injection e1 with ea1 eb1 ec1
  subst ea1 eb1 ec1
  obtain ⟨s2, rfl, rfl, rfl, ws2⟩ := open_string Tryz.underlying22 (hval 2 22 v2 rfl rfl) h2
  clear hA0 hval0
  refine (lossPieces_any s0 m1 _ _ _ s2 W (size_of_wf ws0) hm1 hs1 hl1 (size_of_wf ws2) (tab_of_laid hL)).mono fun e W' ⟨he, bel⟩ => ?_
  subst he
  exact ⟨_, rfl, _, _, _, [], _, [], hW', trodAll_mk1 (shut_bool Tryz.underlying4 _), (trodAll_cons_mk (shut_string Tryz.underlying22 ws0) (trodAll_cons_mk (Below.trod laidOut (by kernel_rfl) (of_decide_eq_true (by kernel_rfl)) k1 bel lt1) (trodAll_cons_mk (shut_string Tryz.underlying22 ws2) trodAll_mk0))), rfl, bel.frame _, fun h => by cases h⟩

theorem lossPieces_said : Rows.LossPiecesSaid :=
  OpenClaim.holds_of_wide 4 Tryz.f4 rfl rfl rfl rfl rfl rfl rfl ⟨rfl, rfl, rfl, rfl, rfl⟩ rfl rfl rfl rfl rfl (by kernel_rfl) Tryz.func4 (by kernel_rfl)
    (of_decide_eq_true (by kernel_rfl)) (by unfold Func.isWrapper; first | (rw [if_pos (by decide +kernel)]; kernel_rfl) | (rw [if_neg (by decide +kernel)]; exact ⟨rfl, rfl⟩))
    (fun os started H enc _ => lossPieces_lifted os started H enc)
theorem lossPieces_plain (f : FuncId) (fn : Func) (hf : Tryz.pinned.checked.prog.funcNamed "gridhall/gridhallkeep1.LossPieces" = some f) (hfn : Tryz.pinned.checked.prog.funcs[f]? = some fn) :
    true = Tryz.pinned.checked.prog.looks [] ∧ ∀ (j : Nat) t, fn.params[j]? = some t → Tryz.pinned.checked.prog.wantsStandIn t = false := by
  obtain rfl : f = 4 := Option.some.inj ((show Tryz.prog.funcNamed "gridhall/gridhallkeep1.LossPieces" = some 4 by kernel_rfl).symm.trans hf) |>.symm
  obtain rfl : fn = Tryz.f4 := (Option.some.inj (Tryz.func4.symm.trans hfn)).symm
  refine ⟨by kernel_rfl, fun j t ht => ?_⟩
  rw [Tryz.params4] at ht
  have hm : t ∈ [23, 22] := by
    have := Array.mem_of_getElem? ht
    clear ht hf hfn
    revert this
    revert t
    simp
  have hall : ([23, 22].all fun u => !Tryz.prog.wantsStandIn u) = true := by kernel_rfl
  exact (show Tryz.prog.wantsStandIn t = false by simpa using List.all_eq_true.1 hall t hm)
theorem lossPieces_card : Rows.LossPiecesCardSaid :=
  Claim7.holds_tied_plain_at .later [] _ _ _ _ lossPieces_said (fun _ h => by cases h) (by kernel_rfl) (fun _ h => by cases h) lossPieces_row_tie rfl ⟨rfl, rfl⟩ (by kernel_rfl) rfl lossPieces_plain (by kernel_rfl)
#print axioms lossPieces_card
end Go.Proofs.YtmnedfkinepnfaaGreatDoor
