/- lossFact. The walk of LossBounds. -/
import Derived.Test.YtmnedfkinepnfaaGreatDoorLJE
import Derived.Test.YtmnedfkinepnfaaGreatDoorLJF
import Derived.Test.YtmnedfkinepnfaaGreatDoorJY
namespace Go.Proofs.YtmnedfkinepnfaaGreatDoor
open Go.RowKit

/-- pieces as strings -/
def mkP (t : List (List UInt8 × List UInt8)) : List (ByteArray × ByteArray) := t.map fun p => (⟨p.1.toArray⟩, ⟨p.2.toArray⟩)
def LPv (w : World) (A : Option Addr) (n : Nat) (t : List (ByteArray × ByteArray)) : Prop := Reads w w.heap.size 2 A n (lpV t)
theorem LPv.below {w w' : World} {A : Option Addr} {n : Nat} {t : List (ByteArray × ByteArray)} (h : LPv w A n t) (hb : Below w.heap.size w w') : LPv w' A n t := (Reads.below h hb).more hb.size
theorem lpV_mk (t : List (List UInt8 × List UInt8)) : (mkS (t.flatMap fun p => [p.1, p.2])).map Sv = lpV (mkP t) := by
  induction t with
  | nil => rfl
  | cons p t ih =>
    simp only [List.flatMap_cons, mkS, mkP, lpV, List.map_append, List.map_cons, List.map_nil] at ih ⊢
    rw [ih]
theorem RetLP.known {w : World} {r : List (List UInt8 × List UInt8) × Int} {t : List (List UInt8 × List UInt8)} {c : Int} {e : Ending} {w' : World} (h : RetLP w r e w') (hr : r = (t, c)) : ∃ A k, e = .returned (.tuple #[.slice A t.length k, I c]) ∧ LPv w' A t.length (mkP t) ∧ Below w.heap.size w w' := by
  obtain ⟨v, rfl, h1, hb⟩ := h
  rw [hr] at h1 ⊢
  obtain ⟨A, k, rfl⟩ := h1.val
  have h2 := h1.reads
  rw [lpV_mk] at h2
  exact ⟨A, k, rfl, h2, hb⟩
theorem RetTx.known {w : World} {r : List UInt8 × Int} {t : List UInt8} {c : Int} {e : Ending} {w' : World} (h : RetTx w r e w') (hr : r = (t, c)) : e = .returned (.tuple #[.string ⟨t.toArray⟩, I c]) ∧ Below w.heap.size w w' := by
  obtain ⟨rfl, hb⟩ := h
  rw [hr]; exact ⟨rfl, hb⟩
theorem RetB.known {w : World} {r : List UInt8 × List UInt8 × Int} {t u : List UInt8} {c : Int} {e : Ending} {w' : World} (h : RetB w r e w') (hr : r = (t, u, c)) : e = .returned (.tuple #[.string ⟨t.toArray⟩, .string ⟨u.toArray⟩, I c]) ∧ Below w.heap.size w w' := by
  obtain ⟨rfl, hb⟩ := h
  rw [hr]; exact ⟨rfl, hb⟩
theorem lf_exact : exactT (SL ⟨#[49, 47, 50]⟩) (SL ⟨#[52]⟩) = ([56], 0) := by decide +kernel
theorem lf_total : ratTx (sm 2 (totF (valsV (tx1 [⟨#[49]⟩, ⟨#[50]⟩])) (valsV (tx1 [⟨#[51]⟩, ⟨#[49]⟩])))) = ([49, 49], 0) := by decide +kernel
theorem lf_tan : tanT (SL ⟨#[49]⟩) (tx1 [⟨#[48]⟩, ⟨#[50]⟩]) = ([([48], [48]), ([45, 52], [52])], 0) := by decide +kernel
theorem lf_cho : choT (SL ⟨#[49]⟩) (tx1 [⟨#[48]⟩, ⟨#[50]⟩]) = ([([48], [50])], 0) := by decide +kernel
theorem lf_bounds : boundsT (SL ⟨#[49]⟩) (tx1 [⟨#[48]⟩, ⟨#[50]⟩]) (SL ⟨#[49]⟩) = ([48], [50], 0) := by decide +kernel
theorem lf_gap : gapT (SL ⟨#[49]⟩) (tx1 [⟨#[48]⟩, ⟨#[50]⟩]) = ([49], 0) := by decide +kernel
theorem lf_pts : ptsE (tx1 [⟨#[48]⟩]) = 8 := by decide +kernel
theorem lf_va : chkV (tx1 [⟨#[49]⟩, ⟨#[50]⟩]) = 0 := by decide +kernel
theorem lf_vb : chkV (tx1 [⟨#[51]⟩, ⟨#[49]⟩]) = 0 := by decide +kernel
theorem lf_res : ∀ s ∈ ([⟨#[49]⟩, ⟨#[50]⟩] : List ByteArray), resE (SL s) = 0 := by
  intro s hs
  simp only [List.mem_cons, List.not_mem_nil, or_false] at hs
  rcases hs with rfl | rfl <;> decide +kernel
theorem lpv_lits (w : World) (t : TypeId) (l : List (ByteArray × ByteArray)) (cs : Array Value) (hc : cs = (lpV l).toArray) (_hl : 0 < l.length) : LPv (w.alloc (.cells cs t)) (some ⟨w.heap.size, 0, none⟩) l.length l := by
  refine ⟨lpV_len l, fun _ => ⟨w.heap.size, 0, rfl, by rw [World.size_alloc]; omega, fun j x hx => ?_⟩⟩
  rw [(Blk.new w t cs).cell, hc, Nat.zero_add]
  simpa using hx
set_option maxRecDepth 100000 in
set_option maxHeartbeats 8000000 in
theorem lossFact_any (w : World) (htab : Tab w) : Calls Tryz.prog 14 #[] w fun e w' => e = .returned (.bool true) ∧ Below w.heap.size w w' := by
  have HTB := Lib.hid htab
  clear htab
  have HB := Lib.hid (Below.refl w.heap.size w)
  go_enter Tryz.func14, Tryz.ntmps14
  have hv0 := sv2 w strT ⟨#[48]⟩ ⟨#[50]⟩
  have hb := below_new w (.cells #[.string ⟨#[48]⟩, .string ⟨#[50]⟩] strT)
  replace HB := Lib.hid (HB.out.trans (hb.mono HB.out.size))
  clear hb
  have HL := Lib.hid (hv0)
  clear hv0
  unfold strT at *
  have HC := Lib.hid (exact_any ⟨#[49, 47, 50]⟩ ⟨#[52]⟩ _ (by decide) (by decide) (tab_below HTB.out HB.out))
  go_wp2_with fail
  refine HC.out.mono ?_
  rintro e w1 h
  clear HC
  obtain ⟨rfl, hb⟩ := h.known lf_exact
  clear h
  replace HB := Lib.hid (HB.out.trans (hb.mono HB.out.size))
  replace HL := Lib.hid (HL.out.below hb)
  clear hb
  have ha := sv2 w1 22 ⟨#[49]⟩ ⟨#[50]⟩
  have hb := below_new w1 (.cells #[.string ⟨#[49]⟩, .string ⟨#[50]⟩] 22)
  replace HB := Lib.hid (HB.out.trans (hb.mono HB.out.size))
  replace HL := Lib.hid (HL.out.below hb)
  clear hb
  have hc := sv2 (w1.alloc (.cells #[.string ⟨#[49]⟩, .string ⟨#[50]⟩] 22)) 22 ⟨#[51]⟩ ⟨#[49]⟩
  have hb := below_new (w1.alloc (.cells #[.string ⟨#[49]⟩, .string ⟨#[50]⟩] 22)) (.cells #[.string ⟨#[51]⟩, .string ⟨#[49]⟩] 22)
  replace ha := ha.below hb
  replace HB := Lib.hid (HB.out.trans (hb.mono HB.out.size))
  replace HL := Lib.hid (HL.out.below hb)
  clear hb
  simp only [World.size_alloc] at ha hc
  have HC := Lib.hid (total_good [⟨#[49]⟩, ⟨#[50]⟩] [⟨#[51]⟩, ⟨#[49]⟩] 2 _ _ 2 2 _ ha hc (sh1_of (by decide)) (sh1_of (by decide)) (tab_below HTB.out HB.out) lf_va lf_vb lf_res)
  rw [lf_total] at HC
  clear ha hc
  go_wp2_with fail
  refine HC.out.mono ?_
  rintro e w2 ⟨rfl, hb⟩
  clear HC
  replace HB := Lib.hid (HB.out.trans (hb.mono HB.out.size))
  replace HL := Lib.hid (HL.out.below hb)
  clear hb
  have HC := Lib.hid (tangentsT_any ⟨#[49]⟩ [⟨#[48]⟩, ⟨#[50]⟩] 2 (some ⟨w.heap.size, 0, none⟩) 2 w2 (by decide) HL.out (sh1_of (by decide)) (tab_below HTB.out HB.out))
  go_wp2_with fail
  refine HC.out.mono ?_
  rintro e w3 h
  clear HC
  obtain ⟨A1, k1, rfl, hm, hb⟩ := h.known lf_tan
  clear h
  replace HB := Lib.hid (HB.out.trans (hb.mono HB.out.size))
  replace HL := Lib.hid (HL.out.below hb)
  clear hb
  have HT := Lib.hid (hm)
  clear hm
  have HC := Lib.hid (chordsT_any ⟨#[49]⟩ [⟨#[48]⟩, ⟨#[50]⟩] 2 (some ⟨w.heap.size, 0, none⟩) 2 w3 (by decide) HL.out (sh1_of (by decide)) (tab_below HTB.out HB.out))
  go_wp2_with fail
  refine HC.out.mono ?_
  rintro e w4 h
  clear HC
  obtain ⟨A2, k2, rfl, hm, hb⟩ := h.known lf_cho
  clear h
  replace HB := Lib.hid (HB.out.trans (hb.mono HB.out.size))
  replace HL := Lib.hid (HL.out.below hb)
  replace HT := Lib.hid (HT.out.below hb)
  clear hb
  have HCh := Lib.hid (hm)
  clear hm
  have HC := Lib.hid (bounds_any ⟨#[49]⟩ ⟨#[49]⟩ [⟨#[48]⟩, ⟨#[50]⟩] 2 (some ⟨w.heap.size, 0, none⟩) 2 w4 (by decide) (by decide) HL.out (sh1_of (by decide)) (tab_below HTB.out HB.out))
  go_wp2_with fail
  refine HC.out.mono ?_
  rintro e w5 h
  clear HC
  obtain ⟨rfl, hb⟩ := h.known lf_bounds
  clear h
  replace HB := Lib.hid (HB.out.trans (hb.mono HB.out.size))
  replace HL := Lib.hid (HL.out.below hb)
  replace HT := Lib.hid (HT.out.below hb)
  replace HCh := Lib.hid (HCh.out.below hb)
  clear hb
  have HC := Lib.hid (gap_any ⟨#[49]⟩ [⟨#[48]⟩, ⟨#[50]⟩] 2 (some ⟨w.heap.size, 0, none⟩) 2 w5 (by decide) HL.out (sh1_of (by decide)) (tab_below HTB.out HB.out))
  go_wp2_with fail
  refine HC.out.mono ?_
  rintro e w6 h
  clear HC
  obtain ⟨rfl, hb⟩ := h.known lf_gap
  clear h
  replace HB := Lib.hid (HB.out.trans (hb.mono HB.out.size))
  replace HL := Lib.hid (HL.out.below hb)
  replace HT := Lib.hid (HT.out.below hb)
  replace HCh := Lib.hid (HCh.out.below hb)
  clear hb
  have HX := Lib.hid (fine_any [0, 0, 0, 0, 0, 0] 6 (some ⟨w6.heap.size, 0, none⟩) 6 (w6.alloc (.cells #[I 0, I 0, I 0, I 0, I 0, I 0] 25)) _ (reads_lits w6 _ [I 0, I 0, I 0, I 0, I 0, I 0]) (by omega))
  rw [show fineB [0, 0, 0, 0, 0, 0] = true from rfl] at HX
  have hb := below_new w6 (.cells #[I 0, I 0, I 0, I 0, I 0, I 0] 25)
  replace HB := Lib.hid (HB.out.trans (hb.mono HB.out.size))
  replace HL := Lib.hid (HL.out.below hb)
  replace HT := Lib.hid (HT.out.below hb)
  replace HCh := Lib.hid (HCh.out.below hb)
  clear hb
  go_wp2_with fail
  refine HX.out.mono ?_
  rintro e w7 ⟨rfl, rfl⟩
  clear HX
  generalize w6.alloc (.cells #[I 0, I 0, I 0, I 0, I 0, I 0] 25) = w8 at *
  have hq := lpv_lits w8 43 [(⟨#[48]⟩, ⟨#[48]⟩), (⟨#[45, 52]⟩, ⟨#[52]⟩)] #[.string ⟨#[48]⟩, .string ⟨#[48]⟩, .string ⟨#[45, 52]⟩, .string ⟨#[52]⟩] rfl (by decide)
  have hb := below_new w8 (.cells #[.string ⟨#[48]⟩, .string ⟨#[48]⟩, .string ⟨#[45, 52]⟩, .string ⟨#[52]⟩] 43)
  replace HB := Lib.hid (HB.out.trans (hb.mono HB.out.size))
  replace HL := Lib.hid (HL.out.below hb)
  replace HT := Lib.hid (HT.out.below hb)
  replace HCh := Lib.hid (HCh.out.below hb)
  clear hb
  have HC := Lib.hid (lpEqual_any [(⟨#[48]⟩, ⟨#[48]⟩), (⟨#[45, 52]⟩, ⟨#[52]⟩)] [(⟨#[48]⟩, ⟨#[48]⟩), (⟨#[45, 52]⟩, ⟨#[52]⟩)] 2 2 _ _ k1 2 _ HT.out hq (by decide) (by decide))
  clear hq
  go_wp2_with fail
  refine HC.out.mono ?_
  rintro e w9 ⟨rfl, hb⟩
  clear HC
  simp only [decide_true]
  replace HB := Lib.hid (HB.out.trans (hb.mono HB.out.size))
  replace HL := Lib.hid (HL.out.below hb)
  replace HT := Lib.hid (HT.out.below hb)
  replace HCh := Lib.hid (HCh.out.below hb)
  clear hb
  clear HT
  have hq := lpv_lits w9 43 [(⟨#[48]⟩, ⟨#[50]⟩)] #[.string ⟨#[48]⟩, .string ⟨#[50]⟩] rfl (by decide)
  have hb := below_new w9 (.cells #[.string ⟨#[48]⟩, .string ⟨#[50]⟩] 43)
  replace HB := Lib.hid (HB.out.trans (hb.mono HB.out.size))
  replace HL := Lib.hid (HL.out.below hb)
  replace HCh := Lib.hid (HCh.out.below hb)
  clear hb
  have HC := Lib.hid (lpEqual_any [(⟨#[48]⟩, ⟨#[50]⟩)] [(⟨#[48]⟩, ⟨#[50]⟩)] 1 1 _ _ k2 1 _ HCh.out hq (by decide) (by decide))
  clear hq
  go_wp2_with fail
  refine HC.out.mono ?_
  rintro e w10 ⟨rfl, hb⟩
  clear HC
  simp only [decide_true]
  replace HB := Lib.hid (HB.out.trans (hb.mono HB.out.size))
  replace HL := Lib.hid (HL.out.below hb)
  replace HCh := Lib.hid (HCh.out.below hb)
  clear hb
  clear HCh
  have hp1 : Reads w10 w10.heap.size 1 (some ⟨w.heap.size, 0, none⟩) 1 ([⟨#[48]⟩].map Sv) := ⟨rfl, fun _ => by
    obtain ⟨b, o, e, hlt, hc⟩ := HL.out.2 (by decide)
    refine ⟨b, o, e, hlt, fun j x hx => hc j x ?_⟩
    match j with
    | 0 => exact hx
    | j + 1 => cases hx⟩
  have HC := Lib.hid (pts_any [⟨#[48]⟩] 1 (some ⟨w.heap.size, 0, none⟩) 2 w10 hp1 (sh1_of (by decide)) (tab_below HTB.out HB.out))
  clear hp1
  rw [lf_pts] at HC
  go_wp2_with fail
  refine HC.out.mono ?_
  rintro e w11 ⟨rfl, hb⟩
  clear HC
  replace HB := Lib.hid (HB.out.trans (hb.mono HB.out.size))
  replace HL := Lib.hid (HL.out.below hb)
  clear hb
  go_wp2
  go_ret
  exact ⟨rfl, HB.out⟩
end Go.Proofs.YtmnedfkinepnfaaGreatDoor
namespace Go.Proofs.YtmnedfkinepnfaaGreatDoor
open Go.RowKit

theorem sl_len (s : ByteArray) : (SL s).length = s.size := rfl
theorem lh_false {l : List ByteArray} {r f : ByteArray} (h : lhS (l ++ [r, f]) = false) : (SL r).length ≤ 100 ∧ (SL f).length ≤ 100 ∧ ∀ s ∈ tx1 l, s.length ≤ 100 := by
  have key : ∀ s ∈ l ++ [r, f], s.size ≤ 100 := fun s hs => by
    cases e : lhT s with
    | true => rw [lhS, List.any_eq_true.2 ⟨s, hs, e⟩] at h; cases h
    | false => have := of_decide_eq_false e; omega
  refine ⟨key r (by simp), key f (by simp), fun s hs => ?_⟩
  obtain ⟨x, hx, rfl⟩ := List.mem_map.1 hs
  exact key x (by simp [hx])
theorem bounds_chk {r f : List UInt8} {l : List (List UInt8)} (h : (boundsT r l f).2.2 = 0) : lchk r l = 0 := by
  unfold boundsT at h
  by_cases h1 : lchk r l = 0
  · exact h1
  · rw [if_pos h1] at h; exact h
theorem RetCq.known {w : World} {r : Int × Int} {a b : Int} {e : Ending} {w' : World} (h : RetCq w r e w') (hr : r = (a, b)) : e = .returned (.tuple #[I a, I b]) ∧ Below w.heap.size w w' := by
  obtain ⟨rfl, hb⟩ := h
  rw [hr]; exact ⟨rfl, hb⟩
set_option maxRecDepth 100000 in
set_option maxHeartbeats 8000000 in
theorem lossBounds_any (r : ByteArray) (l : List ByteArray) (n : Nat) (A : Option Addr) (c : Nat) (f : ByteArray) (w : World) (sr : r.size ≤ 9223372036854775807) (hr : SV w A n l) (hs : Sh1 l) (_hl : n ≤ 9223372036854775807) (sf : f.size ≤ 9223372036854775807) (htab : Tab w) :
    Calls Tryz.prog 3 #[.string r, .slice A n c, .string f] w fun e w' => e = .returned (.bool true) ∧ Below w.heap.size w w' := by
  have HTB := Lib.hid htab
  have HS := Lib.hid hs
  have HLN := Lib.hid (show (tx1 l).length = n by rw [tx1, List.length_map, hr.len])
  clear htab hs
  have HB := Lib.hid (Below.refl w.heap.size w)
  have HL := Lib.hid (hr)
  clear hr
  go_enter Tryz.func3, Tryz.ntmps3
  have HC := Lib.hid (lossFact_any w HTB.out)
  go_wp2_with fail
  refine HC.out.mono ?_
  rintro e w1 ⟨rfl, hb⟩
  clear HC
  replace HB := Lib.hid (HB.out.trans (hb.mono HB.out.size))
  replace HL := Lib.hid (HL.out.below hb)
  clear hb
  obtain ⟨t1, t2, t3, ht⟩ : ∃ a b k, boundsT (SL r) (tx1 l) (SL f) = (a, b, k) := ⟨_, _, _, rfl⟩
  have HT := Lib.hid ht
  clear ht
  have HC := Lib.hid (bounds_any r f l n A c w1 sr sf HL.out HS.out (tab_below HTB.out HB.out))
  go_wp2_with fail
  refine HC.out.mono ?_
  rintro e w2 h
  clear HC
  obtain ⟨rfl, hb⟩ := h.known HT.out
  clear h
  replace HB := Lib.hid (HB.out.trans (hb.mono HB.out.size))
  replace HL := Lib.hid (HL.out.below hb)
  clear hb
  by_cases h0 : t3 = 0
  · subst h0
    have HE := Lib.hid (show (boundsT (SL r) (tx1 l) (SL f)).2.2 = 0 by rw [HT.out])
    have hn : n ≤ 16 := by
      have h := (lchk_ok (bounds_chk HE.out)).few
      rw [HLN.out] at h; exact h
    have HC := Lib.hid (lengthy_any r f l n A c w2 HL.out (by omega))
    go_wp2_with fail
    refine HC.out.mono ?_
    rintro e w3 ⟨rfl, hb⟩
    clear HC
    replace HB := Lib.hid (HB.out.trans (hb.mono HB.out.size))
    replace HL := Lib.hid (HL.out.below hb)
    clear hb
    cases hlg : lhS (l ++ [r, f]) with
    | true =>
      go_wp2
      go_ret
      exact ⟨rfl, HB.out⟩
    | false =>
      obtain ⟨q1, q2, q3⟩ := lh_false hlg
      obtain ⟨A1, B1, X1, G1, D1, c1, c2, c3, c4, e1, e2, e3, e4, k1, e5, k2, e6, e7, k3, e8, k4, lA, lB, lX, lG, lD⟩ := bounds_law HE.out q1 q2 q3
      rw [HT.out] at e1
      injection e1 with e1 e9
      injection e9 with e9 _
      subst e1 e9
      have E2 := Lib.hid e2
      have E3 := Lib.hid e3
      have E4 := Lib.hid e4
      have E5 := Lib.hid e5
      have E6 := Lib.hid e6
      have E7 := Lib.hid e7
      have E8 := Lib.hid e8
      have SA := Lib.hid (show (⟨t1.toArray⟩ : ByteArray).size ≤ 9223372036854775807 by show (List.toArray _).size ≤ _; rw [List.size_toArray]; omega)
      have SB := Lib.hid (show (⟨t2.toArray⟩ : ByteArray).size ≤ 9223372036854775807 by show (List.toArray _).size ≤ _; rw [List.size_toArray]; omega)
      have SX := Lib.hid (show (⟨X1.toArray⟩ : ByteArray).size ≤ 9223372036854775807 by show (List.toArray _).size ≤ _; rw [List.size_toArray]; omega)
      have SG := Lib.hid (show (⟨G1.toArray⟩ : ByteArray).size ≤ 9223372036854775807 by show (List.toArray _).size ≤ _; rw [List.size_toArray]; omega)
      have SD := Lib.hid (show (⟨D1.toArray⟩ : ByteArray).size ≤ 9223372036854775807 by show (List.toArray _).size ≤ _; rw [List.size_toArray]; omega)
      have d1 : decide (c1 ≤ 0) = true := decide_eq_true k1
      have d2 : decide (c2 ≤ 0) = true := decide_eq_true k2
      have d3 : decide (c3 ≤ 0) = true := decide_eq_true k3
      have d4 : decide (0 ≤ c4) = true := decide_eq_true k4
      clear hlg q1 q2 q3 e2 e3 e4 e5 e6 e7 e8 lA lB lX lG lD
      have D1h := Lib.hid d1
      have D2h := Lib.hid d2
      have D3h := Lib.hid d3
      have D4h := Lib.hid d4
      clear d1 d2 d3 d4 k1 k2 k3 k4
      have HC := Lib.hid (exact_any r f w3 sr sf (tab_below HTB.out HB.out))
      go_wp2_with fail
      refine HC.out.mono ?_
      rintro e w4 h
      clear HC
      obtain ⟨rfl, hb⟩ := h.known E2.out
      clear h
      replace HB := Lib.hid (HB.out.trans (hb.mono HB.out.size))
      replace HL := Lib.hid (HL.out.below hb)
      clear hb
      have HC := Lib.hid (gap_any r l n A c w4 sr HL.out HS.out (tab_below HTB.out HB.out))
      go_wp2_with fail
      refine HC.out.mono ?_
      rintro e w5 h
      clear HC
      obtain ⟨rfl, hb⟩ := h.known E3.out
      clear h
      replace HB := Lib.hid (HB.out.trans (hb.mono HB.out.size))
      replace HL := Lib.hid (HL.out.below hb)
      clear hb
      have HC := Lib.hid (ratCmp_any ⟨t1.toArray⟩ ⟨X1.toArray⟩ w5 SA.out SX.out (tab_below HTB.out HB.out))
      go_wp2_with fail
      refine HC.out.mono ?_
      rintro e w6 h
      clear HC
      obtain ⟨rfl, hb⟩ := h.known E4.out
      clear h
      replace HB := Lib.hid (HB.out.trans (hb.mono HB.out.size))
      replace HL := Lib.hid (HL.out.below hb)
      clear hb
      have HC := Lib.hid (ratCmp_any ⟨X1.toArray⟩ ⟨t2.toArray⟩ w6 SX.out SB.out (tab_below HTB.out HB.out))
      go_wp2_with fail
      refine HC.out.mono ?_
      rintro e w7 h
      clear HC
      obtain ⟨rfl, hb⟩ := h.known E5.out
      clear h
      replace HB := Lib.hid (HB.out.trans (hb.mono HB.out.size))
      replace HL := Lib.hid (HL.out.below hb)
      clear hb
      have HC := Lib.hid (ratSub_any ⟨t2.toArray⟩ ⟨X1.toArray⟩ w7 SB.out SX.out (tab_below HTB.out HB.out))
      go_wp2_with fail
      refine HC.out.mono ?_
      rintro e w8 h
      clear HC
      obtain ⟨rfl, hb⟩ := h.known E6.out
      clear h
      replace HB := Lib.hid (HB.out.trans (hb.mono HB.out.size))
      replace HL := Lib.hid (HL.out.below hb)
      clear hb
      have HC := Lib.hid (ratCmp_any ⟨D1.toArray⟩ ⟨G1.toArray⟩ w8 SD.out SG.out (tab_below HTB.out HB.out))
      go_wp2_with fail
      refine HC.out.mono ?_
      rintro e w9 h
      clear HC
      obtain ⟨rfl, hb⟩ := h.known E7.out
      clear h
      replace HB := Lib.hid (HB.out.trans (hb.mono HB.out.size))
      replace HL := Lib.hid (HL.out.below hb)
      clear hb
      have HC := Lib.hid (ratSign_any ⟨t1.toArray⟩ w9 SA.out (tab_below HTB.out HB.out))
      go_wp2_with fail
      refine HC.out.mono ?_
      rintro e w10 h
      clear HC
      obtain ⟨rfl, hb⟩ := h.known E8.out
      clear h
      replace HB := Lib.hid (HB.out.trans (hb.mono HB.out.size))
      replace HL := Lib.hid (HL.out.below hb)
      clear hb
      have HX := Lib.hid (fine_any [0, 0, 0, 0, 0, 0, 0] 7 (some ⟨w10.heap.size, 0, none⟩) 7 (w10.alloc (.cells #[I 0, I 0, I 0, I 0, I 0, I 0, I 0] 25)) _ (reads_lits w10 _ [I 0, I 0, I 0, I 0, I 0, I 0, I 0]) (by omega))
      rw [show fineB [0, 0, 0, 0, 0, 0, 0] = true from rfl] at HX
      have hb := below_new w10 (.cells #[I 0, I 0, I 0, I 0, I 0, I 0, I 0] 25)
      replace HB := Lib.hid (HB.out.trans (hb.mono HB.out.size))
      replace HL := Lib.hid (HL.out.below hb)
      clear hb
      go_wp2_with fail
      refine HX.out.mono ?_
      rintro e w11 ⟨rfl, rfl⟩
      clear HX
      have d1 := D1h.out
      have d2 := D2h.out
      have d3 := D3h.out
      have d4 := D4h.out
      go_wp2
      go_ret
      exact ⟨rfl, HB.out⟩
  · have hbad := boundsT_bad (r := SL r) (l := tx1 l) (f := SL f) (by rw [HT.out]; exact h0)
    rw [HT.out] at hbad
    obtain ⟨rfl, rfl⟩ : t1 = [] ∧ t2 = [] := hbad
    have tn : (t3 != 0) = true := bne_iff_ne.2 h0
    have te : (t3 == 0) = false := beq_eq_false_iff_ne.2 h0
    clear h0
    go_wp2
    go_ret
    exact ⟨rfl, HB.out⟩
end Go.Proofs.YtmnedfkinepnfaaGreatDoor
