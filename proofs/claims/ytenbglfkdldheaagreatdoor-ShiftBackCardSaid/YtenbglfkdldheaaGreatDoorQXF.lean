/- shiftFact. Transfers: by how much flows grow is linear; the sizes; the plain law of ShiftBack. Plain facts. Bridges, and the islands of a network without one branch: the plain law of ShiftBridges. -/
import Derived.Test.YtenbglfkdldheaaGreatDoorQXE
set_option maxRecDepth 100000
set_option maxHeartbeats 16000000
namespace Go.Proofs.YtenbglfkdldheaaGreatDoor
section
open Go.RowKit
theorem aRb {m : List (List ByteArray)} {L K : List (List UInt8)} (h : tx2 m = [L, K]) : m = [mkS L, mkS K] := by
 match m, h with
 | [a, b], h =>
  simp only [tx2, List.map_cons, List.map_nil, List.cons.injEq, and_true] at h
  rw [yA (h.1.trans (wY L).symm), yA (h.2.trans (wY K).symm)]
theorem aOg {w : World} {g : Nat} {t : TypeId} {u v : Value} {l k : List ByteArray} (hB : Blk w g t #[u, v]) (h : SS w u l) (h2 : SS w v k) : SMat w (some ⟨g, 0, none⟩) 2 [l, k] := by
 refine ⟨[u, v], cO (n := 2) (sz := 1) hB rfl, rfl, fun i x y e1 e2 => ?_⟩
 match i with
 | 0 =>
  obtain rfl : u = x := by simpa using e1
  obtain rfl : l = y := by simpa using e2
  exact h
 | 1 =>
  obtain rfl : v = x := by simpa using e1
  obtain rfl : k = y := by simpa using e2
  exact h2
 | i + 2 => simp at e1
theorem aOh {w : World} {g : Nat} {t : TypeId} {a b : ByteArray} (hB : Blk w g t #[.string a, .string b]) : SS w (.slice (some ⟨g, 0, none⟩) 2 2) [a, b] := ⟨_, 2, rfl, cO (n := 2) (sz := 1) hB rfl⟩
theorem aTi : aEb (eP false) = ([[[48], [45, 49, 47, 50]], [[48], [45, 49, 47, 50]]], 0) := by decide +kernel
theorem aRc : lN (eP false) 0 = ([-1, 1], 0) := by decide +kernel
theorem aTj : bH (eP false) ⟨#[66]⟩ ⟨#[67]⟩ = ([mkRat 1 2, mkRat 1 2], 0) := by decide +kernel
theorem aVc : mkS ([(-1 : Rat), 1].map aL) = [⟨#[45, 49]⟩, ⟨#[49]⟩] := by decide +kernel
theorem aVd : mkS ([mkRat 1 2, mkRat 1 2].map aL) = [⟨#[49, 47, 50]⟩, ⟨#[49, 47, 50]⟩] := by decide +kernel
theorem aRr {w : World} {r : List Rat × Int} {e : Ending} {w' : World} {q : List Rat} {l : List ByteArray} {n : Nat} (h : xL w r e w') (hr : r = (q, 0)) (hq : mkS (q.map aL) = l) (hn : q.length = n) :
  ∃ A c, e = .returned (.tuple #[.slice A n c, I 0]) ∧ Row w' w.heap.size 51 1 (.slice A n c) n (l.map Sv) ∧ Below w.heap.size w w' := by
 subst hr hq hn
 obtain ⟨v, h1, h2, _, h4⟩ := h
 obtain ⟨_, h5⟩ := h2 rfl
 obtain ⟨A, c, rfl⟩ := h5.val
 exact ⟨A, c, h1, h5, h4⟩
theorem vP (w : World) (htab : Tab w) : Calls Tryz.prog 14 #[] w fun e w' => e = .returned (.bool true) ∧ Below w.heap.size w w' := by
 have HTB := aH htab
 have HB := aH (Below.refl w.heap.size w)
 clear htab
 go_enter Tryz.func14, Tryz.ntmps14
 have HC := aH (show Calls Tryz.prog 54 #[] w (fun e w' => ∃ v : NetV, e = .returned (.agg #[.slice v.na 3 v.nc, .slice v.sa 1 v.sc, .slice v.ba 2 v.bc, .slice v.ga 1 v.gc, .slice v.la 1 v.lc, .slice v.ta 0 v.tc]) ∧ NetIn w' (eP false) v ∧ Below w.heap.size w w') from (tI w).mono fun e w' h => by obtain ⟨v, h1, h2, _, h3⟩ := h; exact ⟨v, h1, h2, h3⟩)
 go_wp2_with fail
 refine HC.out.mono ?_
 rintro e w1 ⟨v1, rfl, hin, hb⟩
 clear HC
 have hbs := HB.out.size
 replace HB := aH (HB.out.trans (hb.mono hbs))
 clear hbs
 clear hb
 have HIN := aH (hin)
 clear hin
 have HC := aH (show Calls Tryz.prog 51 #[.agg #[.slice v1.na 3 v1.nc, .slice v1.sa 1 v1.sc, .slice v1.ba 2 v1.bc, .slice v1.ga 1 v1.gc, .slice v1.la 1 v1.lc, .slice v1.ta 0 v1.tc]] w1 (fun e w' => ∃ A c, e = .returned (.tuple #[.slice A 2 c, I 0]) ∧ SMat w' A 2 [[⟨#[48]⟩, ⟨#[45, 49, 47, 50]⟩], [⟨#[48]⟩, ⟨#[45, 49, 47, 50]⟩]] ∧ Below w1.heap.size w1 w') from (aCe (eP false) v1 w1 (tJ HIN.out) (aO HTB.out HB.out)).mono fun e w' h => by
   obtain ⟨A, n, c, m, h1, h2, h3, _, h5⟩ := h
   rw [aTi] at h1 h3
   obtain rfl := aRb h3
   have hn : n = 2 := by
    obtain ⟨_, _, h6, _⟩ := h2
    exact h6.symm
   subst hn
   exact ⟨A, c, h1, h2, h5⟩)
 go_wp2_with fail
 refine HC.out.mono ?_
 rintro e w2 ⟨FA, fc, rfl, hfm, hb⟩
 clear HC
 have hbs := HB.out.size
 replace HB := aH (HB.out.trans (hb.mono hbs))
 clear hbs
 replace HIN := aH (HIN.out.below hb)
 clear hb
 clear HIN
 have HF := aH (hfm)
 clear hfm
 have HC := aH (show Calls Tryz.prog 54 #[] w2 (fun e w' => ∃ v : NetV, e = .returned (.agg #[.slice v.na 3 v.nc, .slice v.sa 1 v.sc, .slice v.ba 2 v.bc, .slice v.ga 1 v.gc, .slice v.la 1 v.lc, .slice v.ta 0 v.tc]) ∧ NetIn w' (eP false) v ∧ Below w2.heap.size w2 w') from (tI w2).mono fun e w' h => by obtain ⟨v, h1, h2, _, h3⟩ := h; exact ⟨v, h1, h2, h3⟩)
 go_wp2_with fail
 refine HC.out.mono ?_
 rintro e w3 ⟨v2, rfl, hin, hb⟩
 clear HC
 have hbs := HB.out.size
 replace HB := aH (HB.out.trans (hb.mono hbs))
 clear hbs
 replace HF := aH (HF.out.below hb)
 clear hb
 have HIN := aH (hin)
 clear hin
 have HC := aH (show Calls Tryz.prog 20 #[.agg #[.slice v2.na 3 v2.nc, .slice v2.sa 1 v2.sc, .slice v2.ba 2 v2.bc, .slice v2.ga 1 v2.gc, .slice v2.la 1 v2.lc, .slice v2.ta 0 v2.tc], I 0] w3 _ from (aOf (eP false) v2 0 w3 (tJ HIN.out) (aO HTB.out HB.out)).mono fun e w' h => aRr h aRc aVc rfl)
 go_wp2_with fail
 refine HC.out.mono ?_
 rintro e w4 ⟨LA, lc, rfl, hrl, hb⟩
 clear HC
 have hbs := HB.out.size
 replace HB := aH (HB.out.trans (hb.mono hbs))
 clear hbs
 replace HF := aH (HF.out.below hb)
 replace HIN := aH (HIN.out.below hb)
 clear hb
 clear HIN
 have HL := aH (hrl)
 clear hrl
 have HC := aH (show Calls Tryz.prog 54 #[] w4 (fun e w' => ∃ v : NetV, e = .returned (.agg #[.slice v.na 3 v.nc, .slice v.sa 1 v.sc, .slice v.ba 2 v.bc, .slice v.ga 1 v.gc, .slice v.la 1 v.lc, .slice v.ta 0 v.tc]) ∧ NetIn w' (eP false) v ∧ Below w4.heap.size w4 w') from (tI w4).mono fun e w' h => by obtain ⟨v, h1, h2, _, h3⟩ := h; exact ⟨v, h1, h2, h3⟩)
 go_wp2_with fail
 refine HC.out.mono ?_
 rintro e w5 ⟨v3, rfl, hin, hb⟩
 clear HC
 have hbs := HB.out.size
 replace HB := aH (HB.out.trans (hb.mono hbs))
 clear hbs
 replace HF := aH (HF.out.below hb)
 replace HL := aH (HL.out.call hb)
 clear hb
 have HIN := aH (hin)
 clear hin
 have HC := aH (show Calls Tryz.prog 46 #[.agg #[.slice v3.na 3 v3.nc, .slice v3.sa 1 v3.sc, .slice v3.ba 2 v3.bc, .slice v3.ga 1 v3.gc, .slice v3.la 1 v3.lc, .slice v3.ta 0 v3.tc], .string ⟨#[66]⟩, .string ⟨#[67]⟩] w5 _ from (gS (eP false) v3 ⟨#[66]⟩ ⟨#[67]⟩ w5 (tJ HIN.out) (aO HTB.out HB.out)).mono fun e w' h => aRr h aTj aVd rfl)
 go_wp2_with fail
 refine HC.out.mono ?_
 rintro e w6 ⟨BA, bc, rfl, hrb, hb⟩
 clear HC
 have hbs := HB.out.size
 replace HB := aH (HB.out.trans (hb.mono hbs))
 clear hbs
 replace HF := aH (HF.out.below hb)
 replace HL := aH (HL.out.call hb)
 replace HIN := aH (HIN.out.below hb)
 clear hb
 clear HIN
 have HBT := aH (hrb)
 clear hrb
 have hb := aK w6 (.cells #[I 0, I 0, I 0] 34)
 have hx := Blk.new w6 34 #[I 0, I 0, I 0]
 have hbs := HB.out.size
 replace HB := aH (HB.out.trans (hb.mono hbs))
 clear hbs
 replace HF := aH (HF.out.below hb)
 replace HL := aH (HL.out.call hb)
 replace HBT := aH (HBT.out.call hb)
 clear hb
 have HX := aH hx
 clear hx
 have HC := aH (pQ [0, 0, 0] 3 (some ⟨w6.heap.size, 0, none⟩) 3 (w6.alloc (.cells #[I 0, I 0, I 0] 34)) (w6.alloc (.cells #[I 0, I 0, I 0] 34)).heap.size (cO (n := 3) (sz := 1) HX.out rfl) (by decide))
 rw [show fS [0, 0, 0] = true from rfl] at HC
 go_wp2_with fail
 refine HC.out.mono ?_
 rintro e w7 ⟨rfl, rfl⟩
 clear HC
 clear HX
 generalize (w6.alloc (.cells #[I 0, I 0, I 0] 34)) = w8 at *
 have hb := aK w8 (.cells #[.string ⟨#[48]⟩, .string ⟨#[45, 49, 47, 50]⟩] 51)
 have hx := Blk.new w8 51 #[.string ⟨#[48]⟩, .string ⟨#[45, 49, 47, 50]⟩]
 have hbs := HB.out.size
 replace HB := aH (HB.out.trans (hb.mono hbs))
 clear hbs
 replace HF := aH (HF.out.below hb)
 replace HL := aH (HL.out.call hb)
 replace HBT := aH (HBT.out.call hb)
 clear hb
 have B1 := aH hx
 clear hx
 have hb := aK (w8.alloc (.cells #[.string ⟨#[48]⟩, .string ⟨#[45, 49, 47, 50]⟩] 51)) (.cells #[.string ⟨#[48]⟩, .string ⟨#[45, 49, 47, 50]⟩] 51)
 have hx := Blk.new (w8.alloc (.cells #[.string ⟨#[48]⟩, .string ⟨#[45, 49, 47, 50]⟩] 51)) 51 #[.string ⟨#[48]⟩, .string ⟨#[45, 49, 47, 50]⟩]
 have hbs := HB.out.size
 replace HB := aH (HB.out.trans (hb.mono hbs))
 clear hbs
 replace HF := aH (HF.out.below hb)
 replace HL := aH (HL.out.call hb)
 replace HBT := aH (HBT.out.call hb)
 replace B1 := bL B1 hb
 clear hb
 have B2 := aH hx
 clear hx
 have hb := aK ((w8.alloc (.cells #[.string ⟨#[48]⟩, .string ⟨#[45, 49, 47, 50]⟩] 51)).alloc (.cells #[.string ⟨#[48]⟩, .string ⟨#[45, 49, 47, 50]⟩] 51)) (.cells #[.slice (some ⟨w8.heap.size, 0, none⟩) 2 2, .slice (some ⟨(w8.alloc (.cells #[.string ⟨#[48]⟩, .string ⟨#[45, 49, 47, 50]⟩] 51)).heap.size, 0, none⟩) 2 2] 47)
 have hx := Blk.new ((w8.alloc (.cells #[.string ⟨#[48]⟩, .string ⟨#[45, 49, 47, 50]⟩] 51)).alloc (.cells #[.string ⟨#[48]⟩, .string ⟨#[45, 49, 47, 50]⟩] 51)) 47 #[.slice (some ⟨w8.heap.size, 0, none⟩) 2 2, .slice (some ⟨(w8.alloc (.cells #[.string ⟨#[48]⟩, .string ⟨#[45, 49, 47, 50]⟩] 51)).heap.size, 0, none⟩) 2 2]
 have hbs := HB.out.size
 replace HB := aH (HB.out.trans (hb.mono hbs))
 clear hbs
 replace HF := aH (HF.out.below hb)
 replace HL := aH (HL.out.call hb)
 replace HBT := aH (HBT.out.call hb)
 replace B1 := bL B1 hb
 replace B2 := bL B2 hb
 clear hb
 have B3 := aH hx
 clear hx
 have HC := aH (tF [[⟨#[48]⟩, ⟨#[45, 49, 47, 50]⟩], [⟨#[48]⟩, ⟨#[45, 49, 47, 50]⟩]] [[⟨#[48]⟩, ⟨#[45, 49, 47, 50]⟩], [⟨#[48]⟩, ⟨#[45, 49, 47, 50]⟩]] 2 2 FA (some ⟨((w8.alloc (.cells #[.string ⟨#[48]⟩, .string ⟨#[45, 49, 47, 50]⟩] 51)).alloc (.cells #[.string ⟨#[48]⟩, .string ⟨#[45, 49, 47, 50]⟩] 51)).heap.size, 0, none⟩) fc 2 (((w8.alloc (.cells #[.string ⟨#[48]⟩, .string ⟨#[45, 49, 47, 50]⟩] 51)).alloc (.cells #[.string ⟨#[48]⟩, .string ⟨#[45, 49, 47, 50]⟩] 51)).alloc (.cells #[.slice (some ⟨w8.heap.size, 0, none⟩) 2 2, .slice (some ⟨(w8.alloc (.cells #[.string ⟨#[48]⟩, .string ⟨#[45, 49, 47, 50]⟩] 51)).heap.size, 0, none⟩) 2 2] 47)) HF.out (aOg B3.out (aOh B1.out) (aOh B2.out)) (by decide) (fun l hl => by rcases List.mem_cons.1 hl with rfl | hl; exact Nat.le_of_ble_eq_true rfl; rw [List.mem_singleton.1 hl]; exact Nat.le_of_ble_eq_true rfl))
 rw [decide_eq_true rfl] at HC
 try simp only [World.size_alloc] at HC
 go_wp2_with fail
 refine HC.out.mono ?_
 rintro e w9 ⟨rfl, hb⟩
 clear HC
 have hb3 : Below (((w8.alloc (.cells #[.string ⟨#[48]⟩, .string ⟨#[45, 49, 47, 50]⟩] 51)).alloc (.cells #[.string ⟨#[48]⟩, .string ⟨#[45, 49, 47, 50]⟩] 51)).alloc (.cells #[.slice (some ⟨w8.heap.size, 0, none⟩) 2 2, .slice (some ⟨(w8.alloc (.cells #[.string ⟨#[48]⟩, .string ⟨#[45, 49, 47, 50]⟩] 51)).heap.size, 0, none⟩) 2 2] 47)).heap.size (((w8.alloc (.cells #[.string ⟨#[48]⟩, .string ⟨#[45, 49, 47, 50]⟩] 51)).alloc (.cells #[.string ⟨#[48]⟩, .string ⟨#[45, 49, 47, 50]⟩] 51)).alloc (.cells #[.slice (some ⟨w8.heap.size, 0, none⟩) 2 2, .slice (some ⟨(w8.alloc (.cells #[.string ⟨#[48]⟩, .string ⟨#[45, 49, 47, 50]⟩] 51)).heap.size, 0, none⟩) 2 2] 47)) w9 := by simp only [World.size_alloc]; exact hb
 clear hb
 clear B1 B2 B3 HF
 have hbs := HB.out.size
 replace HB := aH (HB.out.trans (hb3.mono hbs))
 clear hbs
 replace HL := aH (HL.out.call hb3)
 replace HBT := aH (HBT.out.call hb3)
 clear hb3
 have hb := aK w9 (.cells #[.string ⟨#[45, 49]⟩, .string ⟨#[49]⟩] 51)
 have hx := Blk.new w9 51 #[.string ⟨#[45, 49]⟩, .string ⟨#[49]⟩]
 have hbs := HB.out.size
 replace HB := aH (HB.out.trans (hb.mono hbs))
 clear hbs
 replace HL := aH (HL.out.call hb)
 replace HBT := aH (HBT.out.call hb)
 clear hb
 have B1 := aH hx
 clear hx
 have HC := aH (oJ [⟨#[45, 49]⟩, ⟨#[49]⟩] [⟨#[45, 49]⟩, ⟨#[49]⟩] 2 2 LA (some ⟨w9.heap.size, 0, none⟩) lc 2 (w9.alloc (.cells #[.string ⟨#[45, 49]⟩, .string ⟨#[49]⟩] 51)) (HL.out.reads.more lR) (cO (n := 2) (sz := 1) B1.out rfl) (by decide))
 rw [decide_eq_true rfl] at HC
 go_wp2_with fail
 refine HC.out.mono ?_
 rintro e w10 ⟨rfl, hb⟩
 clear HC
 clear B1 HL
 have hbs := HB.out.size
 replace HB := aH (HB.out.trans (hb.mono hbs))
 clear hbs
 replace HBT := aH (HBT.out.call hb)
 clear hb
 have hb := aK w10 (.cells #[.string ⟨#[49, 47, 50]⟩, .string ⟨#[49, 47, 50]⟩] 51)
 have hx := Blk.new w10 51 #[.string ⟨#[49, 47, 50]⟩, .string ⟨#[49, 47, 50]⟩]
 have hbs := HB.out.size
 replace HB := aH (HB.out.trans (hb.mono hbs))
 clear hbs
 replace HBT := aH (HBT.out.call hb)
 clear hb
 have B1 := aH hx
 clear hx
 have HC := aH (oJ [⟨#[49, 47, 50]⟩, ⟨#[49, 47, 50]⟩] [⟨#[49, 47, 50]⟩, ⟨#[49, 47, 50]⟩] 2 2 BA (some ⟨w10.heap.size, 0, none⟩) bc 2 (w10.alloc (.cells #[.string ⟨#[49, 47, 50]⟩, .string ⟨#[49, 47, 50]⟩] 51)) (HBT.out.reads.more lR) (cO (n := 2) (sz := 1) B1.out rfl) (by decide))
 rw [decide_eq_true rfl] at HC
 go_wp2_with fail
 refine HC.out.mono ?_
 rintro e w11 ⟨rfl, hb⟩
 clear HC
 clear B1 HBT
 have hbs := HB.out.size
 replace HB := aH (HB.out.trans (hb.mono hbs))
 clear hbs
 clear hb
 go_wp2
 go_ret
 exact ⟨rfl, HB.out⟩
end
section
theorem iD (u v nb : Nat) : (gr0 u v nb).length = nb := by simp [gr0]
theorem qY {u v nb : Nat} {j : Nat} (hj : j < nb) (_hu : u < nb) (hv : v < nb) : (gr0 u v nb).getD j 0 = (if u = j then 1 else 0) - (if v = j then 1 else 0) := by
 have h1 : ∀ x, x < nb → ((List.replicate nb (0 : Rat)).set u ((List.replicate nb (0 : Rat)).getD u 0 + 1)).getD x 0 = if u = x then 1 else 0 := fun x hx => by
  rw [jW, tG, tG, List.length_replicate]
  by_cases e : u = x
  ·rw [if_pos ⟨e, hx⟩, if_pos e]; grind
  ·rw [if_neg (fun h => e h.1), if_neg e]
 unfold gr0
 rw [jW, h1 v hv, h1 j hj, List.length_set, List.length_replicate]
 by_cases e : v = j
 ·subst e
  rw [if_pos ⟨rfl, hv⟩, if_pos rfl]
 ·rw [if_neg (fun h => e h.1), if_neg e]; grind
theorem aRd {u v x nb : Nat} (hu : u < nb) (hv : v < nb) (hx : x < nb) : dB (gr0 u v nb) (gr0 v x nb) = gr0 u x nb := by
 refine gO (by simp [dB, iD]) fun j hj => ?_
 have hj : j < nb := by simpa [dB, iD] using hj
 rw [gN (by rw [iD, iD]), qY hj hu hv, qY hj hv hx, qY hj hu hx]
 grind
theorem aOi {u v nb : Nat} (hu : u < nb) (hv : v < nb) : gr0 v u nb = gH (-1) (gr0 u v nb) := by
 refine gO (by simp [gH, iD]) fun j hj => ?_
 rw [iD] at hj
 rw [jM, qY hj hv hu, qY hj hu hv]
 grind
theorem aOj (k : Rat) (x a : List Rat) : lQ x (gH k a) = k * lQ x a := by
 unfold lQ
 rw [← iV]
 exact aY _ fun i _ => by rw [jM]; grind
theorem aJa (k : Rat) (free : List Int) (a : List Rat) : bP free (gH k a) = gH k (bP free a) := by
 refine gO (by simp [gH, bP]) fun j hj => ?_
 have hj : j < free.length := by simpa [bP] using hj
 rw [jM, jX hj, jX hj, jM]
theorem aRe (n : NetD) (k : Rat) (a : List Rat) : thN n (gH k a) = gH k (thN n a) := by
 refine gO (by simp [gH, jG]) fun j _ => ?_
 rw [jM, nF, nF]
 unfold eO xN
 split
 ·rw [aJa, aOj]
 ·grind
theorem vF {frm tu : List Int} {B th : List Rat} {k i : Nat} (hi : i < k) : (grK frm tu B th k).getD i 0 = aCq frm tu B th i := by
 unfold grK
 rw [gD, List.getElem?_map, List.getElem?_range hi]
 rfl
theorem aRf {n : NetD} {u v x : Nat} (hu : u < nbN n) (hv : v < nbN n) (hx : x < nbN n) : grN n u x = dB (grN n u v) (grN n v x) := by
 refine gO (by simp [dB, eU]) fun j hj => ?_
 rw [eU] at hj
 rw [gN (by rw [eU, eU])]
 unfold grN
 rw [vF hj, vF hj, vF hj, ← aRd hu hv hx, aPh (by rw [iD, iD])]
 unfold aCq
 rw [gN (by rw [jG, jG]), gN (by rw [jG, jG])]
 grind
theorem aOk {n : NetD} {u v : Nat} (hu : u < nbN n) (hv : v < nbN n) : grN n v u = gH (-1) (grN n u v) := by
 refine gO (by simp [gH, eU]) fun j hj => ?_
 rw [eU] at hj
 rw [jM]
 unfold grN
 rw [vF hj, vF hj, aOi hu hv, aRe]
 unfold aCq
 rw [jM, jM]
 grind
theorem aJb {n : NetD} (h : VNet n) (hb : n.branches.length ≤ 10) {u v : Nat} (hu : u < nbN n) (hv : v < nbN n) : Small n (gr0 u v (nbN n)) := fun i => by
 have hK : IB (10 ^ 3) (1000 : Rat) := ⟨1000, rfl, by decide⟩
 have hx : IB (10 ^ 1) ((gr0 u v (nbN n)).getD i 0) := by
  by_cases hi : i < nbN n
  ·rw [qY hi hu hv]
   have h1 : ∀ p : Prop, ∀ [Decidable p], IB 1 (if p then (1 : Rat) else 0) := fun p _ => by
    split
    ·exact ⟨1, rfl, by decide⟩
    ·exact IB.zero _
   exact ((h1 _).sub (h1 _)).mono (by decide)
  ·rw [gD, List.getElem?_eq_none (by rw [iD]; omega)]
   exact IB.zero _
 exact IB.ten (k := 3 + (80 + 1)) (jO hK (jO (aRl h hb) hx)) (by omega)
theorem aTk {n : NetD} {u v : Nat} {q : Rat} (hq : q ∈ grN n u v) : ∃ b ∈ n.branches, q = bQ b * ((thN n (gr0 u v (nbN n))).getD (aQ n b.src).toNat 0 - (thN n (gr0 u v (nbN n))).getD (aQ n b.dst).toNat 0) := by
 obtain ⟨i, hi, rfl⟩ := List.mem_map.1 hq
 have hi := List.mem_range.1 hi
 refine ⟨n.branches[i], List.getElem_mem hi, ?_⟩
 simp [aCq, cL, toL, bLQ, hi]
theorem aUo {n : NetD} (h : VNet n) (hw : mA n = false) {u v : Nat} (hu : u < nbN n) (hv : v < nbN n) : ∀ q ∈ grN n u v, SzQ q 831 := fun q hq => by
 obtain ⟨e, he⟩ := aKr h hw
 obtain ⟨b, hb, rfl⟩ := aTk hq
 exact ((he.df _ (aJb h (mB hw).2.1 hu hv) b hb _ _).mono (show 828 ≤ 830 by omega)).sz he.sz he.ne
theorem aTl {n : NetD} (h : VNet n) (hw : mA n = false) {u v : Nat} (hu : u < nbN n) (hv : v < nbN n) : (grN n u v).all bS = true :=
 List.all_eq_true.2 fun q hq => (aUo h hw hu hv q hq).fit (by omega) (by omega)
theorem zF {n : NetD} (hw : mA n = false) {a b : ByteArray} (hc : bI n = 0) (ha : 0 ≤ Lib.idxOfS n.nodes a) (hb : 0 ≤ Lib.idxOfS n.nodes b) :
  bH n a b = if at_ (aA n) (aQ n a) ≠ at_ (aA n) (aQ n b) then ([], 15) else (grN n (aQ n a).toNat (aQ n b).toNat, 0) := by
 have hV := aHq hc
 have hr : ∀ x : ByteArray, 0 ≤ Lib.idxOfS n.nodes x → (aQ n x).toNat < nbN n := fun x hx => by
  rcases sK n.nodes x with h | h
  ·omega
  ·have := tE hV (aQ n x) (by
    rw [aQ, at_]
    exact bN (by rw [bY hV]; omega))
   omega
 rw [bH, if_neg (fun k => k hc), if_neg (by omega), aTl hV hw (hr a ha) (hr b hb), if_pos rfl]
theorem zG {n : NetD} {a b : ByteArray} (hc : bI n = 0) (h : Lib.idxOfS n.nodes a < 0 ∨ Lib.idxOfS n.nodes b < 0) : bH n a b = ([], 6) := by
 rw [bH, if_neg (fun k => k hc), if_pos h]
theorem aCf {n : NetD} (hw : mA n = false) (a b c : ByteArray) : (bH n a b).2 = (bH n b a).2 ∧ ((bH n a b).2 = 0 → (bH n b c).2 = 0 →
  (bH n a c).2 = 0 ∧ (bH n a c).1 = dB (bH n a b).1 (bH n b c).1 ∧ (bH n b a).1 = gH (-1) (bH n a b).1) := by
 by_cases hc : bI n = 0
 ·have hV := aHq hc
  have hr : ∀ x : ByteArray, 0 ≤ Lib.idxOfS n.nodes x → (aQ n x).toNat < nbN n := fun x hx => by
   rcases sK n.nodes x with h | h
   ·omega
   ·have := tE hV (aQ n x) (by
     rw [aQ, at_]
     exact bN (by rw [bY hV]; omega))
    omega
  by_cases hab : Lib.idxOfS n.nodes a < 0 ∨ Lib.idxOfS n.nodes b < 0
  ·rw [zG hc hab, zG hc hab.symm]
   exact ⟨rfl, fun h => absurd h (by decide)⟩
  ·have ha : 0 ≤ Lib.idxOfS n.nodes a := by omega
   have hb : 0 ≤ Lib.idxOfS n.nodes b := by omega
   rw [zF hw hc ha hb, zF hw hc hb ha]
   by_cases h1 : at_ (aA n) (aQ n a) = at_ (aA n) (aQ n b)
   ·rw [if_neg (fun k => k h1), if_neg (fun k => k h1.symm)]
    refine ⟨rfl, fun _ hbc => ?_⟩
    have hcc : 0 ≤ Lib.idxOfS n.nodes c := by
     rcases Int.lt_or_le (Lib.idxOfS n.nodes c) 0 with h | h
     ·rw [zG hc (.inr h)] at hbc
      exact absurd hbc (by decide)
     ·exact h
    rw [zF hw hc hb hcc] at hbc ⊢
    rw [zF hw hc ha hcc]
    by_cases h2 : at_ (aA n) (aQ n b) = at_ (aA n) (aQ n c)
    ·rw [if_neg (fun k => k (h1.trans h2)), if_neg (fun k => k h2)]
     exact ⟨rfl, aRf (hr a ha) (hr b hb) (hr c hcc), aOk (hr a ha) (hr b hb)⟩
    ·rw [if_pos h2] at hbc
     exact absurd hbc (by decide)
   ·rw [if_pos h1, if_pos (fun k => h1 k.symm)]
    exact ⟨rfl, fun h => absurd h (by decide)⟩
 ·have e : ∀ x y, bH n x y = ([], bI n) := fun x y => by rw [bH, if_pos hc]
  rw [e, e]
  exact ⟨rfl, fun h => absurd h hc⟩
end
end Go.Proofs.YtenbglfkdldheaaGreatDoor
