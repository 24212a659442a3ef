/- The steps of simplex.solve for a problem with short numbers. -/
import Derived.Test.YtcgfdfdcbamceaaGreatDoorXBP
namespace Go.Proofs.YtcgfdfdcbamceaaGreatDoor
open Go.RowKit
structure OkQ (a : List (List Rat)) (b c : List Rat) (m n : Nat) : Prop where
 hp : ProbQ a b c m n
 hm : m ≤ 7
 hn : n ≤ 7
 ga : ∀ i k, FitR 20000 (ent a i k)
 gb : ∀ i, FitR 20000 (b.getD i 0)
 gc : ∀ i, FitR 20000 (c.getD i 0)
 F2 : ∀ t', InvQ m (n + m + 1) (n + m + 1) (T1F m n a b) t' → ∀ i k, i ≤ m → FitR 20000 (tabF t' i k)
 F4 : ∀ t', InvQ m (W2 m n) (n + m) (T2F m n a b c) t' → ∀ i k, i ≤ m → FitR 20000 (tabF t' i k)
theorem goal0_fit (k j : Nat) : FitR 1 ((goal0 k).getD j 0) := by
 rw [goal0_at]
 split
 ·exact fitR_ngZ fitR_oneZ
 ·exact fitR_zero
section
variable {a : List (List Rat)} {b c : List Rat} {m n : Nat} {V W X U base g cv bt ot ct cb : Nat} {A Ab : Option Addr} {vs : List Value} {w : World}
theorem start_at (h : OkQ a b c m n) (hW : W = n + m + 1) (hV : V = W + 1) (ca : Nat) (hm : RM w A m a) (hb : RV w Ab m b) :
  Calls Tryz.prog 59 #[.slice A m ca, .slice Ab m cb, I n] w fun e w' => ∃ g A' cv vs bt ot ct Ab' cb', e = .returned (.pointer (some ⟨g, 0, none⟩)) ∧ w.heap.size ≤ g ∧ TBx w' w.heap.size g A' cv vs bt ot ct Ab' cb' m V W (startQ a b n) ∧ Below w.heap.size w w' := by
 have h7 := h.hm
 have h8 := h.hn
 subst hW
 have hr := fit_rows0 h.hp (Nat.le_of_ble_eq_true rfl) h.ga h.gb
 refine start_any a b m n V A ca Ab cb w hm h.hp.row hb (by omega) (by omega) (by omega) (fun i => (h.gb i).mono (Nat.le_of_ble_eq_true rfl)) (fun i k hi => (hr i k hi).mono (Nat.le_of_ble_eq_true rfl)) (fun i k hi => ?_) (fun r hr => ?_) (fun i k hi => (h.F2 _ (start0_inv h.hp) i k hi).mono (Nat.le_of_ble_eq_true rfl)) (fun i k hi => (h.F2 _ (start_inv h.hp).toInvQ i k hi).mono (Nat.le_of_ble_eq_true rfl)) (fun i hi => ?_)
 ·exact (fit_aim (start_rows h.hp []) (by rw [negPad_len]; omega) (fun k => fit_negPad (Nat.le_refl 1) (goal0_fit _) V k) hr h7 k hi).mono (Nat.le_of_ble_eq_true rfl)
 ·rw [rows0_at h.hp hr (by omega), T0F, if_pos hr, if_neg (by omega), if_neg (by omega), if_neg (by omega), if_pos rfl]
  decide
 ·rw [base0_at hi]
  omega
theorem improve1_at (h : OkQ a b c m n) (hW : W = n + m + 1) (hT : TBx w base g A cv vs bt ot ct Ab cb m V W (startQ a b n)) (hbase : base ≤ w.heap.size) :
  Calls Tryz.prog 60 #[.pointer (some ⟨g, 0, none⟩)] w fun e w' => e = .returned (I (optI (improveQ (fuelQ m n) (startQ a b n)).2)) ∧ TBx w' base g A cv vs bt ot ct Ab cb m V W (phase1 a b n) ∧ Below base w w' := by
 have h7 := h.hm
 have h8 := h.hn
 have e := h.hp.len
 rw [phase1, e]
 subst hW
 exact improve_any base g cv bt ot ct cb m V (n + m + 1) (n + m + 1) A Ab vs (T1F m n a b) (startQ a b n) (fuelQ m n) w hT (start_inv h.hp) (Nat.le_refl _) (by omega) (by omega) (fun t' ht i k hi => (h.F2 t' ht i k hi).mono (Nat.le_of_ble_eq_true rfl)) hbase
theorem settle_at (h : OkQ a b c m n) (hW : W = n + m + 1) (hneg : ¬ tabF (phase1 a b n) m (n + m + 1) < 0) (hT : TBx w base g A cv vs bt ot ct Ab cb m V W (phase1 a b n)) (hbase : base ≤ w.heap.size) :
  Calls Tryz.prog 62 #[.pointer (some ⟨g, 0, none⟩), I ((n : Int) + m)] w fun e w' => e = .returned (.tuple #[]) ∧ TBx w' base g A cv vs bt ot ct Ab cb m V W (settleQ (phase1 a b n) (n + m)) ∧ Below base w w' := by
 have h7 := h.hm
 have h8 := h.hn
 obtain ⟨_, _, _, h4⟩ := settle_rows (N := 20000) (Nat.le_of_ble_eq_true rfl) (sett0 h.hp hneg) h.F2
 exact settle_any base g cv bt ot ct cb m V W (n + m) A Ab vs (phase1 a b n) w hT (by omega) (by omega) (by omega) (fun j hj i k hi => (h4 j hj i k hi).mono (Nat.le_of_ble_eq_true rfl)) hbase
theorem cols_at (hW : W = n + m + 1) (hX : X = W2 m n) (hU : U = X + 1) (hg : base ≤ g) {t : TabQ} (hT : TBx w base g A cv vs bt ot ct Ab cb m V W t) :
  TB0 (w.setCell ⟨g, 3, none⟩ (I ((n : Int) + m))) base g A cv vs (.slice (some ⟨bt, ot, none⟩) V ct) Ab cb m U X { t with cols := n + m } ∧ Below base w (w.setCell ⟨g, 3, none⟩ (I ((n : Int) + m))) := by
 subst hU
 exact (hT.to0W (W' := X) (fun h0 => by rw [hX, W2, if_neg h0, hW])).colsSet (noWord_slice _ _ _) hg (n + m)
theorem aim_at (h : OkQ a b c m n) (hX : X = W2 m n) (hU : U = X + 1) (hneg : ¬ tabF (phase1 a b n) m (n + m + 1) < 0) {tv : Value} (htv : noWord tv) {A5 : Option Addr} {L k5 : Nat} (hT : TB0 w base g A cv vs tv Ab cb m U X { settleQ (phase1 a b n) (n + m) with cols := n + m }) (hc : RRow w base (.slice A5 L k5) (goal2 c m)) (hL : L = n + m + 1) (hbase : base ≤ w.heap.size) (hg : base ≤ g) :
  Calls Tryz.prog 63 #[.pointer (some ⟨g, 0, none⟩), .slice A5 L k5] w fun e w' => e = .returned (.tuple #[]) ∧ (∃ bt ot ct, TBx w' base g A cv vs bt ot ct Ab cb m U X (aimQ { settleQ (phase1 a b n) (n + m) with cols := n + m } (goal2 c m))) ∧ Below base w w' := by
 have h7 := h.hm
 have h8 := h.hn
 obtain ⟨h1, h2, h3, _⟩ := settle_rows (N := 20000) (Nat.le_of_ble_eq_true rfl) (sett0 h.hp hneg) h.F2
 have hx : n ≤ X ∧ X ≤ n + m + 1 ∧ (m = 0 → X = n) ∧ (m ≠ 0 → X = n + m + 1) := by
  rw [hX, W2]
  split <;> omega
 have hg2 := fun k => fit_goal2 (N := 20000) h.gc (Nat.le_of_ble_eq_true rfl) m k
 refine aim_any base g cv cb m U X A Ab vs tv _ (goal2 c m) A5 L k5 w hT (fun h0 => ?_) (by omega) (by omega) hc (by omega) htv (fun i hi => ?_) (fun k => (hg2 k).mono (Nat.le_of_ble_eq_true rfl)) (fun i k hi => (h3 i k hi).mono (Nat.le_of_ble_eq_true rfl)) (fun i k hi => ?_) hbase hg
 ·show U = n + m + 1
  omega
 ·have := h2 i hi
  omega
 ·rw [← hX] at h1
  exact (fit_aim h1 (by rw [negPad_len]; omega) (fun k => fit_negPad (Nat.le_of_ble_eq_true rfl) hg2 U k) h3 h7 k hi).mono (Nat.le_of_ble_eq_true rfl)
theorem improve2_at (h : OkQ a b c m n) (hX : X = W2 m n) (hneg : ¬ tabF (phase1 a b n) m (n + m + 1) < 0) (hT : TBx w base g A cv vs bt ot ct Ab cb m U X (aimQ { settleQ (phase1 a b n) (n + m) with cols := n + m } (goal2 c m))) (hbase : base ≤ w.heap.size) :
  Calls Tryz.prog 60 #[.pointer (some ⟨g, 0, none⟩)] w fun e w' => e = .returned (I (optI (phase2 a c n (phase1 a b n)).2)) ∧ TBx w' base g A cv vs bt ot ct Ab cb m U X (phase2 a c n (phase1 a b n)).1 ∧ Below base w w' := by
 have h7 := h.hm
 have h8 := h.hn
 have e := h.hp.len
 have hx : X ≤ n + m + 1 := by
  rw [hX, W2]
  split <;> omega
 rw [phase2, e]
 subst hX
 exact improve_any base g cv bt ot ct cb m U (W2 m n) (n + m) A Ab vs (T2F m n a b c) _ (fuelQ m n) w hT (phase2_start h.hp (sett0 h.hp hneg)) (Nat.pow_le_pow_left (Nat.le_succ _) m) (by omega) (by omega) (fun t' ht i k hi => (h.F4 t' ht i k hi).mono (Nat.le_of_ble_eq_true rfl)) hbase
end
end Go.Proofs.YtcgfdfdcbamceaaGreatDoor
