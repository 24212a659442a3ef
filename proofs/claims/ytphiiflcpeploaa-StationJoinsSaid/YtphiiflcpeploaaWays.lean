/- GraphWays: its walk answers true. -/
import Derived.Test.YtphiiflcpeploaaFact
import Derived.Test.YtphiiflcpeploaaConn
namespace Go.Proofs.Ytphiiflcpeploaa
open Go.RowKit

theorem back_full {n : Nat} {l : List (Int × Int)} {es far : List Int} {to : Int} (hv : Valid n l) (hes : Within l es) (h : FarInv n l es to far []) : ∀ (d : Nat) (a : Int), 0 ≤ a → a < n → at_ far a = d → (back l es far to (d + 1) a).length = d
  | 0, a, a0, a1, hd => by
    by_cases e : a = to
    · rw [back, if_pos e]; rfl
    · obtain ⟨k, hf, p1, p2, _, _⟩ := find_some h ⟨a0, a1, by omega⟩ e
      omega
  | d + 1, a, a0, a1, hd => by
    by_cases e : a = to
    · subst e; have := h.start; omega
    · obtain ⟨k, hf, p1, p2, hi, hk⟩ := find_some h ⟨a0, a1, by omega⟩ e
      obtain ⟨k0, k1⟩ := hes k hk
      obtain ⟨t0, t1⟩ := nxt_ok hv k0 k1 hi
      rw [back, if_neg e, hf]
      simp only [List.length_cons]
      rw [back_full hv hes h d _ t0 t1 (by omega)]

theorem path_yes {n : Nat} {l : List (Int × Int)} {es : List Int} {a to : Int} (hv : Valid n l) (hes : Within l es) (ha : 0 ≤ a ∧ a < n) (hto : 0 ≤ to ∧ to < n) (h : 0 ≤ at_ (farL n l es to) a) :
    (pathL n l es a to).2 = true ∧ (pathL n l es a to).1.length = (at_ (farL n l es to) a).toNat := by
  have hn : ¬ (farL n l es to).getD a.toNat 0 < 0 := by unfold at_ at h; omega
  rw [pathL, if_neg hn]
  refine ⟨rfl, ?_⟩
  exact back_full hv hes (far_inv hv hes hto) (at_ (farL n l es to) a).toNat a ha.1 ha.2 (by omega)
theorem path_no {n : Nat} {l : List (Int × Int)} {es : List Int} {a to : Int} (h : at_ (farL n l es to) a < 0) : pathL n l es a to = ([], false) := by
  unfold at_ at h
  rw [pathL, if_pos h]

theorem mem_all {m : Nat} {k : Int} : k ∈ allL m ↔ 0 ≤ k ∧ k < m := by
  simp only [allL, List.mem_map, List.mem_range]
  constructor
  · rintro ⟨i, hi, rfl⟩; exact ⟨Int.natCast_nonneg i, by simpa using hi⟩
  · rintro ⟨h0, h1⟩; exact ⟨k.toNat, by omega, by simp; omega⟩

/-- both ways in one: the error of both, the lengths, and what the components say -/
theorem ways_plain (n : Int) (l : List (Int × Int)) (a b : Int) : (pathE n l a b).2 = (pathE n l b a).2 ∧ (pathE n l a b).1.length = (pathE n l b a).1.length ∧
    ((pathE n l a b).2 = 0 ∨ (pathE n l a b).2 = 8 → chk n l = 0 ∧ 0 ≤ a ∧ a < n ∧ 0 ≤ b ∧ b < n ∧
      ((parts n.toNat l (-1)).getD a.toNat 0 == (parts n.toNat l (-1)).getD b.toNat 0) = ((pathE n l a b).2 == 0)) := by
  by_cases h0 : chk n l = 0
  · by_cases hr : a < 0 ∨ n ≤ a ∨ b < 0 ∨ n ≤ b
    · have e1 : pathE n l a b = ([], 4) := by rw [pathE, if_pos h0, if_pos hr]
      have e2 : pathE n l b a = ([], 4) := by rw [pathE, if_pos h0, if_pos (by omega)]
      rw [e1, e2]
      exact ⟨rfl, rfl, fun h => by simp at h⟩
    · obtain ⟨hn0, hn, hl, hv⟩ := chk_ok h0
      obtain ⟨m, rfl⟩ := Int.eq_ofNat_of_zero_le hn0
      simp only [Int.toNat_natCast] at hv ⊢
      have ha : 0 ≤ a ∧ a < m := by omega
      have hb : 0 ≤ b ∧ b < m := by omega
      have hw := all_within l
      have hcn : Conn l (· ∈ allL l.length) a b ↔ at_ (parts m l (-1)) a = at_ (parts m l (-1)) b := by
        rw [parts_conn hv ha hb]
        constructor
        · exact fun h => h.mono fun k hk => by have := mem_all.1 hk; exact ⟨this.1, this.2, by omega⟩
        · exact fun h => h.mono fun k hk => mem_all.2 ⟨hk.1, hk.2.1⟩
      have hfc := far_conn hv hw hb ha
      have hd : ((parts m l (-1)).getD a.toNat 0 == (parts m l (-1)).getD b.toNat 0) = decide (at_ (parts m l (-1)) a = at_ (parts m l (-1)) b) := by
        unfold at_; rw [Bool.eq_iff_iff]; simp
      by_cases hf : 0 ≤ at_ (farL m l (allL l.length) b) a
      · have hs := far_symm hv hw ha hb hf
        have p1 := path_yes hv hw ha hb hf
        have p2 := path_yes hv hw hb ha (by omega : 0 ≤ at_ (farL m l (allL l.length) a) b)
        have e1 : pathE (m : Int) l a b = ((pathL m l (allL l.length) a b).1, 0) := by rw [pathE, if_pos h0, if_neg hr, Int.toNat_natCast, if_pos p1.1]
        have e2 : pathE (m : Int) l b a = ((pathL m l (allL l.length) b a).1, 0) := by rw [pathE, if_pos h0, if_neg (by omega), Int.toNat_natCast, if_pos p2.1]
        rw [e1, e2]
        refine ⟨rfl, by rw [p1.2, p2.2, hs], fun _ => ⟨h0, ha.1, ha.2, hb.1, hb.2, ?_⟩⟩
        rw [hd, decide_eq_true (hcn.1 (hfc.1 hf))]; rfl
      · have hf2 : at_ (farL m l (allL l.length) a) b < 0 := by
          rcases Int.lt_or_le (at_ (farL m l (allL l.length) a) b) 0 with h | h
          · exact h
          · have := far_symm hv hw hb ha h; omega
        have q1 := path_no (n := m) (l := l) (es := allL l.length) (a := a) (to := b) (by omega)
        have q2 := path_no hf2
        have e1 : pathE (m : Int) l a b = ([], 8) := by rw [pathE, if_pos h0, if_neg hr, Int.toNat_natCast, q1]; rfl
        have e2 : pathE (m : Int) l b a = ([], 8) := by rw [pathE, if_pos h0, if_neg (by omega), Int.toNat_natCast, q2]; rfl
        rw [e1, e2]
        refine ⟨rfl, rfl, fun _ => ⟨h0, ha.1, ha.2, hb.1, hb.2, ?_⟩⟩
        rw [hd, decide_eq_false (fun e => hf (hfc.2 (hcn.2 e)))]; rfl
  · have e1 : pathE n l a b = ([], chk n l) := by rw [pathE, if_neg h0]
    have e2 : pathE n l b a = ([], chk n l) := by rw [pathE, if_neg h0]
    rw [e1, e2]
    refine ⟨rfl, rfl, fun h => ?_⟩
    exfalso
    unfold chk at h h0
    split at h
    · simp at h
    · split at h <;> simp_all

set_option maxRecDepth 100000 in
set_option maxHeartbeats 1000000 in
theorem ways_any (n : Int) (l : List (Int × Int)) (A : Option Addr) (c : Nat) (a b : Int) (w : World) (hG : GArgs w n l A c) (_ha : -9223372036854775808 ≤ a ∧ a ≤ 9223372036854775807) :
    Calls Try.prog 5 #[I n, .slice A l.length c, I a, I b] w fun e w' => e = .returned (.bool true) ∧ Below w.heap.size w w' := by
  obtain ⟨p1, p2, p3⟩ := ways_plain n l a b
  obtain ⟨r1, hr1⟩ : ∃ r, pathE n l a b = r := ⟨_, rfl⟩
  obtain ⟨r2, hr2⟩ : ∃ r, pathE n l b a = r := ⟨_, rfl⟩
  rw [hr1, hr2] at p1 p2
  rw [hr1] at p3
  obtain ⟨x1, e1⟩ := r1
  obtain ⟨x2, e2⟩ := r2
  simp only at p1 p2 p3
  subst p1
  have H1 := Lib.hid hr1
  have H2 := Lib.hid hr2
  have HL := Lib.hid p2
  clear hr1 hr2 p2
  by_cases hc : e1 = 0 ∨ e1 = 8
  · obtain ⟨h0, ha0, ha1, hb0, hb1, hpc⟩ := p3 hc
    obtain ⟨hn0, hn, hl, hv⟩ := chk_ok h0
    have H0 := Lib.hid h0
    have HPC := Lib.hid hpc
    clear h0 p3 hpc hv
    obtain ⟨n, rfl⟩ := Int.eq_ofNat_of_zero_le hn0
    simp only [Int.toNat_natCast] at HPC
    have HCE := Lib.hid (show guardE (n : Int) l [] (parts n l (-1)) = (parts n l (-1), 0) by rw [guardE, if_pos H0.out])
    have HPL := Lib.hid (parts_len n l (-1))
    rcases hc with rfl | rfl
    all_goals
      go_enter Try.func5, Try.ntmps5
      go_wp2_with (first | (go_at_call 10; refine (graphFact_any _).mono ?_; rintro e w0 ⟨rfl, hb0'⟩))
      refine (pathE_any n l A c a b _ (hG.below hb0')).mono ?_
      rw [H1.out]
      rintro e w1 ⟨v1, rfl, hrow1, hb1'⟩
      obtain ⟨A1, c1, rfl⟩ := hrow1.val
      go_wp2_with fail
      refine (pathE_any n l A c b a _ ((hG.below hb0').below hb1')).mono ?_
      rw [H2.out]
      rintro e w2 ⟨v2, rfl, hrow2, hb2'⟩
      simp only [← HL.out] at hrow2
      obtain ⟨A2, c2, rfl⟩ := hrow2.val
      go_wp2_with fail
      refine (components_any n l A c _ (((hG.below hb0').below hb1').below hb2')).mono ?_
      rw [Int.toNat_natCast, HCE.out]
      rintro e w3 ⟨v3, rfl, hrow3, hb3'⟩
      simp only [HPL.out] at hrow3
      obtain ⟨b3, off3, cap3, rfl, _, _, hc3⟩ := hrow3.ints (by omega)
      have g1 := hc3 a.toNat (by omega)
      have g2 := hc3 b.toNat (by omega)
      obtain ⟨q1, hq1⟩ : ∃ q1, (parts n l (-1)).getD a.toNat 0 = q1 := ⟨_, rfl⟩
      obtain ⟨q2, hq2⟩ : ∃ q2, (parts n l (-1)).getD b.toNat 0 = q2 := ⟨_, rfl⟩
      rw [hq1] at HPC g1
      rw [hq2] at HPC g2
      have hpc := HPC.out
      have HX := Lib.hid ((Ext.trans (Ext.trans (Ext.trans hb0' hb1') hb2') hb3' : Ext w w3))
      clear hq1 hq2 hc3 hrow1 hrow2 hrow3 hb0' hb1' hb2' hb3' HPC
      go_wp2
      go_quiet (fail)
      go_wp2
      go_ret
      exact ⟨rfl, HX.out.drewN _⟩
  · have t1 : (e1 != 0) = true := by simp; omega
    have t2 : (e1 != 8) = true := by simp; omega
    clear hc p3
    go_enter Try.func5, Try.ntmps5
    go_wp2_with (first | (go_at_call 10; refine (graphFact_any _).mono ?_; rintro e w0 ⟨rfl, hb0'⟩))
    refine (pathE_any n l A c a b _ (hG.below hb0')).mono ?_
    rw [H1.out]
    rintro e w1 ⟨v1, rfl, hrow1, hb1'⟩
    obtain ⟨A1, c1, rfl⟩ := hrow1.val
    go_wp2_with fail
    refine (pathE_any n l A c b a _ ((hG.below hb0').below hb1')).mono ?_
    rw [H2.out]
    rintro e w2 ⟨v2, rfl, hrow2, hb2'⟩
    simp only [← HL.out] at hrow2
    obtain ⟨A2, c2, rfl⟩ := hrow2.val
    have HX := Lib.hid ((Ext.trans (Ext.trans hb0' hb1') hb2' : Ext w w2))
    clear hrow1 hrow2
    go_wp2
    go_ret
    exact ⟨rfl, HX.out⟩
end Go.Proofs.Ytphiiflcpeploaa
