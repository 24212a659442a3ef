/- lin.Reduce. -/
import Derived.Test.YtenbglfkdldheaaGreatDoorOSB
import Derived.Test.YtenbglfkdldheaaGreatDoorOSO
set_option maxRecDepth 100000
set_option maxHeartbeats 40000000
namespace Go.Proofs.YtenbglfkdldheaaGreatDoor
open Go.RowKit
abbrev mQ : TypeId := 3
theorem aJi : (Tryz.prog.info? mQ).map (fun i => (i.zero, i.size, i.bytes)) = some (some (.int .i64 0), 1, 8) := by kernel_rfl
theorem pS (n : Nat) : ∀ u ∈ (Builtin.zeroCells (Value.int .i64 0).cells n).toList, noWord u := by
 intro u hu
 unfold Builtin.zeroCells at hu
 rw [Array.toList_map, List.mem_map] at hu
 obtain ⟨i, _, rfl⟩ := hu
 have h1 : (Value.int .i64 0).cells.size = 1 := rfl
 rw [h1, Nat.mod_one]
 intro n e
 cases e
theorem aAh (n : Int) : noWord (I n) := fun m e => by cases e
theorem yF {w : World} {ops : Array Oper} {rest : List Oper} {o : Oper} {a : Act} {Q : Exit → Act → World → Prop} (hgd : o.guard = none) (s x : Operand)
  (ho : o.op = .call { callee := .builtin .append, args := #[s, x], argTypes := #[31, 31] }) (base : Nat) (v : Value) (xs : List Value) (hsv : a.eval s = v) (hr : NRow w base mQ v xs)
  (g : Nat) (hx : a.eval x = .slice (some ⟨g, 0, none⟩) 1 1) {n : Int} (hB : Blk w g mQ #[I n]) (hl : xs.length ≤ 1000000) (hbase : base ≤ w.heap.size)
  (h : ∀ v' w', NApd w base mQ v (xs ++ [I n]) v' w' → wpList Tryz.prog ops Q rest (a.put o.dst v') w') : wpList Tryz.prog ops Q (o :: rest) a w := by
 refine wpList_plain hgd fun K hK => ?_
 obtain ⟨i, hi, hz0, hz1, hz2⟩ := info_parts aJi
 have hs : Reads w w.heap.size 1 (some ⟨g, 0, none⟩) 1 [I n] := ⟨rfl, fun _ => ⟨g, 0, rfl, hB.lt, fun j u hu => by
  rw [Nat.zero_add, hB.cell]
  simpa using hu⟩⟩
 obtain ⟨v', w', hrun, hap⟩ := mA (P := Tryz.prog) w base 31 o.type mQ i _ 8 Tryz.underlying31 hi hz0 hz1 hz2 rfl pS v xs hr w.heap.size (some ⟨g, 0, none⟩) 1 1 [I n] hs (fun u hu => by
  obtain rfl : u = I n := by simpa using hu
  exact ⟨aAh n, rfl⟩) (by unfold maxLen; omega) (by omega) hbase
 unfold Oper.wp execOp
 simp only [ho, resolve, invoke, builtin, Sem.run_bind, Sem.run_pure, Result.andThen_ok, List.map_toArray, List.map_cons, List.map_nil, hsv, hx, hrun]
 exact hK _ _ (h v' w' hap)
theorem Vq.put4 {w : World} {g b o : Nat} {u0 u1 u2 u3 : Value} {q : Rat} (h : Vq w g q) (hk : Kw w (Proofs.YtenbglfkdldheaaGreatDoor.put4 w b o u0 u1 u2 u3)) (hne : g ≠ b) : Vq (Proofs.YtenbglfkdldheaaGreatDoor.put4 w b o u0 u1 u2 u3) g q := by
 obtain ⟨nb, A, l, c, B, m, d, h1, h2⟩ := h
 exact ⟨nb, A, l, c, B, m, d, h1.keepB (cM w _ _ _ _ _ hne), h2.kw hk⟩
def ints (l : List Nat) : List Value := l.map fun p : Nat => I (p : Int)
theorem sE (l : List Nat) : (ints l).length = l.length := List.length_map _
theorem aEr (l : List Nat) (k : Nat) : ints (l ++ [k]) = ints l ++ [I k] := by simp [ints]
def aAi (w : World) (s : MQ × List Nat) (e : Ending) (w' : World) : Prop := ∃ v vs u, e = .returned (.tuple #[v, u]) ∧ LM w' w.heap.size v vs s.1 ∧ NRow w' w.heap.size mQ u (ints s.2) ∧ Below w.heap.size w w'
theorem LM.el {w : World} {base g off cap n wd : Nat} {vs : List Value} {m : MQ} (h : LM w base (.slice (some ⟨g, off, none⟩) n cap) vs m) (hr : Rect m n wd) {i k : Nat} (hi : i < n) (hk : k < wd) :
  ∃ b o c nb B1 l1 c1 B2 l2 c2, vs[i]? = some (.slice (some ⟨b, o, none⟩) wd c) ∧ w.cell? ⟨g, off + i, none⟩ = some (.slice (some ⟨b, o, none⟩) wd c) ∧
   El w b (o + k * 4) (.bool nb) (.slice B1 l1 c1) (.bool false) (.slice B2 l2 c2) ∧ Rt w (.agg #[.bool nb, .slice B1 l1 c1, .bool false, .slice B2 l2 c2]) (at2 m i k) ∧ g < w.heap.size ∧ b < w.heap.size := by
 have hl := dB hr hi
 obtain ⟨b, o, c, nb, B1, l1, c1, B2, l2, c2, h1, h2, h3, h4, h5, _, h6, _, h7, _⟩ := h.elem hr.1 hi (by rw [hl]; exact hk)
 rw [hl] at h1 h2
 exact ⟨b, o, c, nb, B1, l1, c1, B2, l2, c2, h1, h2, ⟨h3.c0, h3.c1, h3.c2, h3.c3, h5 _, h5 _, h5 _, h5 _⟩, h4, h6, h7⟩
theorem LM.ro {w : World} {base g off cap n wd : Nat} {vs : List Value} {m : MQ} (h : LM w base (.slice (some ⟨g, off, none⟩) n cap) vs m) (hr : Rect m n wd) {i : Nat} (hi : i < n) :
  ∃ B c, vs[i]? = some (.slice B wd c) ∧ w.cell? ⟨g, off + i, none⟩ = some (.slice B wd c) ∧ w.frozen? ⟨g, off + i, none⟩ = false ∧ g < w.heap.size ∧ base ≤ g := by
 obtain ⟨g', off', cap', B, c, e, h1, h2, h3, h4, h5, -⟩ := h.at_ (i := i) (by rw [hr.1]; exact hi)
 rw [hr.1] at e
 obtain ⟨rfl, rfl⟩ := mM e
 rw [dB hr hi] at h3 h4
 exact ⟨B, c, h3, h4, h5, h2, h1⟩
theorem LM.wr {w : World} {base g off cap n wd : Nat} {vs : List Value} {m : MQ} (h : LM w base (.slice (some ⟨g, off, none⟩) n cap) vs m) (hr : Rect m n wd) {i k b o c : Nat} (hi : i < n) (hu : vs[i]? = some (.slice (some ⟨b, o, none⟩) wd c)) (hk : k < wd)
  {u0 u1 u2 u3 : Value} {q : Rat} (hq : Rt w (.agg #[u0, u1, u2, u3]) q) {e : TypeId} {v : Value} {xs : List Value} {base2 : Nat} (hN : NRow w base2 e v xs) (he : e ≠ aJ) :
  LM (put4 w b (o + k * 4) u0 u1 u2 u3) base (.slice (some ⟨g, off, none⟩) n cap) vs (m.set i ((m.getD i []).set k q)) ∧ Kw w (put4 w b (o + k * 4) u0 u1 u2 u3) ∧ NRow (put4 w b (o + k * 4) u0 u1 u2 u3) base2 e v xs ∧ base ≤ b := by
 obtain ⟨h1, h2⟩ := h.putEl hr.1 hi hu hk hq
 have hmi : m[i]? = some (m.getD i []) := by rw [gD, gE (by rw [hr.1]; exact hi)]; rfl
 have hrow := h.inner i _ _ hu hmi
 obtain ⟨cur, hB⟩ := hrow.blk (g := b) rfl
 exact ⟨h1, h2, hN.put4 hB he _ _ _ _, (hrow.lt (g := b) rfl).1⟩
theorem aJj {m : MQ} {n w k rr i : Nat} {pr : List Rat} (h : Rect m n w) : Rect (elM k pr rr i m) n w := by
 refine ⟨by rw [aMk]; exact h.1, fun row hrow => ?_⟩
 unfold elM at hrow
 obtain ⟨a, ha, e⟩ := List.mem_mapIdx.1 hrow
 rw [← e]
 split
 ·unfold iC; rw [List.length_mapIdx]; exact h.2 _ (List.getElem_mem ha)
 ·exact h.2 _ (List.getElem_mem ha)
theorem aMr {m : MQ} {r k : Nat} (h : r < m.length) : (pvQ m r k).getD r [] = gL m r k := by
 unfold pvQ
 rw [cT m _ r [] [] h, if_pos rfl]
theorem sF {m : MQ} {n w i : Nat} {r : List Rat} (h : Rect m n w) (hr : r.length = w) : Rect (m.set i r) n w := by
 refine ⟨by rw [List.length_set]; exact h.1, fun x hx => ?_⟩
 rcases List.mem_or_eq_of_mem_set hx with h1 | h1
 ·exact h.2 x h1
 ·rw [h1]; exact hr
theorem eP {m : MQ} {i : Nat} {r : List Rat} (h : i < m.length) : (m.set i r).getD i [] = r := by rw [fB, if_pos ⟨rfl, h⟩]
theorem uM {m : MQ} {i j : Nat} {r : List Rat} (h : i ≠ j) : (m.set i r).getD j [] = m.getD j [] := by rw [fB, if_neg (fun k => h k.1)]
theorem aAj (m : MQ) (n wd cols : Nat) (A : Option Addr) (c : Nat) (w : World) (hm : RM w A n m) (hr : Rect m n wd) (hc : cols ≤ wd) (hn : n ≤ 1000) (hw : wd ≤ 1000) (hB : Bnd m n) :
  Calls Tryz.prog 153 #[.slice A n c, I cols] w (aAi w (bM m cols)) := by
 have HC := aH (aEq m n A c w hm (fun r h => by rw [hr.2 r h]; omega) (by omega))
 have HR := aH hr
 have HBN := aH hB
 clear hm hr hB
 go_enter Tryz.func153, Tryz.ntmps153
 go_wp2_with fail
 refine HC.out.mono ?_
 rintro e w1 ⟨v, vs, rfl, hLM, hb⟩
 clear HC
 obtain ⟨A1, c1, rfl⟩ := hLM.val
 rw [HR.out.1] at hLM ⊢
 have HL := aH (show ∃ vs, LM w1 w.heap.size (.slice A1 n c1) vs (bM m 0).1 from ⟨vs, hLM⟩)
 have HP := aH (show NRow w1 w.heap.size mQ (.slice none 0 0) (ints (bM m 0).2) from NRow.nil _ _ _)
 have HB := aH hb
 clear hLM hb
 go_wp2
 go_loopg [6, 7] (cols - 0) (fun mm u v wr => ∃ k : Nat, mm = cols - k ∧ v = I k ∧ k ≤ cols ∧ Hid (∃ vs, LM wr w.heap.size (.slice A1 n c1) vs (bM m k).1) ∧ Hid (NRow wr w.heap.size mQ u (ints (bM m k).2)) ∧ Hid (Below w.heap.size w wr))
 case atStart => exact ⟨0, rfl, rfl, by omega, HL, HP, HB⟩
 case round =>
  clear HL HP HB
  obtain ⟨k, rfl, rfl, hk, HL, HP, HB⟩ := hrel
  obtain ⟨wa, rfl⟩ := wE wr
  have HD := aH (fX HR.out k)
  obtain ⟨Au, cu, rfl⟩ := HP.out.val
  have hlen : (ints (bM m k).2).length = (bM m k).2.length := sE _
  have hfew : (bM m k).2.length ≤ n := HD.out.few
  have HP0 := HP.out
  rw [hlen] at HP0 ⊢
  have HP := aH HP0
  clear HP0 hlen
  have HN := aH (show (bM m (k + 1)) = pR (bM m k) k from rfl)
  generalize hS : bM m k = S at *
  have HSQ := aH hS
  clear hS
  by_cases hkc : k < cols
  ·skip
   by_cases hrn : S.2.length < n
   ·skip
    generalize hrl : S.2.length = r at *
    have HRL := aH hrl
    clear hrl
    have HRX := aH HD.out.rect
    have HF := aH (show ∀ i j, i < n → FitR 700000 (at2 S.1 i j) by rw [← HSQ.out]; exact HBN.out k)
    have hkw : k < wd := by omega
    obtain ⟨vs, hLM⟩ := HL.out
    obtain ⟨g, off, cap0, B0, cc0, e0, hgb, -⟩ := hLM.at_ (i := 0) (by rw [HRX.out.1]; omega)
    injection e0 with e1 e2 e3
    subst e1 e3
    clear e2
    replace HL := aH hLM
    clear hLM
    clear HD
    have HB2 := aH (Below.refl wa.heap.size wa)
    skip
    go_wp2
    go_loopg [9] (n - r) (fun mm v wr => ∃ p : Nat, mm = n - p ∧ v = I p ∧ r ≤ p ∧ p ≤ n ∧ Hid (nzAt k (S.1.drop r) r = nzAt k (S.1.drop p) p) ∧ Hid (Below wa.heap.size wa wr))
    case atStart => exact ⟨r, rfl, rfl, by omega, by omega, rfl, HB2⟩
    case round =>
     clear HB2
     obtain ⟨p, rfl, rfl, hrp, hpn, HZ, HB2⟩ := hrel
     obtain ⟨wb, rfl⟩ := wE wr
     by_cases hlt : p < n
     ·obtain ⟨b, o, c9, nb, B1, l1, c2, B2, l2, c3, hu, hc, hE, hrt, hgl, hbl⟩ := (HL.out.call HB2.out).el HRX.out hlt hkw
      have HC := aH (gU _ _ wb hrt)
      have e0 := hE.c0
      have e1 := hE.c1
      have e2 := hE.c2
      have e3 := hE.c3
      have HST := aH (aEp (k := k) (p := p) (A := S.1) (by rw [HRX.out.1]; exact hlt))
      clear hu hE hrt
      by_cases hz : at2 S.1 p k = 0
      ·have tz : ((at2 S.1 p k).num.sign == 0) = true := by rw [dP.2 hz]; rfl
       have HZN := aH (show nzAt k (S.1.drop r) r = nzAt k (S.1.drop (p + 1)) (p + 1) by rw [HZ.out, HST.out, if_pos hz])
       clear hz HST HZ
       go_wp2_with fail
       refine HC.out.mono ?_
       rintro e w5 ⟨rfl, hb⟩
       clear HC hc e0 e1 e2 e3
       replace HB2 := bT HB2 hb
       clear hb
       go_wp2
       go_roundg (n - (p + 1))
       case measure => omega
       case rel => exact ⟨p + 1, rfl, by go_num, by omega, by omega, HZN, HB2⟩
      ·have tz : ((at2 S.1 p k).num.sign == 0) = false := by
        refine beq_eq_false_iff_ne.2 fun e => hz (dP.1 e)
       have HPV := aH (show nzAt k (S.1.drop r) r = p by rw [HZ.out, HST.out, if_neg hz])
       have HNE := aH hz
       clear hz HST HZ
       go_wp2_with fail
       refine HC.out.mono ?_
       rintro e w5 ⟨rfl, hb⟩
       clear HC hc e0 e1 e2 e3
       replace HB2 := bT HB2 hb
       clear hb
       generalize (at2 S.1 p k).num.sign = sg at *
       have tpn : ((p : Int) == (n : Int)) = false := beq_eq_false_iff_ne.2 (by omega)
       have hd := aY w5
       have HBW := aH ((HB.out.trans (HB2.out.mono HB.out.size)).trans (hd.mono (HB.out.trans (HB2.out.mono HB.out.size)).size))
       have HL5 := aH ((HL.out.call HB2.out).call hd)
       have HP5 := aH ((HP.out.call HB2.out).call hd)
       clear HL HP HB HB2 hd
       have hrn2 : r < n := hrn
       obtain ⟨Br, cr, hur, hcr, hfr, hgl, hgb2⟩ := HL5.out.ro HRX.out hrn2
       obtain ⟨Bp, cp, hup, hcp, hfp, _, _⟩ := HL5.out.ro HRX.out hlt
       have HSW := aH (HL5.out.swap HRX.out.1 hrn2 hlt hur hup)
       obtain ⟨co, hBO⟩ := HL5.out.outerBlk (by rw [HRX.out.1]; omega)
       have HPS := aH ((HP5.out.setOuter (o := off + r) hBO (by decide) (.slice Bp wd cp)).setOuter (o := off + p) (hBO.set_ (off + r) (Value.slice Bp wd cp)) (by decide) (.slice Br wd cr))
       have HBS := aH ((HBW.out.setCell (p := ⟨g, off + r, none⟩) hgb2 (.slice Bp wd cp)).setCell (p := ⟨g, off + p, none⟩) hgb2 (.slice Br wd cr))
       have HC2 := aH (show (w5.drew.setCell ⟨g, off + r, none⟩ (.slice Bp wd cp)).cell? ⟨g, off + p, none⟩ = some (.slice Bp wd cp) by
        by_cases e : r = p
        ·subst e; exact World.cell?_setCell_same w5.drew _ _ hcr
        ·rw [World.cell?_setCell_other _ _ _ _ (by intro h2; injection h2 with _ h2; omega)]; exact hcp)
       have HF2 := aH (show (w5.drew.setCell ⟨g, off + r, none⟩ (.slice Bp wd cp)).frozen? ⟨g, off + p, none⟩ = false by simp; exact hfp)
       have CR := aH hcr
       have CP := aH hcp
       have FR := aH hfr
       clear HL5 HP5 HBW hur hup hBO hcr hcp hfr hfp
       have hrn3 : ¬ n ≤ r := by omega
       have hpn3 : ¬ n ≤ p := by omega
       go_upto_region 11 with (fail)
       clear tpn
       refine aI (fun w' => w'.cell? ⟨g, off + r, none⟩ = some (.slice Br wd cr) ∧ w'.cell? ⟨g, off + p, none⟩ = some (.slice Bp wd cp)) 13 (by kernel_rfl) ?_
       generalize w5.drew = W1 at *
       refine tkP 2 (.slice (some ⟨g, off, none⟩) n c1) rfl (Or.inl ⟨by rfl, ?_⟩) ⟨CR.out, CP.out⟩ ?_
       ·intro w _
        go_simp
       refine tkP 3 (I p) rfl (Or.inl ⟨by rfl, ?_⟩) ⟨CR.out, CP.out⟩ ?_
       ·intro w _
        go_simp
       refine aZ 0 (.slice (some ⟨g, off, none⟩) n c1) rfl ⟨CR.out, CP.out⟩ ?_
       refine aZ 1 (I r) rfl ⟨CR.out, CP.out⟩ ?_
       refine aZ 4 (.slice (some ⟨g, off, none⟩) n c1) rfl ⟨CR.out, CP.out⟩ ?_
       refine aZ 5 (I p) rfl ⟨CR.out, CP.out⟩ ?_
       refine aZ 6 (.pointer (some ⟨g, off + p, none⟩)) rfl ⟨CR.out, CP.out⟩ ?_
       refine aZ 7 (.slice Bp wd cp) rfl ⟨CR.out, CP.out⟩ ?_
       refine aZ 8 (.slice (some ⟨g, off, none⟩) n c1) rfl ⟨CR.out, CP.out⟩ ?_
       refine aZ 9 (I r) rfl ⟨CR.out, CP.out⟩ ?_
       refine aZ 10 (.pointer (some ⟨g, off + r, none⟩)) rfl ⟨CR.out, CP.out⟩ ?_
       refine aZ 11 (.slice Br wd cr) rfl ⟨CR.out, CP.out⟩ ?_
       refine aZ 12 (.pointer (some ⟨g, off + r, none⟩)) rfl ⟨CR.out, CP.out⟩ ?_
       have q0 := CR.out
       have q1 := FR.out
       refine on1 13 fun K hK => ?_
       go_simp
       refine hK.out _ _ (fun h => absurd h (by decide)) ?_
       clear hK K
       clear q0 q1
       generalize W1.setCell ⟨g, off + r, none⟩ (.slice Bp wd cp) = W2 at *
       refine on1 14 fun K hK => ?_
       go_simp
       refine hK.out _ _ (fun h => absurd h (by decide)) ?_
       clear hK K
       have q0 := HC2.out
       have q1 := HF2.out
       refine on1 15 fun K hK => ?_
       go_simp
       refine hK.out _ _ (fun h => absurd h (by decide)) ?_
       clear hK K
       clear q0 q1 HC2 HF2 CR CP FR
       generalize W2.setCell ⟨g, off + p, none⟩ (.slice Br wd cr) = W3 at *
       refine aE (by kernel_rfl) ?_ _
       have HM1 := aH (xY HRX.out hrn2 hlt)
       have HD1 := aH (show bM m (k + 1) = (pvQ (swQ S.1 r p) r k, S.2 ++ [k]) by rw [HN.out, pR, HRL.out, HPV.out, if_neg (by rw [HRX.out.1]; omega)])
       have HAT := aH (show ∀ i j, at2 (swQ S.1 r p) i j = at2 S.1 (tau r p i) j from fun i j => by unfold at2; rw [aAd (by rw [HRX.out.1]; exact hrn2) (by rw [HRX.out.1]; exact hlt)])
       have HFA := aH (show ∀ i j, i < n → FitR 700000 (at2 (swQ S.1 r p) i j) from fun i j hi => by rw [HAT.out]; exact HF.out _ _ (iN hrn2 hlt hi))
       have HFZ := aH (show ∀ i j, i < n → FitR 700000 (at2 (pvQ (swQ S.1 r p) r k) i j) from fun i j hi => by have h := HBN.out (k + 1) i j hi; rw [HD1.out] at h; exact h)
       have HNZ := aH (show at2 (swQ S.1 r p) r k ≠ 0 by rw [HAT.out, tau, if_pos rfl]; exact HNE.out)
       obtain ⟨hLM, _⟩ := HSW.out
       clear HSW HAT HNE HPV HN HF
       generalize swQ S.1 r p = M1 at *
       generalize (vs.set r (Value.slice Bp wd cp)).set p (Value.slice Br wd cr) = VS at *
       obtain ⟨b, o, c9, nb, E1, l1, c2, E2, l2, c3, hu, hc, hE, hrt, hgl, hbl⟩ := hLM.el HM1.out hrn2 hkw
       obtain ⟨hvd, hb⟩ := iM W3 (.bool nb) (.slice E1 l1 c2) (.bool false) (.slice E2 l2 c3)
       have e0 := hE.c0
       have e1 := hE.c1
       have e2 := hE.c2
       have e3 := hE.c3
       have HVB := aH (show ∀ (i b o l c : Nat), VS[i]? = some (Value.slice (some ⟨b, o, none⟩) l c) → b < W3.heap.size from fun i b o l c h => by
        have hi : i < M1.length := by have := (List.getElem?_eq_some_iff.1 h).1; have := hLM.len; omega
        exact ((hLM.inner i _ M1[i] h (gE hi)).lt rfl).2)
       have HVD := aH (show Vq _ W3.heap.size (at2 M1 r k) from ⟨_, _, _, _, _, _, _, hvd, hrt.ext hb⟩)
       have HL3 := aH (hLM.call hb)
       have HP3 := aH (HPS.out.call hb)
       have HB3 := aH (HBS.out.trans (hb.mono HBS.out.size))
       clear hLM hu hE hrt hvd hb HPS HBS
       have hR1 := dB HM1.out hrn2
       have HL3 := aH (show LM _ w.heap.size _ VS (M1.set r (scP k k (at2 M1 r k) (M1.getD r []))) by rw [aEm, lZ]; exact HL3.out)
       have HRK := aH (show (M1.getD r []).getD k 0 = at2 M1 r k from rfl)
       have HFD := aH (HFA.out r k hrn2)
       unfold aJ at *
       go_wp2
       generalize W3.alloc (.cells #[.bool nb, .slice E1 l1 c2, .bool false, .slice E2 l2 c3] 122) = W4 at *
       generalize W3.heap.size = gd at *
       clear hc e0 e1 e2 e3 hbl
       have HPVR := aH (show gL M1 r k = kS k (at2 M1 r k) (M1.getD r []) from rfl)
       generalize hd0 : at2 M1 r k = d at *
       generalize hr0 : M1.getD r [] = R1 at *
       have HDD := aH hd0
       have HR1 := aH hr0
       have HRL1 := aH hR1
       clear hd0 hr0 hR1
       go_loopg [11] (wd - k) (fun mm v wr => ∃ j : Nat, mm = wd - j ∧ v = I j ∧ k ≤ j ∧ j ≤ wd ∧ Hid (LM wr w.heap.size (.slice (some ⟨g, off, none⟩) n c1) VS (M1.set r (scP k j d R1))) ∧ Hid (NRow wr w.heap.size mQ (.slice Au r cu) (ints S.2)) ∧ Hid (Vq wr gd d) ∧ Hid (Below w.heap.size w wr))
       case atStart => exact ⟨k, rfl, rfl, by omega, by omega, HL3, HP3, HVD, HB3⟩
       case round =>
        clear HL3 HP3 HVD HB3
        obtain ⟨j, rfl, rfl, hkj, hjw, HL3, HP3, HVD, HB3⟩ := hrel
        obtain ⟨wb, rfl⟩ := wE wr
        have HRS := aH (sF (i := r) HM1.out (show (scP k j d R1).length = wd by rw [aCe, HRL1.out]))
        by_cases hjl : j < wd
        ·skip
         obtain ⟨b, o, c9, nb, E1, l1, c2, E2, l2, c3, hu, hc, hE, hrt, hgl, hbl⟩ := HL3.out.el HRS.out hrn2 hjl
         have HROW := aH (show (M1.set r (scP k j d R1)).getD r [] = scP k j d R1 from eP (by rw [HM1.out.1]; exact hrn2))
         have HVAL := aH (show at2 (M1.set r (scP k j d R1)) r j = R1.getD j 0 by unfold at2; rw [HROW.out, aOu _ _ _ _ _ lR])
         rw [HVAL.out] at hrt
         have HXX := aH (show (M1.set r (scP k j d R1)).set r (((M1.set r (scP k j d R1)).getD r []).set j (R1.getD j 0 / d)) = M1.set r (scP k (j + 1) d R1) by rw [HROW.out, aMg d R1 hkj (by rw [HRL1.out]; exact hjl), List.set_set])
         have HFX := aH (show FitR 700000 (R1.getD j 0) by have h := HFA.out r j hrn2; unfold at2 at h; rw [HR1.out] at h; exact h)
         have HU := aH hu
         have HBG := aH (HVB.out r b o wd c9 hu)
         have hd := aY wb
         obtain ⟨db, P1, p1, q1, P2, p2, q2, hvd, hds⟩ := HVD.out
         have CR := aH (aA hc hd)
         have EL := aH (hE.below hd)
         have RX := aH (hrt.ext hd)
         have VD := aH (hvd.below hd)
         have RD := aH (hds.ext hd)
         replace HL3 := aH (HL3.out.call hd)
         replace HP3 := aH (HP3.out.call hd)
         replace HVD := aH (HVD.out.below hd)
         replace HB3 := bT HB3 hd
         clear hu hE hrt hd hvd hds HVAL
         have hrn4 : ¬ n ≤ r := by omega
         have hjw4 : ¬ wd ≤ j := by omega
         go_upto_region 16 with (fail)
         clear hc hbl
         refine aI (fun w' => w'.cell? ⟨g, off + r, none⟩ = some (.slice (some ⟨b, o, none⟩) wd c9) ∧ w'.cell? ⟨b, o + j * 4, none⟩ = some (.bool nb) ∧ w'.cell? ⟨b, o + j * 4 + 1, none⟩ = some (.slice E1 l1 c2) ∧ w'.cell? ⟨b, o + j * 4 + 2, none⟩ = some (.bool false) ∧ w'.cell? ⟨b, o + j * 4 + 3, none⟩ = some (.slice E2 l2 c3) ∧ w'.cell? ⟨gd, 0, none⟩ = some (.bool db) ∧ w'.cell? ⟨gd, 1, none⟩ = some (.slice P1 p1 q1) ∧ w'.cell? ⟨gd, 2, none⟩ = some (.bool false) ∧ w'.cell? ⟨gd, 3, none⟩ = some (.slice P2 p2 q2)) 15 (by kernel_rfl) ?_
         generalize wb.drew = W1 at *
         refine tkS ⟨CR.out, EL.out.c0, EL.out.c1, EL.out.c2, EL.out.c3, VD.out.c0, VD.out.c1, VD.out.c2, VD.out.c3⟩ fun hSS => ?_
         refine aZ 0 (.slice (some ⟨g, off, none⟩) n c1) rfl hSS ?_
         refine aZ 1 (I r) rfl hSS ?_
         refine aZ 2 (.pointer (some ⟨g, off + r, none⟩)) rfl hSS ?_
         refine aZ 3 (.slice (some ⟨b, o, none⟩) wd c9) rfl hSS ?_
         refine aZ 4 (I j) rfl hSS ?_
         refine aZ 5 (.slice (some ⟨g, off, none⟩) n c1) rfl hSS ?_
         refine aZ 6 (I r) rfl hSS ?_
         refine aZ 7 (.pointer (some ⟨g, off + r, none⟩)) rfl hSS ?_
         refine aZ 8 (.slice (some ⟨b, o, none⟩) wd c9) rfl hSS ?_
         refine aZ 9 (I j) rfl hSS ?_
         refine aZ 10 (.pointer (some ⟨b, o + j * 4, none⟩)) rfl hSS ?_
         refine aZ 11 (.agg #[.bool nb, .slice E1 l1 c2, .bool false, .slice E2 l2 c3]) rfl hSS ?_
         refine aZ 12 (.agg #[.bool db, .slice P1 p1 q1, .bool false, .slice P2 p2 q2]) rfl hSS ?_
         refine on1 13 fun K hK => ?_
         go_simp
         go_at_call 192
         refine (aHl _ _ (R1.getD j 0) d _ RX.out RD.out (fun e => HNZ.out (Rat.num_eq_zero.1 e)) (N := 700000) (by decide) HFX.out HFD.out).mono ?_
         rintro e w6 ⟨v6, rfl, hv, hb⟩
         replace CR := aH (aA CR.out hb)
         replace EL := aH (EL.out.below hb)
         replace RX := aH (RX.out.ext hb)
         replace VD := aH (VD.out.below hb)
         replace RD := aH (RD.out.ext hb)
         replace HL3 := aH (HL3.out.call hb)
         replace HP3 := aH (HP3.out.call hb)
         replace HVD := aH (HVD.out.below hb)
         replace HB3 := bT HB3 hb
         clear hb
         refine hK.out _ _ (fun _ => ⟨CR.out, EL.out.c0, EL.out.c1, EL.out.c2, EL.out.c3, VD.out.c0, VD.out.c1, VD.out.c2, VD.out.c3⟩) ?_
         clear hK K
         refine aZ 14 (.pointer (some ⟨b, o + j * 4, none⟩)) rfl ⟨CR.out, EL.out.c0, EL.out.c1, EL.out.c2, EL.out.c3, VD.out.c0, VD.out.c1, VD.out.c2, VD.out.c3⟩ ?_
         obtain ⟨tb, T1, t1, u1, T2, t2, u2, rfl⟩ := hv.bools
         obtain ⟨hl, hkw2, hp, hbb⟩ := HL3.out.wr HRS.out hrn2 HU.out hjl hv HP3.out (by decide)
         rw [HXX.out] at hl
         have HLN := aH hl
         have HPN := aH hp
         have HVN := aH (HVD.out.put4 hkw2 (by have := HBG.out; omega))
         have HBN3 := aH (cN (o := o + j * 4) HB3.out hbb (.bool tb) (.slice T1 t1 u1) (.bool false) (.slice T2 t2 u2))
         clear hl hp hkw2 hbb
         unfold put4 at HLN HPN HVN HBN3
         have z0 := EL.out.c0
         have y0 := EL.out.f0
         have z1 := EL.out.c1
         have y1 := EL.out.f1
         have z2 := EL.out.c2
         have y2 := EL.out.f2
         have z3 := EL.out.c3
         have y3 := EL.out.f3
         clear CR EL RX VD RD HL3 HP3 HVD HB3
         clear hv HXX HU HFX HROW HRS
         refine on1 15 fun K hK => ?_
         go_simp
         refine hK.out _ _ (fun h => absurd h (by decide)) ?_
         clear hK K z0 z1 z2 z3 y0 y1 y2 y3
         refine aE (by kernel_rfl) ?_ _
         go_wp2
         go_roundg (wd - (j + 1))
         case measure => omega
         case rel => exact ⟨j + 1, rfl, by go_num, by omega, by omega, HLN, HPN, HVN, HBN3⟩
        ·have hjj : wd = j := by omega
         subst hjj
         obtain ⟨Bq, cq, _, hcq, _, hglq, _⟩ := HL3.out.ro HRS.out hrn2
         have hrn4 : ¬ n ≤ r := by omega
         obtain ⟨PR, hPR⟩ : ∃ PR, gL M1 r k = PR := ⟨_, rfl⟩
         have HPR := aH hPR
         have hsc : scP k wd d R1 = PR := by rw [← hPR, HPVR.out, ← aMf, HRL1.out]
         rw [hsc] at HL3
         have HPL := aH (show PR.length = wd by rw [← hsc, aCe, HRL1.out])
         have HFP := aH (show ∀ a, FitR 700000 (PR.getD a 0) from fun a => by have h := HFZ.out r a hrn2; unfold at2 at h; rw [aMr (by rw [HM1.out.1]; exact hrn2), HPR.out] at h; exact h)
         have HM2 := aH (sF (i := r) HM1.out HPL.out)
         have HM2R := aH (show (M1.set r PR).getD r [] = PR from eP (by rw [HM1.out.1]; exact hrn2))
         have HM2N := aH (show ∀ a, a ≠ r → (M1.set r PR).getD a [] = M1.getD a [] from fun a ha => uM (Ne.symm ha))
         have HFIN := aH (show elM k PR r n (M1.set r PR) = pvQ M1 r k by rw [← HPR.out]; have h := aMm (k := k) (rr := r) M1 (by rw [HM1.out.1]; exact hrn2); rw [HM1.out.1] at h; exact h)
         have HSZ := aH (show gd ≤ wb.heap.size by obtain ⟨_, _, _, _, _, _, _, hv, _⟩ := HVD.out; exact Nat.le_of_lt hv.lt)
         clear hPR hsc HRS HVD HRK HFD HNZ HPVR HDD HR1 HRL1 HFZ hjl hjw hkj
         generalize M1.set r PR = M2 at *
         have HL4 := aH (show LM wb w.heap.size (.slice (some ⟨g, off, none⟩) n c1) VS (elM k PR r 0 M2) by rw [aEo]; exact HL3.out)
         clear HL3
         go_wp2
         clear hcq hglq hrn4
         go_loopg [101] (n - 0) (fun mm v wr => ∃ i : Nat, mm = n - i ∧ v = I i ∧ i ≤ n ∧ Hid (LM wr w.heap.size (.slice (some ⟨g, off, none⟩) n c1) VS (elM k PR r i M2)) ∧ Hid (NRow wr w.heap.size mQ (.slice Au r cu) (ints S.2)) ∧ Hid (Below w.heap.size w wr) ∧ Hid (gd ≤ wr.heap.size))
         case atStart => exact ⟨0, rfl, rfl, by omega, HL4, HP3, HB3, HSZ⟩
         case round =>
          clear HL4 HP3 HB3 HSZ
          obtain ⟨i, rfl, rfl, hi, HL4, HP3, HB3, HSZ⟩ := hrel
          obtain ⟨wc, rfl⟩ := wE wr
          have HRE := aH (aJj (k := k) (rr := r) (i := i) (pr := PR) HM2.out)
          by_cases hin : i < n
          ·skip
           by_cases hir : i = r
           ·have ti : ((i : Int) == (r : Int)) = true := by rw [hir]; exact beq_self_eq_true _
            have HEQ := aH (show elM k PR r (i + 1) M2 = elM k PR r i M2 from yC PR M2 (.inl hir))
            clear hir HRE
            have HLN := aH (show LM wc w.heap.size (.slice (some ⟨g, off, none⟩) n c1) VS (elM k PR r (i + 1) M2) by rw [HEQ.out]; exact HL4.out)
            clear HL4 HEQ
            go_wp2
            go_roundg (n - (i + 1))
            case measure => omega
            case rel => exact ⟨i + 1, rfl, by go_num, by omega, HLN, HP3, HB3, HSZ⟩
           ·have ti : ((i : Int) == (r : Int)) = false := beq_eq_false_iff_ne.2 (by omega)
            have HROI := aH (show (elM k PR r i M2).getD i [] = M1.getD i [] by rw [aCf k PR r i M2 i (.inl lR), HM2N.out i hir])
            have HROR := aH (show (elM k PR r i M2).getD r [] = PR by rw [aCf k PR r i M2 r (.inr rfl), HM2R.out])
            have HLI := aH (dB HM1.out hin)
            have HIR := aH hir
            have HFI := aH (show ∀ a, FitR 700000 ((M1.getD i []).getD a 0) from fun a => HFA.out i a hin)
            have HNX := aH (show elM k PR r (i + 1) M2 = (elM k PR r i M2).set i (iC k PR (M1.getD i [])) by rw [← HM2N.out i hir, aMl PR M2 (by rw [HM2.out.1]; exact hin) hir])
            have HSK := aH (show (M1.getD i []).getD k 0 = 0 → elM k PR r (i + 1) M2 = elM k PR r i M2 from fun h => yC PR M2 (.inr (by rw [HM2N.out i hir]; exact h)))
            generalize M1.getD i [] = RI at *
            obtain ⟨b, o, c9, nb, E1, l1, c2, E2, l2, c3, hu, hc, hE, hrt, hgl, hbl⟩ := HL4.out.el HRE.out hin hkw
            have hval : at2 (elM k PR r i M2) i k = RI.getD k 0 := by unfold at2; rw [HROI.out]
            rw [hval] at hrt
            obtain ⟨x0, hx0⟩ : ∃ x, RI.getD k 0 = x := ⟨_, rfl⟩
            rw [hx0] at hrt HSK
            have HX0 := aH hx0
            have HFX0 := aH (show FitR 700000 x0 by rw [← hx0]; exact HFI.out k)
            have HC := aH (gU _ _ wc hrt)
            have e0 := hE.c0
            have e1 := hE.c1
            have e2 := hE.c2
            have e3 := hE.c3
            have CR := aH hc
            have EL := aH hE
            have RX := aH hrt
            clear hval hx0 hu hE hrt
            go_wp2_with fail
            refine HC.out.mono ?_
            rintro e w5 ⟨rfl, hb⟩
            clear HC hc e0 e1 e2 e3 hbl hgl
            replace HSZ := aH (Nat.le_trans HSZ.out hb.size)
            replace CR := aH (aA CR.out hb)
            replace EL := aH (EL.out.below hb)
            replace RX := aH (RX.out.ext hb)
            replace HL4 := aH (HL4.out.call hb)
            replace HP3 := aH (HP3.out.call hb)
            replace HB3 := bT HB3 hb
            clear hb
            by_cases hz : x0 = 0
            ·have tz : (x0.num.sign == 0) = true := by rw [dP.2 hz]; rfl
             have HLN := aH (show LM w5 w.heap.size (.slice (some ⟨g, off, none⟩) n c1) VS (elM k PR r (i + 1) M2) by rw [HSK.out hz]; exact HL4.out)
             generalize x0.num.sign = sg at *
             clear hz HL4 CR EL RX HSK HNX
             go_wp2
             go_roundg (n - (i + 1))
             case measure => omega
             case rel => exact ⟨i + 1, rfl, by go_num, by omega, HLN, HP3, HB3, HSZ⟩
            ·have tz : (x0.num.sign == 0) = false := beq_eq_false_iff_ne.2 fun e => hz (dP.1 e)
             generalize x0.num.sign = sg at *
             clear hz HSK
             obtain ⟨hvf, hb⟩ := iM w5 (.bool nb) (.slice E1 l1 c2) (.bool false) (.slice E2 l2 c3)
             have hc := CR.out
             have e0 := EL.out.c0
             have e1 := EL.out.c1
             have e2 := EL.out.c2
             have e3 := EL.out.c3
             have hgl := World.block_lt_of_cell? w5 ⟨g, off + i, none⟩ hc
             have hbl := World.block_lt_of_cell? w5 ⟨b, o + k * 4, none⟩ e0
             have HVF := aH (show Vq _ w5.heap.size x0 from ⟨_, _, _, _, _, _, _, hvf, RX.out.ext hb⟩)
             have HGF := aH HSZ.out
             clear CR EL RX
             replace HSZ := aH (Nat.le_trans HSZ.out hb.size)
             replace HL4 := aH (HL4.out.call hb)
             replace HP3 := aH (HP3.out.call hb)
             replace HB3 := bT HB3 hb
             clear hb
             clear hvf
             have HL5 := aH (show LM _ w.heap.size (.slice (some ⟨g, off, none⟩) n c1) VS ((elM k PR r i M2).set i (elP k k x0 PR RI)) by rw [aEn, ← HROI.out, lZ]; exact HL4.out)
             clear HL4
             unfold aJ at *
             go_wp2
             generalize w5.alloc (.cells #[.bool nb, .slice E1 l1 c2, .bool false, .slice E2 l2 c3] 122) = W4 at *
             generalize w5.heap.size = gf at *
             clear hc e0 e1 e2 e3 hgl hbl
             go_loopg [14] (wd - k) (fun mm v wr => ∃ j : Nat, mm = wd - j ∧ v = I j ∧ k ≤ j ∧ j ≤ wd ∧ Hid (LM wr w.heap.size (.slice (some ⟨g, off, none⟩) n c1) VS ((elM k PR r i M2).set i (elP k j x0 PR RI))) ∧ Hid (NRow wr w.heap.size mQ (.slice Au r cu) (ints S.2)) ∧ Hid (Vq wr gf x0) ∧ Hid (Below w.heap.size w wr) ∧ Hid (gd ≤ wr.heap.size))
             case atStart => exact ⟨k, rfl, rfl, by omega, by omega, HL5, HP3, HVF, HB3, HSZ⟩
             case round =>
              clear HL5 HP3 HVF HB3 HSZ
              obtain ⟨j, rfl, rfl, hkj, hjw, HL5, HP3, HVF, HB3, HSZ⟩ := hrel
              obtain ⟨we, rfl⟩ := wE wr
              have HRS := aH (sF (i := i) HRE.out (show (elP k j x0 PR RI).length = wd by rw [aMh, HLI.out]))
              by_cases hjl : j < wd
              ·obtain ⟨b, o, c9, nb, E1, l1, c2, E2, l2, c3, hu, hc, hE, hrt, hgl, hbl⟩ := HL5.out.el HRS.out hin hjl
               obtain ⟨b2, o2, c8, mb, G1, m1, d2, G2, m2, d3, hu2, hc2, hE2, hrt2, _, hbl2⟩ := HL5.out.el HRS.out hrn2 hjl
               have HRI2 := aH (show ((elM k PR r i M2).set i (elP k j x0 PR RI)).getD i [] = elP k j x0 PR RI from eP (by rw [HRE.out.1]; exact hin))
               have hv1 : at2 ((elM k PR r i M2).set i (elP k j x0 PR RI)) i j = RI.getD j 0 := by unfold at2; rw [HRI2.out, aOv _ _ _ _ _ _ lR]
               have hv2 : at2 ((elM k PR r i M2).set i (elP k j x0 PR RI)) r j = PR.getD j 0 := by unfold at2; rw [uM HIR.out, HROR.out]
               rw [hv1] at hrt
               rw [hv2] at hrt2
               have HXX := aH (show ((elM k PR r i M2).set i (elP k j x0 PR RI)).set i ((((elM k PR r i M2).set i (elP k j x0 PR RI)).getD i []).set j (RI.getD j 0 - x0 * PR.getD j 0)) = (elM k PR r i M2).set i (elP k (j + 1) x0 PR RI) by rw [HRI2.out, aMj x0 PR RI hkj (by rw [HLI.out]; exact hjl), List.set_set])
               have HSKJ := aH (show PR.getD j 0 = 0 → elP k (j + 1) x0 PR RI = elP k j x0 PR RI from fun h => aJe x0 PR RI h)
               have HU := aH hu
               have HBG := aH (HVB.out i b o wd c9 hu)
               have HFXJ := aH (HFI.out j)
               have HFPJ := aH (HFP.out j)
               have HC := aH (gU _ _ we hrt2)
               have e0 := hE2.c0
               have e1 := hE2.c1
               have e2 := hE2.c2
               have e3 := hE2.c3
               have CI := aH hc
               have EI := aH hE
               have RI_ := aH hrt
               have CR := aH hc2
               have ER := aH hE2
               have RR := aH hrt2
               clear hv1 hv2 hu hu2 hE hE2 hrt hrt2
               have hrn4 : ¬ n ≤ r := by omega
               have hjw4 : ¬ wd ≤ j := by omega
               have hin4 : ¬ n ≤ i := by omega
               go_wp2_with fail
               refine HC.out.mono ?_
               rintro e w6 ⟨rfl, hb⟩
               clear HC hc hc2 e0 e1 e2 e3 hbl hbl2 hgl
               replace HSZ := aH (Nat.le_trans HSZ.out hb.size)
               replace CI := aH (aA CI.out hb)
               replace EI := aH (EI.out.below hb)
               replace RI_ := aH (RI_.out.ext hb)
               replace CR := aH (aA CR.out hb)
               replace ER := aH (ER.out.below hb)
               replace RR := aH (RR.out.ext hb)
               replace HL5 := aH (HL5.out.call hb)
               replace HP3 := aH (HP3.out.call hb)
               replace HVF := aH (HVF.out.below hb)
               replace HB3 := bT HB3 hb
               clear hb
               by_cases hz : PR.getD j 0 = 0
               ·have tz : ((PR.getD j 0).num.sign != 0) = false := by rw [dP.2 hz]; rfl
                have HLN := aH (show LM w6 w.heap.size (.slice (some ⟨g, off, none⟩) n c1) VS ((elM k PR r i M2).set i (elP k (j + 1) x0 PR RI)) by rw [HSKJ.out hz]; exact HL5.out)
                generalize (PR.getD j 0).num.sign = sg2 at *
                clear hz HL5 CI EI RI_ CR ER RR HSKJ HXX HRS HRI2
                go_wp2
                go_roundg (wd - (j + 1))
                case measure => omega
                case rel => exact ⟨j + 1, rfl, by go_num, by omega, by omega, HLN, HP3, HVF, HB3, HSZ⟩
               ·have tz : ((PR.getD j 0).num.sign != 0) = true := by
                 refine bne_iff_ne.2 fun e => hz (dP.1 e)
                generalize (PR.getD j 0).num.sign = sg2 at *
                clear hz HSKJ
                have hd := aY w6
                obtain ⟨fb, P1, p1, q1, P2, p2, q2, hvf, hfs⟩ := HVF.out
                have VF := aH hvf
                have RF := aH hfs
                clear hvf hfs
                replace HSZ := aH (Nat.le_trans HSZ.out hd.size)
                replace CI := aH (aA CI.out hd)
                replace EI := aH (EI.out.below hd)
                replace RI_ := aH (RI_.out.ext hd)
                replace CR := aH (aA CR.out hd)
                replace ER := aH (ER.out.below hd)
                replace RR := aH (RR.out.ext hd)
                replace HL5 := aH (HL5.out.call hd)
                replace HP3 := aH (HP3.out.call hd)
                replace HVF := aH (HVF.out.below hd)
                replace HB3 := bT HB3 hd
                replace VF := aH (VF.out.below hd)
                replace RF := aH (RF.out.ext hd)
                clear hd
                go_upto_region 26 with (fail)
                refine aI (fun w' => w'.cell? ⟨g, off + i, none⟩ = some (.slice (some ⟨b, o, none⟩) wd c9) ∧ w'.cell? ⟨b, o + j * 4, none⟩ = some (.bool nb) ∧ w'.cell? ⟨b, o + j * 4 + 1, none⟩ = some (.slice E1 l1 c2) ∧ w'.cell? ⟨b, o + j * 4 + 2, none⟩ = some (.bool false) ∧ w'.cell? ⟨b, o + j * 4 + 3, none⟩ = some (.slice E2 l2 c3) ∧ w'.cell? ⟨g, off + r, none⟩ = some (.slice (some ⟨b2, o2, none⟩) wd c8) ∧ w'.cell? ⟨b2, o2 + j * 4, none⟩ = some (.bool mb) ∧ w'.cell? ⟨b2, o2 + j * 4 + 1, none⟩ = some (.slice G1 m1 d2) ∧ w'.cell? ⟨b2, o2 + j * 4 + 2, none⟩ = some (.bool false) ∧ w'.cell? ⟨b2, o2 + j * 4 + 3, none⟩ = some (.slice G2 m2 d3) ∧ w'.cell? ⟨gf, 0, none⟩ = some (.bool fb) ∧ w'.cell? ⟨gf, 1, none⟩ = some (.slice P1 p1 q1) ∧ w'.cell? ⟨gf, 2, none⟩ = some (.bool false) ∧ w'.cell? ⟨gf, 3, none⟩ = some (.slice P2 p2 q2)) 23 (by kernel_rfl) ?_
                generalize w6.drew = W1 at *
                refine tkS ⟨CI.out, EI.out.c0, EI.out.c1, EI.out.c2, EI.out.c3, CR.out, ER.out.c0, ER.out.c1, ER.out.c2, ER.out.c3, VF.out.c0, VF.out.c1, VF.out.c2, VF.out.c3⟩ fun hSS => ?_
                refine aZ 0 (.slice (some ⟨g, off, none⟩) n c1) rfl hSS ?_
                refine aZ 1 (I i) rfl hSS ?_
                refine aZ 2 (.pointer (some ⟨g, off + i, none⟩)) rfl hSS ?_
                refine aZ 3 (.slice (some ⟨b, o, none⟩) wd c9) rfl hSS ?_
                refine aZ 4 (I j) rfl hSS ?_
                refine aZ 5 (.slice (some ⟨g, off, none⟩) n c1) rfl hSS ?_
                refine aZ 6 (I i) rfl hSS ?_
                refine aZ 7 (.pointer (some ⟨g, off + i, none⟩)) rfl hSS ?_
                refine aZ 8 (.slice (some ⟨b, o, none⟩) wd c9) rfl hSS ?_
                refine aZ 9 (I j) rfl hSS ?_
                refine aZ 10 (.pointer (some ⟨b, o + j * 4, none⟩)) rfl hSS ?_
                refine aZ 11 (.agg #[.bool nb, .slice E1 l1 c2, .bool false, .slice E2 l2 c3]) rfl hSS ?_
                refine aZ 12 (.agg #[.bool fb, .slice P1 p1 q1, .bool false, .slice P2 p2 q2]) rfl hSS ?_
                refine aZ 13 (.slice (some ⟨g, off, none⟩) n c1) rfl hSS ?_
                refine aZ 14 (I r) rfl hSS ?_
                refine aZ 15 (.pointer (some ⟨g, off + r, none⟩)) rfl hSS ?_
                refine aZ 16 (.slice (some ⟨b2, o2, none⟩) wd c8) rfl hSS ?_
                refine aZ 17 (I j) rfl hSS ?_
                refine aZ 18 (.pointer (some ⟨b2, o2 + j * 4, none⟩)) rfl hSS ?_
                refine aZ 19 (.agg #[.bool mb, .slice G1 m1 d2, .bool false, .slice G2 m2 d3]) rfl hSS ?_
                refine on1 20 fun K hK => ?_
                go_simp
                go_at_call 109
                refine (nI _ _ x0 (PR.getD j 0) _ RF.out RR.out (N := 700000) (by decide) HFX0.out HFPJ.out).mono ?_
                rintro e w7 ⟨v7, rfl, hv, hb⟩
                replace HSZ := aH (Nat.le_trans HSZ.out hb.size)
                replace CI := aH (aA CI.out hb)
                replace EI := aH (EI.out.below hb)
                replace RI_ := aH (RI_.out.ext hb)
                replace CR := aH (aA CR.out hb)
                replace ER := aH (ER.out.below hb)
                replace RR := aH (RR.out.ext hb)
                replace HL5 := aH (HL5.out.call hb)
                replace HP3 := aH (HP3.out.call hb)
                replace HVF := aH (HVF.out.below hb)
                replace HB3 := bT HB3 hb
                replace VF := aH (VF.out.below hb)
                replace RF := aH (RF.out.ext hb)
                clear hb
                refine hK.out _ _ (fun _ => ⟨CI.out, EI.out.c0, EI.out.c1, EI.out.c2, EI.out.c3, CR.out, ER.out.c0, ER.out.c1, ER.out.c2, ER.out.c3, VF.out.c0, VF.out.c1, VF.out.c2, VF.out.c3⟩) ?_
                clear hK K
                have RM7 := aH (hv)
                clear hv
                refine on1 21 fun K hK => ?_
                go_simp
                go_at_call 111
                refine (kN _ _ (RI.getD j 0) (x0 * PR.getD j 0) _ RI_.out RM7.out (N := 1400000) (Nat.le_of_ble_eq_true rfl) (HFXJ.out.mono (Nat.le_of_ble_eq_true rfl)) ((iZ HFX0.out HFPJ.out).mono (Nat.le_of_ble_eq_true rfl))).mono ?_
                rintro e w8 ⟨v8, rfl, hv, hb⟩
                replace HSZ := aH (Nat.le_trans HSZ.out hb.size)
                replace CI := aH (aA CI.out hb)
                replace EI := aH (EI.out.below hb)
                replace RI_ := aH (RI_.out.ext hb)
                replace CR := aH (aA CR.out hb)
                replace ER := aH (ER.out.below hb)
                replace RR := aH (RR.out.ext hb)
                replace HL5 := aH (HL5.out.call hb)
                replace HP3 := aH (HP3.out.call hb)
                replace HVF := aH (HVF.out.below hb)
                replace HB3 := bT HB3 hb
                replace VF := aH (VF.out.below hb)
                replace RF := aH (RF.out.ext hb)
                replace RM7 := aH (RM7.out.ext hb)
                clear hb
                refine hK.out _ _ (fun _ => ⟨CI.out, EI.out.c0, EI.out.c1, EI.out.c2, EI.out.c3, CR.out, ER.out.c0, ER.out.c1, ER.out.c2, ER.out.c3, VF.out.c0, VF.out.c1, VF.out.c2, VF.out.c3⟩) ?_
                clear hK K
                refine aZ 22 (.pointer (some ⟨b, o + j * 4, none⟩)) rfl ⟨CI.out, EI.out.c0, EI.out.c1, EI.out.c2, EI.out.c3, CR.out, ER.out.c0, ER.out.c1, ER.out.c2, ER.out.c3, VF.out.c0, VF.out.c1, VF.out.c2, VF.out.c3⟩ ?_
                obtain ⟨tb, T1, t1, u1, T2, t2, u2, rfl⟩ := hv.bools
                obtain ⟨hl, hkw2, hp, hbb⟩ := HL5.out.wr HRS.out hin HU.out hjl hv HP3.out (by decide)
                rw [HXX.out] at hl
                have HLN := aH hl
                have HPN := aH hp
                have HVN := aH (HVF.out.put4 hkw2 (by have := HBG.out; have := HGF.out; omega))
                have HBN3 := aH (cN (o := o + j * 4) HB3.out hbb (.bool tb) (.slice T1 t1 u1) (.bool false) (.slice T2 t2 u2))
                have HSN := aH (show gd ≤ (put4 w8 b (o + j * 4) (.bool tb) (.slice T1 t1 u1) (.bool false) (.slice T2 t2 u2)).heap.size by rw [gT]; exact HSZ.out)
                clear hl hp hkw2 hbb
                unfold put4 at HLN HPN HVN HBN3 HSN
                have z0 := EI.out.c0
                have y0 := EI.out.f0
                have z1 := EI.out.c1
                have y1 := EI.out.f1
                have z2 := EI.out.c2
                have y2 := EI.out.f2
                have z3 := EI.out.c3
                have y3 := EI.out.f3
                clear CI EI RI_ CR ER RR HL5 HP3 HVF HB3 VF RF RM7
                clear hv HXX HU HFXJ HFPJ HRS HRI2 HSZ
                refine on1 23 fun K hK => ?_
                go_simp
                refine hK.out _ _ (fun h => absurd h (by decide)) ?_
                clear hK K z0 z1 z2 z3 y0 y1 y2 y3
                refine aE (by kernel_rfl) ?_ _
                go_wp2
                go_roundg (wd - (j + 1))
                case measure => omega
                case rel => exact ⟨j + 1, rfl, by go_num, by omega, by omega, HLN, HPN, HVN, HBN3, HSN⟩
              ·have hjj : wd = j := by omega
               subst hjj
               obtain ⟨Bi, ci, _, hc, _, hgl, _⟩ := HL5.out.ro HRS.out hin
               have HLN := aH (show LM we w.heap.size (.slice (some ⟨g, off, none⟩) n c1) VS (elM k PR r (i + 1) M2) by
                rw [HNX.out, ← aMi, HX0.out, HLI.out]
                exact HL5.out)
               have hin4 : ¬ n ≤ i := by omega
               clear HL5 HVF HRS
               go_wp2
               go_roundg (n - (i + 1))
               case measure => omega
               case rel => exact ⟨i + 1, rfl, by go_num, by omega, HLN, HP3, HB3, HSZ⟩
          ·have hni : n = i := by omega
           subst hni
           rw [HFIN.out] at HL4
           clear HFIN HRE HFP HPL HM2 HM2R HM2N HVB HFA hrn3 hpn3
           have hb := aD wc (.cells #[I k] mQ)
           have HBK := aH (Blk.new wc mQ #[I k])
           have HLA := aH (HL4.out.call hb)
           have HPA := aH (HP3.out.call hb)
           have HBA := aH (HB3.out.trans (hb.mono HB3.out.size))
           clear hb HL4 HP3 HB3
           have hil : (ints S.2).length ≤ 1000000 := by rw [sE, HRL.out]; omega
           unfold mQ at *
           go_wp2_with (at_builtin; refine yF rfl _ _ rfl w.heap.size (.slice Au r cu) (ints S.2) rfl HPA.out wc.heap.size rfl HBK.out hil HBA.out.size ?_)
           intro v7 w7 hap
           have HLN := aH (show ∃ vs, LM w7 w.heap.size (.slice (some ⟨g, off, none⟩) n c1) vs (bM m (k + 1)).1 from ⟨VS, by rw [HD1.out]; exact HLA.out.beside HPA.out hap (by decide) (by decide)⟩)
           have HPN := aH (show NRow w7 w.heap.size 3 v7 (ints (bM m (k + 1)).2) by rw [HD1.out, aEr]; exact hap.row)
           have HBN2 := aH (show Below w.heap.size w w7 from HBA.out.trans (HPA.out.row.belowG hap.grown HBA.out.size))
           obtain ⟨Av, cv, rfl⟩ := hap.row.val
           generalize (ints S.2 ++ [I k]).length = lv at *
           clear hap HLA HPA HBA HBK hil HD1
           go_wp2
           go_roundg (cols - (k + 1))
           case measure => omega
           case rel => exact ⟨k + 1, rfl, by go_num, by omega, HLN, HPN, HBN2⟩
     ·have hpn2 : p = n := by omega
      subst hpn2
      have HPV := aH (show bM m (k + 1) = S by
       rw [HN.out, pR, if_pos]
       have h1 := HZ.out
       have h2 := HRX.out.1
       rw [HRL.out, h1, ← h2, aJf]
       exact Nat.le_refl _)
      have HLN := aH (show ∃ vs, LM wb w.heap.size (.slice (some ⟨g, off, none⟩) p c1) vs (bM m (k + 1)).1 from ⟨vs, by rw [HPV.out]; exact HL.out.call HB2.out⟩)
      have HPN := aH (show NRow wb w.heap.size mQ (.slice Au r cu) (ints (bM m (k + 1)).2) by rw [HPV.out]; exact HP.out.call HB2.out)
      have HBN2 := aH (HB.out.trans (HB2.out.mono HB.out.size))
      clear HL HP HB HB2 HZ HPV HN HSQ
      go_wp2
      go_roundg (cols - (k + 1))
      case measure => omega
      case rel => exact ⟨k + 1, rfl, by go_num, by omega, HLN, HPN, HBN2⟩
   ·have hfull : S.2.length = n := by omega
    have HQ := aH (show bM m cols = S by
     have h := uK HR.out (k := k) (by rw [HSQ.out]; exact hfull) (cols - k)
     rw [show k + (cols - k) = cols by omega, HSQ.out] at h
     exact h)
    have tl : decide (S.2.length < n) = false := decide_eq_false hrn
    have HE := aH (show aAi w (bM m cols) (.returned (.tuple #[.slice A1 n c1, .slice Au S.2.length cu])) wa by
     rw [HQ.out]
     obtain ⟨vs, h⟩ := HL.out
     exact ⟨_, vs, _, rfl, h, HP.out, HB.out⟩)
    generalize S.2.length = ln at *
    clear HL HP HB HD HN HSQ HQ hfew hrn hfull
    go_wp2
    go_ret2
    exact HE.out
  ·have hkk : k = cols := by omega
   subst hkk
   have HE := aH (show aAi w (bM m k) (.returned (.tuple #[.slice A1 n c1, .slice Au S.2.length cu])) wa by
    rw [HSQ.out]
    obtain ⟨vs, h⟩ := HL.out
    exact ⟨_, vs, _, rfl, h, HP.out, HB.out⟩)
   generalize S.2.length = ln at *
   clear HL HP HB HD HN HSQ hfew
   go_wp2
   go_ret2
   exact HE.out
end Go.Proofs.YtenbglfkdldheaaGreatDoor
