/- The walk of MatrixRing. MatrixRing returns true for every input: multiplication of matrices is associative and distributive. No conditions. The row's listed variables hold what the program's text lays (the card ties them). -/
import Derived.Test.YtmnedfkinepnfaaGreatDoorJY
import Derived.Test.YtmnedfkinepnfaaGreatDoorCards
import Derived.Test.YtmnedfkinepnfaaGreatDoorTie
import Derived.Test.YtmnedfkinepnfaaGreatDoorJZ
import Derived.ShutString
import Derived.ChangeMaps5
namespace Go.Proofs.YtmnedfkinepnfaaGreatDoor
open Go.RowKit

set_option maxRecDepth 100000 in
set_option maxHeartbeats 16000000 in
theorem matrixRing_any (a : List (List ByteArray)) (na : Nat) (Aa : Option Addr) (ca : Nat) (b : List (List ByteArray)) (nb : Nat) (Ab : Option Addr) (cb : Nat) (c : List (List ByteArray)) (nc : Nat) (Ac : Option Addr) (cc : Nat) (w : World) (ha : SMat w Aa na a) (sa : Sh2 a) (hb : SMat w Ab nb b) (sb : Sh2 b) (hc : SMat w Ac nc c) (sc : Sh2 c) (htab : Tab w) :
    Calls Tryz.prog 5 #[.slice Aa na ca, .slice Ab nb cb, .slice Ac nc cc] w fun e w' => e = .returned (.bool true) ∧ Below w.heap.size w w' := by
  have HTB := Lib.hid htab
  have HB := Lib.hid (Below.refl w.heap.size w)
  clear htab
  have La := Lib.hid (show a.length = na by obtain ⟨_, _, h, _⟩ := ha; exact h)
  have Ha := Lib.hid ha
  have Sa := Lib.hid sa
  clear ha sa
  have Lb := Lib.hid (show b.length = nb by obtain ⟨_, _, h, _⟩ := hb; exact h)
  have Hb := Lib.hid hb
  have Sb := Lib.hid sb
  clear hb sb
  have Lc := Lib.hid (show c.length = nc by obtain ⟨_, _, h, _⟩ := hc; exact h)
  have Hc := Lib.hid hc
  have Sc := Lib.hid sc
  clear hc sc
  go_enter Tryz.func5, Tryz.ntmps5
  have HC := Lib.hid (matrixFact_any w HTB.out)
  go_wp2_with fail
  refine HC.out.mono ?_
  rintro e w1 ⟨rfl, hb⟩
  clear HC
  have hbs := HB.out.size
  replace HB := Lib.hid (HB.out.trans (hb.mono hbs))
  clear hbs
  replace Ha := Lib.hid (Ha.out.below hb)
  replace Hb := Lib.hid (Hb.out.below hb)
  replace Hc := Lib.hid (Hc.out.below hb)
  clear hb
  have hsmb := sms3 (c := ca) (d := cb) (e := cc) Ha.out Hb.out Hc.out
  obtain ⟨hsm, hb⟩ := hsmb
  have hbs := HB.out.size
  replace HB := Lib.hid (HB.out.trans (hb.mono hbs))
  clear hbs
  replace Ha := Lib.hid (Ha.out.below hb)
  replace Hb := Lib.hid (Hb.out.below hb)
  replace Hc := Lib.hid (Hc.out.below hb)
  clear hb
  unfold matT at *
  have HC := Lib.hid (small_any 4 [a, b, c] 3 _ 3 _ hsm (by decide) (by decide))
  go_wp2_with fail
  refine HC.out.mono ?_
  rintro e w2 ⟨rfl, hb⟩
  clear HC
  clear hsm
  have hbs := HB.out.size
  replace HB := Lib.hid (HB.out.trans (hb.mono hbs))
  clear hbs
  replace Ha := Lib.hid (Ha.out.below hb)
  replace Hb := Lib.hid (Hb.out.below hb)
  replace Hc := Lib.hid (Hc.out.below hb)
  clear hb
  cases hsm : [a, b, c].any (lgM 4) with
  | true =>
    go_wp2
    go_ret
    exact ⟨rfl, HB.out⟩
  | false =>
    have Za := Lib.hid (lg_any hsm (m := a) (by simp))
    have Zb := Lib.hid (lg_any hsm (m := b) (by simp))
    have Zc := Lib.hid (lg_any hsm (m := c) (by simp))
    clear hsm
    have HC := Lib.hid (mulM_any a b na nb Aa Ab ca cb w2 Ha.out Hb.out Sa.out Sb.out (tab_below HTB.out HB.out))
    go_wp2_with fail
    refine HC.out.mono ?_
    rintro e w3 ⟨Au, nu, cu, u, rfl, hm, he, hs, hb⟩
    clear HC
    have hbs := HB.out.size
    replace HB := Lib.hid (HB.out.trans (hb.mono hbs))
    clear hbs
    replace Ha := Lib.hid (Ha.out.below hb)
    replace Hb := Lib.hid (Hb.out.below hb)
    replace Hc := Lib.hid (Hc.out.below hb)
    clear hb
    have Hu := Lib.hid hm
    have Eu := Lib.hid he
    have Su := Lib.hid hs
    have Lu := Lib.hid (show u.length = nu by obtain ⟨_, _, h, _⟩ := hm; exact h)
    clear hm he hs
    have HC := Lib.hid (mulM_any b c nb nc Ab Ac cb cc w3 Hb.out Hc.out Sb.out Sc.out (tab_below HTB.out HB.out))
    go_wp2_with fail
    refine HC.out.mono ?_
    rintro e w4 ⟨Av, nv, cv, v, rfl, hm, he, hs, hb⟩
    clear HC
    have hbs := HB.out.size
    replace HB := Lib.hid (HB.out.trans (hb.mono hbs))
    clear hbs
    replace Ha := Lib.hid (Ha.out.below hb)
    replace Hb := Lib.hid (Hb.out.below hb)
    replace Hc := Lib.hid (Hc.out.below hb)
    replace Hu := Lib.hid (Hu.out.below hb)
    clear hb
    have Hv := Lib.hid hm
    have Ev := Lib.hid he
    have Sv := Lib.hid hs
    have Lv := Lib.hid (show v.length = nv by obtain ⟨_, _, h, _⟩ := hm; exact h)
    clear hm he hs
    by_cases h1 : (mulM (tx2 a) (tx2 b)).2 = 0
    · have E1 := Lib.hid h1
      rw [h1]
      clear h1
      by_cases h2 : (mulM (tx2 b) (tx2 c)).2 = 0
      · have E2 := Lib.hid h2
        rw [h2]
        clear h2
        by_cases hp : 0 < nb
        · have tp : decide (0 < nb) = true := decide_eq_true hp
          obtain ⟨xb, hxb⟩ : ∃ x, b[0]? = some x := ⟨_, List.getElem?_eq_getElem (by rw [Lb.out]; exact hp)⟩
          obtain ⟨bb, ob, Bb, db, rfl, hcb, _⟩ := Hb.out.at_ hp xb hxb
          rw [Nat.add_zero] at hcb
          have Wb := Lib.hid (show wd (tx2 b) = xb.length by rw [wd_tx, head_get b xb _ hxb])
          clear hxb
          generalize xb.length = wb at *
          by_cases hw : 0 < wb
          · have tw : decide (0 < wb) = true := decide_eq_true hw
            obtain ⟨x1, r1, r2⟩ := ring_assoc Za.out Zb.out Zc.out E1.out E2.out (by rw [tx2, List.length_map, Lb.out]; exact hp) (by rw [Wb.out]; exact hw)
            have NX := Lib.hid (nar_mul r1)
            rw [← tx_un x1] at r1 r2
            rw [← Eu.out] at r1
            rw [← Ev.out] at r2
            have R1 := Lib.hid r1
            have R2 := Lib.hid r2
            clear r1 r2
            have HC := Lib.hid (mulM_any u c nu nc Au Ac cu cc w4 Hu.out Hc.out Su.out Sc.out (tab_below HTB.out HB.out))
            go_wp2_with fail
            refine HC.out.mono ?_
            rintro e w5 h
            clear HC
            obtain ⟨Ax, nx, cx, rfl, hm, hn, hs, hb⟩ := h.known (m := unT x1) (R1.out)
            clear h
            have hbs := HB.out.size
            replace HB := Lib.hid (HB.out.trans (hb.mono hbs))
            clear hbs
            replace Ha := Lib.hid (Ha.out.below hb)
            replace Hb := Lib.hid (Hb.out.below hb)
            replace Hc := Lib.hid (Hc.out.below hb)
            replace Hu := Lib.hid (Hu.out.below hb)
            replace Hv := Lib.hid (Hv.out.below hb)
            clear hb
            have Hx := Lib.hid hm
            have Lx := Lib.hid hn
            have Sx := Lib.hid hs
            clear hm hn hs
            clear hcb
            have HC := Lib.hid (mulM_any a v na nv Aa Av ca cv w5 Ha.out Hv.out Sa.out Sv.out (tab_below HTB.out HB.out))
            go_wp2_with fail
            refine HC.out.mono ?_
            rintro e w6 h
            clear HC
            obtain ⟨Ay, ny, cy, rfl, hm, hn, hs, hb⟩ := h.known (m := unT x1) (R2.out)
            clear h
            have hbs := HB.out.size
            replace HB := Lib.hid (HB.out.trans (hb.mono hbs))
            clear hbs
            replace Ha := Lib.hid (Ha.out.below hb)
            replace Hb := Lib.hid (Hb.out.below hb)
            replace Hc := Lib.hid (Hc.out.below hb)
            replace Hu := Lib.hid (Hu.out.below hb)
            replace Hv := Lib.hid (Hv.out.below hb)
            replace Hx := Lib.hid (Hx.out.below hb)
            clear hb
            have Hy := Lib.hid hm
            have Ly := Lib.hid hn
            have Sy := Lib.hid hs
            clear hm hn hs
            have HC := Lib.hid (same_any (unT x1) (unT x1) _ _ Ax Ay cx cy _ Hx.out Hy.out (by have h := NX.out.1; have h2 := Lx.out; omega) NX.out.2)
            go_wp2_with fail
            refine HC.out.mono ?_
            rintro e w7 ⟨rfl, hb⟩
            clear HC
            simp only [decide_true]
            have hbs := HB.out.size
            replace HB := Lib.hid (HB.out.trans (hb.mono hbs))
            clear hbs
            replace Ha := Lib.hid (Ha.out.below hb)
            replace Hb := Lib.hid (Hb.out.below hb)
            replace Hc := Lib.hid (Hc.out.below hb)
            replace Hu := Lib.hid (Hu.out.below hb)
            replace Hv := Lib.hid (Hv.out.below hb)
            replace Hx := Lib.hid (Hx.out.below hb)
            replace Hy := Lib.hid (Hy.out.below hb)
            clear hb
            clear Hx Hy
            clear R1 R2
            have HC := Lib.hid (addM_any b nb (some ⟨bb, ob, none⟩) cb c nc Ac cc w7 Hb.out Sb.out Hc.out Sc.out (tab_below HTB.out HB.out))
            go_wp2_with fail
            refine HC.out.mono ?_
            rintro e w8 ⟨As, ns, cs, s, rfl, hm, he, hs, hb⟩
            clear HC
            have hbs := HB.out.size
            replace HB := Lib.hid (HB.out.trans (hb.mono hbs))
            clear hbs
            replace Ha := Lib.hid (Ha.out.below hb)
            replace Hb := Lib.hid (Hb.out.below hb)
            replace Hc := Lib.hid (Hc.out.below hb)
            replace Hu := Lib.hid (Hu.out.below hb)
            replace Hv := Lib.hid (Hv.out.below hb)
            clear hb
            have Hs := Lib.hid hm
            have Es := Lib.hid he
            have Ss := Lib.hid hs
            have Ls := Lib.hid (show s.length = ns by obtain ⟨_, _, h, _⟩ := hm; exact h)
            clear hm he hs
            have HC := Lib.hid (mulM_any a c na nc Aa Ac ca cc w8 Ha.out Hc.out Sa.out Sc.out (tab_below HTB.out HB.out))
            go_wp2_with fail
            refine HC.out.mono ?_
            rintro e w9 ⟨Aq, nq, cq, q, rfl, hm, he, hs, hb⟩
            clear HC
            have hbs := HB.out.size
            replace HB := Lib.hid (HB.out.trans (hb.mono hbs))
            clear hbs
            replace Ha := Lib.hid (Ha.out.below hb)
            replace Hb := Lib.hid (Hb.out.below hb)
            replace Hc := Lib.hid (Hc.out.below hb)
            replace Hu := Lib.hid (Hu.out.below hb)
            replace Hv := Lib.hid (Hv.out.below hb)
            replace Hs := Lib.hid (Hs.out.below hb)
            clear hb
            have Hq := Lib.hid hm
            have Eq := Lib.hid he
            have Sq := Lib.hid hs
            have Lq := Lib.hid (show q.length = nq by obtain ⟨_, _, h, _⟩ := hm; exact h)
            clear hm he hs
            by_cases hk : (addM (tx2 b) (tx2 c)).2 = 0 ∧ (mulM (tx2 a) (tx2 c)).2 = 0
            · obtain ⟨x2, r1, r2⟩ := ring_dist Za.out Zb.out Zc.out E1.out hk.1 hk.2
              have NX2 := Lib.hid (nar_mul r1)
              rw [← tx_un x2] at r1 r2
              rw [← Es.out] at r1
              rw [← Eu.out, ← Eq.out] at r2
              have R1 := Lib.hid r1
              have R2 := Lib.hid r2
              rw [hk.1, hk.2]
              clear r1 r2 hk
              have HX := Lib.hid (fine_any [0, 0, 0] 3 (some ⟨w9.heap.size, 0, none⟩) 3 (w9.alloc (.cells #[I 0, I 0, I 0] 25)) _ (reads_lits w9 _ [I 0, I 0, I 0]) (by omega))
              rw [show fineB [0, 0, 0] = true from rfl] at HX
              have hb := below_new w9 (.cells #[I 0, I 0, I 0] 25)
              have hbs := HB.out.size
              replace HB := Lib.hid (HB.out.trans (hb.mono hbs))
              clear hbs
              replace Ha := Lib.hid (Ha.out.below hb)
              replace Hb := Lib.hid (Hb.out.below hb)
              replace Hc := Lib.hid (Hc.out.below hb)
              replace Hu := Lib.hid (Hu.out.below hb)
              replace Hv := Lib.hid (Hv.out.below hb)
              replace Hs := Lib.hid (Hs.out.below hb)
              replace Hq := Lib.hid (Hq.out.below hb)
              clear hb
              go_wp2_with fail
              refine HX.out.mono ?_
              rintro e w10 ⟨rfl, rfl⟩
              clear HX
              have HC := Lib.hid (mulM_any a s na ns Aa As ca cs (w9.alloc (.cells #[I 0, I 0, I 0] 25)) Ha.out Hs.out Sa.out Ss.out (tab_below HTB.out HB.out))
              go_wp2_with fail
              refine HC.out.mono ?_
              rintro e w11 h
              clear HC
              obtain ⟨Af, nf, cf, rfl, hm, hn, hs, hb⟩ := h.known (m := unT x2) (R1.out)
              clear h
              have hbs := HB.out.size
              replace HB := Lib.hid (HB.out.trans (hb.mono hbs))
              clear hbs
              replace Ha := Lib.hid (Ha.out.below hb)
              replace Hb := Lib.hid (Hb.out.below hb)
              replace Hc := Lib.hid (Hc.out.below hb)
              replace Hu := Lib.hid (Hu.out.below hb)
              replace Hv := Lib.hid (Hv.out.below hb)
              replace Hs := Lib.hid (Hs.out.below hb)
              replace Hq := Lib.hid (Hq.out.below hb)
              clear hb
              have Hf := Lib.hid hm
              have Lf := Lib.hid hn
              have Sf := Lib.hid hs
              clear hm hn hs
              have HC := Lib.hid (addM_any u nu Au cu q nq Aq cq w11 Hu.out Su.out Hq.out Sq.out (tab_below HTB.out HB.out))
              go_wp2_with fail
              refine HC.out.mono ?_
              rintro e w12 h
              clear HC
              obtain ⟨Ag, ng, cg, rfl, hm, hn, hs, hb⟩ := h.known (m := unT x2) (R2.out)
              clear h
              have hbs := HB.out.size
              replace HB := Lib.hid (HB.out.trans (hb.mono hbs))
              clear hbs
              replace Ha := Lib.hid (Ha.out.below hb)
              replace Hb := Lib.hid (Hb.out.below hb)
              replace Hc := Lib.hid (Hc.out.below hb)
              replace Hu := Lib.hid (Hu.out.below hb)
              replace Hv := Lib.hid (Hv.out.below hb)
              replace Hs := Lib.hid (Hs.out.below hb)
              replace Hq := Lib.hid (Hq.out.below hb)
              replace Hf := Lib.hid (Hf.out.below hb)
              clear hb
              have Hg := Lib.hid hm
              have Lg := Lib.hid hn
              have Sg := Lib.hid hs
              clear hm hn hs
              have HX := Lib.hid (fine_any [0, 0] 2 (some ⟨w12.heap.size, 0, none⟩) 2 (w12.alloc (.cells #[I 0, I 0] 25)) _ (reads_lits w12 _ [I 0, I 0]) (by omega))
              rw [show fineB [0, 0] = true from rfl] at HX
              have hb := below_new w12 (.cells #[I 0, I 0] 25)
              have hbs := HB.out.size
              replace HB := Lib.hid (HB.out.trans (hb.mono hbs))
              clear hbs
              replace Ha := Lib.hid (Ha.out.below hb)
              replace Hb := Lib.hid (Hb.out.below hb)
              replace Hc := Lib.hid (Hc.out.below hb)
              replace Hu := Lib.hid (Hu.out.below hb)
              replace Hv := Lib.hid (Hv.out.below hb)
              replace Hs := Lib.hid (Hs.out.below hb)
              replace Hq := Lib.hid (Hq.out.below hb)
              replace Hf := Lib.hid (Hf.out.below hb)
              replace Hg := Lib.hid (Hg.out.below hb)
              clear hb
              go_wp2_with fail
              refine HX.out.mono ?_
              rintro e w13 ⟨rfl, rfl⟩
              clear HX
              have HC := Lib.hid (same_any (unT x2) (unT x2) _ _ Af Ag cf cg _ Hf.out Hg.out (by have h := NX2.out.1; have h2 := Lf.out; omega) NX2.out.2)
              go_wp2_with fail
              refine HC.out.mono ?_
              rintro e w14 ⟨rfl, hb⟩
              clear HC
              simp only [decide_true]
              have hbs := HB.out.size
              replace HB := Lib.hid (HB.out.trans (hb.mono hbs))
              clear hbs
              replace Ha := Lib.hid (Ha.out.below hb)
              replace Hb := Lib.hid (Hb.out.below hb)
              replace Hc := Lib.hid (Hc.out.below hb)
              replace Hu := Lib.hid (Hu.out.below hb)
              replace Hv := Lib.hid (Hv.out.below hb)
              replace Hs := Lib.hid (Hs.out.below hb)
              replace Hq := Lib.hid (Hq.out.below hb)
              replace Hf := Lib.hid (Hf.out.below hb)
              replace Hg := Lib.hid (Hg.out.below hb)
              clear hb
              go_wp2
              go_ret
              exact ⟨rfl, HB.out⟩
            · have hk2 : ¬ ((0 : Int) = 0 ∧ (addM (tx2 b) (tx2 c)).2 = 0 ∧ (mulM (tx2 a) (tx2 c)).2 = 0) := fun h => hk h.2
              generalize (addM (tx2 b) (tx2 c)).2 = e3 at *
              generalize (mulM (tx2 a) (tx2 c)).2 = e4 at *
              clear hk
              have HX := Lib.hid (fine_any [0, e3, e4] 3 (some ⟨w9.heap.size, 0, none⟩) 3 (w9.alloc (.cells #[I 0, I e3, I e4] 25)) _ (reads_lits w9 _ [I 0, I e3, I e4]) (by omega))
              rw [show fineB [0, e3, e4] = false from by rw [fine3]; exact decide_eq_false hk2] at HX
              have hb := below_new w9 (.cells #[I 0, I e3, I e4] 25)
              have hbs := HB.out.size
              replace HB := Lib.hid (HB.out.trans (hb.mono hbs))
              clear hbs
              replace Ha := Lib.hid (Ha.out.below hb)
              replace Hb := Lib.hid (Hb.out.below hb)
              replace Hc := Lib.hid (Hc.out.below hb)
              replace Hu := Lib.hid (Hu.out.below hb)
              replace Hv := Lib.hid (Hv.out.below hb)
              replace Hs := Lib.hid (Hs.out.below hb)
              replace Hq := Lib.hid (Hq.out.below hb)
              clear hb
              go_wp2_with fail
              refine HX.out.mono ?_
              rintro e w10 ⟨rfl, rfl⟩
              clear HX
              go_wp2
              go_ret
              exact ⟨rfl, HB.out⟩
          · have tw : decide (0 < wb) = false := decide_eq_false hw
            have HC := Lib.hid (addM_any b nb (some ⟨bb, ob, none⟩) cb c nc Ac cc w4 Hb.out Sb.out Hc.out Sc.out (tab_below HTB.out HB.out))
            go_wp2_with fail
            refine HC.out.mono ?_
            rintro e w5 ⟨As, ns, cs, s, rfl, hm, he, hs, hb⟩
            clear HC
            have hbs := HB.out.size
            replace HB := Lib.hid (HB.out.trans (hb.mono hbs))
            clear hbs
            replace Ha := Lib.hid (Ha.out.below hb)
            replace Hb := Lib.hid (Hb.out.below hb)
            replace Hc := Lib.hid (Hc.out.below hb)
            replace Hu := Lib.hid (Hu.out.below hb)
            replace Hv := Lib.hid (Hv.out.below hb)
            clear hb
            have Hs := Lib.hid hm
            have Es := Lib.hid he
            have Ss := Lib.hid hs
            have Ls := Lib.hid (show s.length = ns by obtain ⟨_, _, h, _⟩ := hm; exact h)
            clear hm he hs
            have HC := Lib.hid (mulM_any a c na nc Aa Ac ca cc w5 Ha.out Hc.out Sa.out Sc.out (tab_below HTB.out HB.out))
            go_wp2_with fail
            refine HC.out.mono ?_
            rintro e w6 ⟨Aq, nq, cq, q, rfl, hm, he, hs, hb⟩
            clear HC
            have hbs := HB.out.size
            replace HB := Lib.hid (HB.out.trans (hb.mono hbs))
            clear hbs
            replace Ha := Lib.hid (Ha.out.below hb)
            replace Hb := Lib.hid (Hb.out.below hb)
            replace Hc := Lib.hid (Hc.out.below hb)
            replace Hu := Lib.hid (Hu.out.below hb)
            replace Hv := Lib.hid (Hv.out.below hb)
            replace Hs := Lib.hid (Hs.out.below hb)
            clear hb
            have Hq := Lib.hid hm
            have Eq := Lib.hid he
            have Sq := Lib.hid hs
            have Lq := Lib.hid (show q.length = nq by obtain ⟨_, _, h, _⟩ := hm; exact h)
            clear hm he hs
            by_cases hk : (addM (tx2 b) (tx2 c)).2 = 0 ∧ (mulM (tx2 a) (tx2 c)).2 = 0
            · obtain ⟨x2, r1, r2⟩ := ring_dist Za.out Zb.out Zc.out E1.out hk.1 hk.2
              have NX2 := Lib.hid (nar_mul r1)
              rw [← tx_un x2] at r1 r2
              rw [← Es.out] at r1
              rw [← Eu.out, ← Eq.out] at r2
              have R1 := Lib.hid r1
              have R2 := Lib.hid r2
              rw [hk.1, hk.2]
              clear r1 r2 hk
              have HX := Lib.hid (fine_any [0, 0, 0] 3 (some ⟨w6.heap.size, 0, none⟩) 3 (w6.alloc (.cells #[I 0, I 0, I 0] 25)) _ (reads_lits w6 _ [I 0, I 0, I 0]) (by omega))
              rw [show fineB [0, 0, 0] = true from rfl] at HX
              have hb := below_new w6 (.cells #[I 0, I 0, I 0] 25)
              have hbs := HB.out.size
              replace HB := Lib.hid (HB.out.trans (hb.mono hbs))
              clear hbs
              replace Ha := Lib.hid (Ha.out.below hb)
              replace Hb := Lib.hid (Hb.out.below hb)
              replace Hc := Lib.hid (Hc.out.below hb)
              replace Hu := Lib.hid (Hu.out.below hb)
              replace Hv := Lib.hid (Hv.out.below hb)
              replace Hs := Lib.hid (Hs.out.below hb)
              replace Hq := Lib.hid (Hq.out.below hb)
              clear hb
              go_wp2_with fail
              refine HX.out.mono ?_
              rintro e w7 ⟨rfl, rfl⟩
              clear HX
              have HC := Lib.hid (mulM_any a s na ns Aa As ca cs (w6.alloc (.cells #[I 0, I 0, I 0] 25)) Ha.out Hs.out Sa.out Ss.out (tab_below HTB.out HB.out))
              go_wp2_with fail
              refine HC.out.mono ?_
              rintro e w8 h
              clear HC
              obtain ⟨Af, nf, cf, rfl, hm, hn, hs, hb⟩ := h.known (m := unT x2) (R1.out)
              clear h
              have hbs := HB.out.size
              replace HB := Lib.hid (HB.out.trans (hb.mono hbs))
              clear hbs
              replace Ha := Lib.hid (Ha.out.below hb)
              replace Hb := Lib.hid (Hb.out.below hb)
              replace Hc := Lib.hid (Hc.out.below hb)
              replace Hu := Lib.hid (Hu.out.below hb)
              replace Hv := Lib.hid (Hv.out.below hb)
              replace Hs := Lib.hid (Hs.out.below hb)
              replace Hq := Lib.hid (Hq.out.below hb)
              clear hb
              have Hf := Lib.hid hm
              have Lf := Lib.hid hn
              have Sf := Lib.hid hs
              clear hm hn hs
              have HC := Lib.hid (addM_any u nu Au cu q nq Aq cq w8 Hu.out Su.out Hq.out Sq.out (tab_below HTB.out HB.out))
              go_wp2_with fail
              refine HC.out.mono ?_
              rintro e w9 h
              clear HC
              obtain ⟨Ag, ng, cg, rfl, hm, hn, hs, hb⟩ := h.known (m := unT x2) (R2.out)
              clear h
              have hbs := HB.out.size
              replace HB := Lib.hid (HB.out.trans (hb.mono hbs))
              clear hbs
              replace Ha := Lib.hid (Ha.out.below hb)
              replace Hb := Lib.hid (Hb.out.below hb)
              replace Hc := Lib.hid (Hc.out.below hb)
              replace Hu := Lib.hid (Hu.out.below hb)
              replace Hv := Lib.hid (Hv.out.below hb)
              replace Hs := Lib.hid (Hs.out.below hb)
              replace Hq := Lib.hid (Hq.out.below hb)
              replace Hf := Lib.hid (Hf.out.below hb)
              clear hb
              have Hg := Lib.hid hm
              have Lg := Lib.hid hn
              have Sg := Lib.hid hs
              clear hm hn hs
              have HX := Lib.hid (fine_any [0, 0] 2 (some ⟨w9.heap.size, 0, none⟩) 2 (w9.alloc (.cells #[I 0, I 0] 25)) _ (reads_lits w9 _ [I 0, I 0]) (by omega))
              rw [show fineB [0, 0] = true from rfl] at HX
              have hb := below_new w9 (.cells #[I 0, I 0] 25)
              have hbs := HB.out.size
              replace HB := Lib.hid (HB.out.trans (hb.mono hbs))
              clear hbs
              replace Ha := Lib.hid (Ha.out.below hb)
              replace Hb := Lib.hid (Hb.out.below hb)
              replace Hc := Lib.hid (Hc.out.below hb)
              replace Hu := Lib.hid (Hu.out.below hb)
              replace Hv := Lib.hid (Hv.out.below hb)
              replace Hs := Lib.hid (Hs.out.below hb)
              replace Hq := Lib.hid (Hq.out.below hb)
              replace Hf := Lib.hid (Hf.out.below hb)
              replace Hg := Lib.hid (Hg.out.below hb)
              clear hb
              go_wp2_with fail
              refine HX.out.mono ?_
              rintro e w10 ⟨rfl, rfl⟩
              clear HX
              have HC := Lib.hid (same_any (unT x2) (unT x2) _ _ Af Ag cf cg _ Hf.out Hg.out (by have h := NX2.out.1; have h2 := Lf.out; omega) NX2.out.2)
              go_wp2_with fail
              refine HC.out.mono ?_
              rintro e w11 ⟨rfl, hb⟩
              clear HC
              simp only [decide_true]
              have hbs := HB.out.size
              replace HB := Lib.hid (HB.out.trans (hb.mono hbs))
              clear hbs
              replace Ha := Lib.hid (Ha.out.below hb)
              replace Hb := Lib.hid (Hb.out.below hb)
              replace Hc := Lib.hid (Hc.out.below hb)
              replace Hu := Lib.hid (Hu.out.below hb)
              replace Hv := Lib.hid (Hv.out.below hb)
              replace Hs := Lib.hid (Hs.out.below hb)
              replace Hq := Lib.hid (Hq.out.below hb)
              replace Hf := Lib.hid (Hf.out.below hb)
              replace Hg := Lib.hid (Hg.out.below hb)
              clear hb
              go_wp2
              go_ret
              exact ⟨rfl, HB.out⟩
            · have hk2 : ¬ ((0 : Int) = 0 ∧ (addM (tx2 b) (tx2 c)).2 = 0 ∧ (mulM (tx2 a) (tx2 c)).2 = 0) := fun h => hk h.2
              generalize (addM (tx2 b) (tx2 c)).2 = e3 at *
              generalize (mulM (tx2 a) (tx2 c)).2 = e4 at *
              clear hk
              have HX := Lib.hid (fine_any [0, e3, e4] 3 (some ⟨w6.heap.size, 0, none⟩) 3 (w6.alloc (.cells #[I 0, I e3, I e4] 25)) _ (reads_lits w6 _ [I 0, I e3, I e4]) (by omega))
              rw [show fineB [0, e3, e4] = false from by rw [fine3]; exact decide_eq_false hk2] at HX
              have hb := below_new w6 (.cells #[I 0, I e3, I e4] 25)
              have hbs := HB.out.size
              replace HB := Lib.hid (HB.out.trans (hb.mono hbs))
              clear hbs
              replace Ha := Lib.hid (Ha.out.below hb)
              replace Hb := Lib.hid (Hb.out.below hb)
              replace Hc := Lib.hid (Hc.out.below hb)
              replace Hu := Lib.hid (Hu.out.below hb)
              replace Hv := Lib.hid (Hv.out.below hb)
              replace Hs := Lib.hid (Hs.out.below hb)
              replace Hq := Lib.hid (Hq.out.below hb)
              clear hb
              go_wp2_with fail
              refine HX.out.mono ?_
              rintro e w7 ⟨rfl, rfl⟩
              clear HX
              go_wp2
              go_ret
              exact ⟨rfl, HB.out⟩
        · have tp : decide (0 < nb) = false := decide_eq_false hp
          have HC := Lib.hid (addM_any b nb Ab cb c nc Ac cc w4 Hb.out Sb.out Hc.out Sc.out (tab_below HTB.out HB.out))
          go_wp2_with fail
          refine HC.out.mono ?_
          rintro e w5 ⟨As, ns, cs, s, rfl, hm, he, hs, hb⟩
          clear HC
          have hbs := HB.out.size
          replace HB := Lib.hid (HB.out.trans (hb.mono hbs))
          clear hbs
          replace Ha := Lib.hid (Ha.out.below hb)
          replace Hb := Lib.hid (Hb.out.below hb)
          replace Hc := Lib.hid (Hc.out.below hb)
          replace Hu := Lib.hid (Hu.out.below hb)
          replace Hv := Lib.hid (Hv.out.below hb)
          clear hb
          have Hs := Lib.hid hm
          have Es := Lib.hid he
          have Ss := Lib.hid hs
          have Ls := Lib.hid (show s.length = ns by obtain ⟨_, _, h, _⟩ := hm; exact h)
          clear hm he hs
          have HC := Lib.hid (mulM_any a c na nc Aa Ac ca cc w5 Ha.out Hc.out Sa.out Sc.out (tab_below HTB.out HB.out))
          go_wp2_with fail
          refine HC.out.mono ?_
          rintro e w6 ⟨Aq, nq, cq, q, rfl, hm, he, hs, hb⟩
          clear HC
          have hbs := HB.out.size
          replace HB := Lib.hid (HB.out.trans (hb.mono hbs))
          clear hbs
          replace Ha := Lib.hid (Ha.out.below hb)
          replace Hb := Lib.hid (Hb.out.below hb)
          replace Hc := Lib.hid (Hc.out.below hb)
          replace Hu := Lib.hid (Hu.out.below hb)
          replace Hv := Lib.hid (Hv.out.below hb)
          replace Hs := Lib.hid (Hs.out.below hb)
          clear hb
          have Hq := Lib.hid hm
          have Eq := Lib.hid he
          have Sq := Lib.hid hs
          have Lq := Lib.hid (show q.length = nq by obtain ⟨_, _, h, _⟩ := hm; exact h)
          clear hm he hs
          by_cases hk : (addM (tx2 b) (tx2 c)).2 = 0 ∧ (mulM (tx2 a) (tx2 c)).2 = 0
          · obtain ⟨x2, r1, r2⟩ := ring_dist Za.out Zb.out Zc.out E1.out hk.1 hk.2
            have NX2 := Lib.hid (nar_mul r1)
            rw [← tx_un x2] at r1 r2
            rw [← Es.out] at r1
            rw [← Eu.out, ← Eq.out] at r2
            have R1 := Lib.hid r1
            have R2 := Lib.hid r2
            rw [hk.1, hk.2]
            clear r1 r2 hk
            have HX := Lib.hid (fine_any [0, 0, 0] 3 (some ⟨w6.heap.size, 0, none⟩) 3 (w6.alloc (.cells #[I 0, I 0, I 0] 25)) _ (reads_lits w6 _ [I 0, I 0, I 0]) (by omega))
            rw [show fineB [0, 0, 0] = true from rfl] at HX
            have hb := below_new w6 (.cells #[I 0, I 0, I 0] 25)
            have hbs := HB.out.size
            replace HB := Lib.hid (HB.out.trans (hb.mono hbs))
            clear hbs
            replace Ha := Lib.hid (Ha.out.below hb)
            replace Hb := Lib.hid (Hb.out.below hb)
            replace Hc := Lib.hid (Hc.out.below hb)
            replace Hu := Lib.hid (Hu.out.below hb)
            replace Hv := Lib.hid (Hv.out.below hb)
            replace Hs := Lib.hid (Hs.out.below hb)
            replace Hq := Lib.hid (Hq.out.below hb)
            clear hb
            go_wp2_with fail
            refine HX.out.mono ?_
            rintro e w7 ⟨rfl, rfl⟩
            clear HX
            have HC := Lib.hid (mulM_any a s na ns Aa As ca cs (w6.alloc (.cells #[I 0, I 0, I 0] 25)) Ha.out Hs.out Sa.out Ss.out (tab_below HTB.out HB.out))
            go_wp2_with fail
            refine HC.out.mono ?_
            rintro e w8 h
            clear HC
            obtain ⟨Af, nf, cf, rfl, hm, hn, hs, hb⟩ := h.known (m := unT x2) (R1.out)
            clear h
            have hbs := HB.out.size
            replace HB := Lib.hid (HB.out.trans (hb.mono hbs))
            clear hbs
            replace Ha := Lib.hid (Ha.out.below hb)
            replace Hb := Lib.hid (Hb.out.below hb)
            replace Hc := Lib.hid (Hc.out.below hb)
            replace Hu := Lib.hid (Hu.out.below hb)
            replace Hv := Lib.hid (Hv.out.below hb)
            replace Hs := Lib.hid (Hs.out.below hb)
            replace Hq := Lib.hid (Hq.out.below hb)
            clear hb
            have Hf := Lib.hid hm
            have Lf := Lib.hid hn
            have Sf := Lib.hid hs
            clear hm hn hs
            have HC := Lib.hid (addM_any u nu Au cu q nq Aq cq w8 Hu.out Su.out Hq.out Sq.out (tab_below HTB.out HB.out))
            go_wp2_with fail
            refine HC.out.mono ?_
            rintro e w9 h
            clear HC
            obtain ⟨Ag, ng, cg, rfl, hm, hn, hs, hb⟩ := h.known (m := unT x2) (R2.out)
            clear h
            have hbs := HB.out.size
            replace HB := Lib.hid (HB.out.trans (hb.mono hbs))
            clear hbs
            replace Ha := Lib.hid (Ha.out.below hb)
            replace Hb := Lib.hid (Hb.out.below hb)
            replace Hc := Lib.hid (Hc.out.below hb)
            replace Hu := Lib.hid (Hu.out.below hb)
            replace Hv := Lib.hid (Hv.out.below hb)
            replace Hs := Lib.hid (Hs.out.below hb)
            replace Hq := Lib.hid (Hq.out.below hb)
            replace Hf := Lib.hid (Hf.out.below hb)
            clear hb
            have Hg := Lib.hid hm
            have Lg := Lib.hid hn
            have Sg := Lib.hid hs
            clear hm hn hs
            have HX := Lib.hid (fine_any [0, 0] 2 (some ⟨w9.heap.size, 0, none⟩) 2 (w9.alloc (.cells #[I 0, I 0] 25)) _ (reads_lits w9 _ [I 0, I 0]) (by omega))
            rw [show fineB [0, 0] = true from rfl] at HX
            have hb := below_new w9 (.cells #[I 0, I 0] 25)
            have hbs := HB.out.size
            replace HB := Lib.hid (HB.out.trans (hb.mono hbs))
            clear hbs
            replace Ha := Lib.hid (Ha.out.below hb)
            replace Hb := Lib.hid (Hb.out.below hb)
            replace Hc := Lib.hid (Hc.out.below hb)
            replace Hu := Lib.hid (Hu.out.below hb)
            replace Hv := Lib.hid (Hv.out.below hb)
            replace Hs := Lib.hid (Hs.out.below hb)
            replace Hq := Lib.hid (Hq.out.below hb)
            replace Hf := Lib.hid (Hf.out.below hb)
            replace Hg := Lib.hid (Hg.out.below hb)
            clear hb
            go_wp2_with fail
            refine HX.out.mono ?_
            rintro e w10 ⟨rfl, rfl⟩
            clear HX
            have HC := Lib.hid (same_any (unT x2) (unT x2) _ _ Af Ag cf cg _ Hf.out Hg.out (by have h := NX2.out.1; have h2 := Lf.out; omega) NX2.out.2)
            go_wp2_with fail
            refine HC.out.mono ?_
            rintro e w11 ⟨rfl, hb⟩
            clear HC
            simp only [decide_true]
            have hbs := HB.out.size
            replace HB := Lib.hid (HB.out.trans (hb.mono hbs))
            clear hbs
            replace Ha := Lib.hid (Ha.out.below hb)
            replace Hb := Lib.hid (Hb.out.below hb)
            replace Hc := Lib.hid (Hc.out.below hb)
            replace Hu := Lib.hid (Hu.out.below hb)
            replace Hv := Lib.hid (Hv.out.below hb)
            replace Hs := Lib.hid (Hs.out.below hb)
            replace Hq := Lib.hid (Hq.out.below hb)
            replace Hf := Lib.hid (Hf.out.below hb)
            replace Hg := Lib.hid (Hg.out.below hb)
            clear hb
            go_wp2
            go_ret
            exact ⟨rfl, HB.out⟩
          · have hk2 : ¬ ((0 : Int) = 0 ∧ (addM (tx2 b) (tx2 c)).2 = 0 ∧ (mulM (tx2 a) (tx2 c)).2 = 0) := fun h => hk h.2
            generalize (addM (tx2 b) (tx2 c)).2 = e3 at *
            generalize (mulM (tx2 a) (tx2 c)).2 = e4 at *
            clear hk
            have HX := Lib.hid (fine_any [0, e3, e4] 3 (some ⟨w6.heap.size, 0, none⟩) 3 (w6.alloc (.cells #[I 0, I e3, I e4] 25)) _ (reads_lits w6 _ [I 0, I e3, I e4]) (by omega))
            rw [show fineB [0, e3, e4] = false from by rw [fine3]; exact decide_eq_false hk2] at HX
            have hb := below_new w6 (.cells #[I 0, I e3, I e4] 25)
            have hbs := HB.out.size
            replace HB := Lib.hid (HB.out.trans (hb.mono hbs))
            clear hbs
            replace Ha := Lib.hid (Ha.out.below hb)
            replace Hb := Lib.hid (Hb.out.below hb)
            replace Hc := Lib.hid (Hc.out.below hb)
            replace Hu := Lib.hid (Hu.out.below hb)
            replace Hv := Lib.hid (Hv.out.below hb)
            replace Hs := Lib.hid (Hs.out.below hb)
            replace Hq := Lib.hid (Hq.out.below hb)
            clear hb
            go_wp2_with fail
            refine HX.out.mono ?_
            rintro e w7 ⟨rfl, rfl⟩
            clear HX
            go_wp2
            go_ret
            exact ⟨rfl, HB.out⟩
      · have t2 : ((mulM (tx2 b) (tx2 c)).2 == 0) = false := beq_eq_false_iff_ne.2 h2
        generalize (mulM (tx2 b) (tx2 c)).2 = e2 at *
        clear h2
        have HC := Lib.hid (addM_any b nb Ab cb c nc Ac cc w4 Hb.out Sb.out Hc.out Sc.out (tab_below HTB.out HB.out))
        go_wp2_with fail
        refine HC.out.mono ?_
        rintro e w5 ⟨As, ns, cs, s, rfl, hm, he, hs, hb⟩
        clear HC
        have hbs := HB.out.size
        replace HB := Lib.hid (HB.out.trans (hb.mono hbs))
        clear hbs
        replace Ha := Lib.hid (Ha.out.below hb)
        replace Hb := Lib.hid (Hb.out.below hb)
        replace Hc := Lib.hid (Hc.out.below hb)
        replace Hu := Lib.hid (Hu.out.below hb)
        replace Hv := Lib.hid (Hv.out.below hb)
        clear hb
        have Hs := Lib.hid hm
        have Es := Lib.hid he
        have Ss := Lib.hid hs
        have Ls := Lib.hid (show s.length = ns by obtain ⟨_, _, h, _⟩ := hm; exact h)
        clear hm he hs
        have HC := Lib.hid (mulM_any a c na nc Aa Ac ca cc w5 Ha.out Hc.out Sa.out Sc.out (tab_below HTB.out HB.out))
        go_wp2_with fail
        refine HC.out.mono ?_
        rintro e w6 ⟨Aq, nq, cq, q, rfl, hm, he, hs, hb⟩
        clear HC
        have hbs := HB.out.size
        replace HB := Lib.hid (HB.out.trans (hb.mono hbs))
        clear hbs
        replace Ha := Lib.hid (Ha.out.below hb)
        replace Hb := Lib.hid (Hb.out.below hb)
        replace Hc := Lib.hid (Hc.out.below hb)
        replace Hu := Lib.hid (Hu.out.below hb)
        replace Hv := Lib.hid (Hv.out.below hb)
        replace Hs := Lib.hid (Hs.out.below hb)
        clear hb
        have Hq := Lib.hid hm
        have Eq := Lib.hid he
        have Sq := Lib.hid hs
        have Lq := Lib.hid (show q.length = nq by obtain ⟨_, _, h, _⟩ := hm; exact h)
        clear hm he hs
        by_cases hk : (addM (tx2 b) (tx2 c)).2 = 0 ∧ (mulM (tx2 a) (tx2 c)).2 = 0
        · obtain ⟨x2, r1, r2⟩ := ring_dist Za.out Zb.out Zc.out E1.out hk.1 hk.2
          have NX2 := Lib.hid (nar_mul r1)
          rw [← tx_un x2] at r1 r2
          rw [← Es.out] at r1
          rw [← Eu.out, ← Eq.out] at r2
          have R1 := Lib.hid r1
          have R2 := Lib.hid r2
          rw [hk.1, hk.2]
          clear r1 r2 hk
          have HX := Lib.hid (fine_any [0, 0, 0] 3 (some ⟨w6.heap.size, 0, none⟩) 3 (w6.alloc (.cells #[I 0, I 0, I 0] 25)) _ (reads_lits w6 _ [I 0, I 0, I 0]) (by omega))
          rw [show fineB [0, 0, 0] = true from rfl] at HX
          have hb := below_new w6 (.cells #[I 0, I 0, I 0] 25)
          have hbs := HB.out.size
          replace HB := Lib.hid (HB.out.trans (hb.mono hbs))
          clear hbs
          replace Ha := Lib.hid (Ha.out.below hb)
          replace Hb := Lib.hid (Hb.out.below hb)
          replace Hc := Lib.hid (Hc.out.below hb)
          replace Hu := Lib.hid (Hu.out.below hb)
          replace Hv := Lib.hid (Hv.out.below hb)
          replace Hs := Lib.hid (Hs.out.below hb)
          replace Hq := Lib.hid (Hq.out.below hb)
          clear hb
          go_wp2_with fail
          refine HX.out.mono ?_
          rintro e w7 ⟨rfl, rfl⟩
          clear HX
          have HC := Lib.hid (mulM_any a s na ns Aa As ca cs (w6.alloc (.cells #[I 0, I 0, I 0] 25)) Ha.out Hs.out Sa.out Ss.out (tab_below HTB.out HB.out))
          go_wp2_with fail
          refine HC.out.mono ?_
          rintro e w8 h
          clear HC
          obtain ⟨Af, nf, cf, rfl, hm, hn, hs, hb⟩ := h.known (m := unT x2) (R1.out)
          clear h
          have hbs := HB.out.size
          replace HB := Lib.hid (HB.out.trans (hb.mono hbs))
          clear hbs
          replace Ha := Lib.hid (Ha.out.below hb)
          replace Hb := Lib.hid (Hb.out.below hb)
          replace Hc := Lib.hid (Hc.out.below hb)
          replace Hu := Lib.hid (Hu.out.below hb)
          replace Hv := Lib.hid (Hv.out.below hb)
          replace Hs := Lib.hid (Hs.out.below hb)
          replace Hq := Lib.hid (Hq.out.below hb)
          clear hb
          have Hf := Lib.hid hm
          have Lf := Lib.hid hn
          have Sf := Lib.hid hs
          clear hm hn hs
          have HC := Lib.hid (addM_any u nu Au cu q nq Aq cq w8 Hu.out Su.out Hq.out Sq.out (tab_below HTB.out HB.out))
          go_wp2_with fail
          refine HC.out.mono ?_
          rintro e w9 h
          clear HC
          obtain ⟨Ag, ng, cg, rfl, hm, hn, hs, hb⟩ := h.known (m := unT x2) (R2.out)
          clear h
          have hbs := HB.out.size
          replace HB := Lib.hid (HB.out.trans (hb.mono hbs))
          clear hbs
          replace Ha := Lib.hid (Ha.out.below hb)
          replace Hb := Lib.hid (Hb.out.below hb)
          replace Hc := Lib.hid (Hc.out.below hb)
          replace Hu := Lib.hid (Hu.out.below hb)
          replace Hv := Lib.hid (Hv.out.below hb)
          replace Hs := Lib.hid (Hs.out.below hb)
          replace Hq := Lib.hid (Hq.out.below hb)
          replace Hf := Lib.hid (Hf.out.below hb)
          clear hb
          have Hg := Lib.hid hm
          have Lg := Lib.hid hn
          have Sg := Lib.hid hs
          clear hm hn hs
          have HX := Lib.hid (fine_any [0, 0] 2 (some ⟨w9.heap.size, 0, none⟩) 2 (w9.alloc (.cells #[I 0, I 0] 25)) _ (reads_lits w9 _ [I 0, I 0]) (by omega))
          rw [show fineB [0, 0] = true from rfl] at HX
          have hb := below_new w9 (.cells #[I 0, I 0] 25)
          have hbs := HB.out.size
          replace HB := Lib.hid (HB.out.trans (hb.mono hbs))
          clear hbs
          replace Ha := Lib.hid (Ha.out.below hb)
          replace Hb := Lib.hid (Hb.out.below hb)
          replace Hc := Lib.hid (Hc.out.below hb)
          replace Hu := Lib.hid (Hu.out.below hb)
          replace Hv := Lib.hid (Hv.out.below hb)
          replace Hs := Lib.hid (Hs.out.below hb)
          replace Hq := Lib.hid (Hq.out.below hb)
          replace Hf := Lib.hid (Hf.out.below hb)
          replace Hg := Lib.hid (Hg.out.below hb)
          clear hb
          go_wp2_with fail
          refine HX.out.mono ?_
          rintro e w10 ⟨rfl, rfl⟩
          clear HX
          have HC := Lib.hid (same_any (unT x2) (unT x2) _ _ Af Ag cf cg _ Hf.out Hg.out (by have h := NX2.out.1; have h2 := Lf.out; omega) NX2.out.2)
          go_wp2_with fail
          refine HC.out.mono ?_
          rintro e w11 ⟨rfl, hb⟩
          clear HC
          simp only [decide_true]
          have hbs := HB.out.size
          replace HB := Lib.hid (HB.out.trans (hb.mono hbs))
          clear hbs
          replace Ha := Lib.hid (Ha.out.below hb)
          replace Hb := Lib.hid (Hb.out.below hb)
          replace Hc := Lib.hid (Hc.out.below hb)
          replace Hu := Lib.hid (Hu.out.below hb)
          replace Hv := Lib.hid (Hv.out.below hb)
          replace Hs := Lib.hid (Hs.out.below hb)
          replace Hq := Lib.hid (Hq.out.below hb)
          replace Hf := Lib.hid (Hf.out.below hb)
          replace Hg := Lib.hid (Hg.out.below hb)
          clear hb
          go_wp2
          go_ret
          exact ⟨rfl, HB.out⟩
        · have hk2 : ¬ ((0 : Int) = 0 ∧ (addM (tx2 b) (tx2 c)).2 = 0 ∧ (mulM (tx2 a) (tx2 c)).2 = 0) := fun h => hk h.2
          generalize (addM (tx2 b) (tx2 c)).2 = e3 at *
          generalize (mulM (tx2 a) (tx2 c)).2 = e4 at *
          clear hk
          have HX := Lib.hid (fine_any [0, e3, e4] 3 (some ⟨w6.heap.size, 0, none⟩) 3 (w6.alloc (.cells #[I 0, I e3, I e4] 25)) _ (reads_lits w6 _ [I 0, I e3, I e4]) (by omega))
          rw [show fineB [0, e3, e4] = false from by rw [fine3]; exact decide_eq_false hk2] at HX
          have hb := below_new w6 (.cells #[I 0, I e3, I e4] 25)
          have hbs := HB.out.size
          replace HB := Lib.hid (HB.out.trans (hb.mono hbs))
          clear hbs
          replace Ha := Lib.hid (Ha.out.below hb)
          replace Hb := Lib.hid (Hb.out.below hb)
          replace Hc := Lib.hid (Hc.out.below hb)
          replace Hu := Lib.hid (Hu.out.below hb)
          replace Hv := Lib.hid (Hv.out.below hb)
          replace Hs := Lib.hid (Hs.out.below hb)
          replace Hq := Lib.hid (Hq.out.below hb)
          clear hb
          go_wp2_with fail
          refine HX.out.mono ?_
          rintro e w7 ⟨rfl, rfl⟩
          clear HX
          go_wp2
          go_ret
          exact ⟨rfl, HB.out⟩
    · have t1 : ((mulM (tx2 a) (tx2 b)).2 == 0) = false := beq_eq_false_iff_ne.2 h1
      generalize (mulM (tx2 a) (tx2 b)).2 = e1 at *
      generalize (mulM (tx2 b) (tx2 c)).2 = e2 at *
      have he1 : ¬ e1 = 0 := h1
      clear h1
      have HC := Lib.hid (addM_any b nb Ab cb c nc Ac cc w4 Hb.out Sb.out Hc.out Sc.out (tab_below HTB.out HB.out))
      go_wp2_with fail
      refine HC.out.mono ?_
      rintro e w5 ⟨As, ns, cs, s, rfl, hm, he, hs, hb⟩
      clear HC
      have hbs := HB.out.size
      replace HB := Lib.hid (HB.out.trans (hb.mono hbs))
      clear hbs
      replace Ha := Lib.hid (Ha.out.below hb)
      replace Hb := Lib.hid (Hb.out.below hb)
      replace Hc := Lib.hid (Hc.out.below hb)
      replace Hu := Lib.hid (Hu.out.below hb)
      replace Hv := Lib.hid (Hv.out.below hb)
      clear hb
      have Hs := Lib.hid hm
      have Es := Lib.hid he
      have Ss := Lib.hid hs
      have Ls := Lib.hid (show s.length = ns by obtain ⟨_, _, h, _⟩ := hm; exact h)
      clear hm he hs
      have HC := Lib.hid (mulM_any a c na nc Aa Ac ca cc w5 Ha.out Hc.out Sa.out Sc.out (tab_below HTB.out HB.out))
      go_wp2_with fail
      refine HC.out.mono ?_
      rintro e w6 ⟨Aq, nq, cq, q, rfl, hm, he, hs, hb⟩
      clear HC
      have hbs := HB.out.size
      replace HB := Lib.hid (HB.out.trans (hb.mono hbs))
      clear hbs
      replace Ha := Lib.hid (Ha.out.below hb)
      replace Hb := Lib.hid (Hb.out.below hb)
      replace Hc := Lib.hid (Hc.out.below hb)
      replace Hu := Lib.hid (Hu.out.below hb)
      replace Hv := Lib.hid (Hv.out.below hb)
      replace Hs := Lib.hid (Hs.out.below hb)
      clear hb
      have Hq := Lib.hid hm
      have Eq := Lib.hid he
      have Sq := Lib.hid hs
      have Lq := Lib.hid (show q.length = nq by obtain ⟨_, _, h, _⟩ := hm; exact h)
      clear hm he hs
      generalize (addM (tx2 b) (tx2 c)).2 = e3 at *
      generalize (mulM (tx2 a) (tx2 c)).2 = e4 at *
      have HX := Lib.hid (fine_any [e1, e3, e4] 3 (some ⟨w6.heap.size, 0, none⟩) 3 (w6.alloc (.cells #[I e1, I e3, I e4] 25)) _ (reads_lits w6 _ [I e1, I e3, I e4]) (by omega))
      rw [show fineB [e1, e3, e4] = false from by rw [fine3]; exact decide_eq_false fun h => he1 h.1] at HX
      have hb := below_new w6 (.cells #[I e1, I e3, I e4] 25)
      have hbs := HB.out.size
      replace HB := Lib.hid (HB.out.trans (hb.mono hbs))
      clear hbs
      replace Ha := Lib.hid (Ha.out.below hb)
      replace Hb := Lib.hid (Hb.out.below hb)
      replace Hc := Lib.hid (Hc.out.below hb)
      replace Hu := Lib.hid (Hu.out.below hb)
      replace Hv := Lib.hid (Hv.out.below hb)
      replace Hs := Lib.hid (Hs.out.below hb)
      replace Hq := Lib.hid (Hq.out.below hb)
      clear hb
      go_wp2_with fail
      refine HX.out.mono ?_
      rintro e w7 ⟨rfl, rfl⟩
      clear HX
      go_wp2
      go_ret
      exact ⟨rfl, HB.out⟩
end Go.Proofs.YtmnedfkinepnfaaGreatDoor
namespace Go.Proofs.YtmnedfkinepnfaaGreatDoor
open Go.ChangeShapes Go.WideShapes Go.ChangeAt Go.RowKit Go.ChangeMaps

theorem matrixRing_door (os : Os) (args : Array Value) : laidMetH Tryz.prog Rows.matrixRingRow.laid ((World.doorLaid Tryz.prog 62 os).forCall (fun _ _ => 0) ⟨#[], args, []⟩).memory :=
  laidMetH_of_parts3 (fuel := 8) (laidMet_of_run' 8 (by kernel_rfl) (by kernel_rfl)) (by kernel_rfl) (by kernel_rfl)
set_option linter.unusedVariables false in
set_option maxRecDepth 100000 in
theorem matrixRing_lifted (os : Os) (started : os.Started) (H : Type) (enc : TypeId × Value → H) :
    ReturnsInHanded {} Tryz.checked os 5 .any (fun w args => (Rows.matrixRingSpec.pre enc Tryz.prog Tryz.f5 [] false w args ∧ laidMetH Tryz.prog Rows.matrixRingRow.laid w) ∧ sizedMet enc Tryz.prog Tryz.f5 (OpenSpec.ofChange Rows.matrixRingSpec) false w args)
      (Rows.matrixRingSpec.post enc Tryz.prog Tryz.f5 false true false false) := by
  refine returnsInHanded_of_change_and (C := Tryz.checked) (X := fun w _ => laidMetH Tryz.prog Rows.matrixRingRow.laid w) (fun _ _ _ hh h => h.of_heap hh) own started (by kernel_rfl) Tryz.func5
    (ChangeSpec.witness_shaped (enc := enc) (C := Tryz.checked) (os := os) (X := fun w _ => laidMetH Tryz.prog Rows.matrixRingRow.laid w) false (World.doorLaid Tryz.prog 62 os) #[.slice none 0 0, .slice none 0 0, .slice none 0 0] 8 rfl (World.shaped_of_RefB (by kernel_rfl) (by kernel_rfl)) (by kernel_rfl) (by kernel_rfl) (by kernel_rfl) (matrixRing_door os _)) ?_
  intro W base args ds gs before hval0 hW _ _ hL _
  have hval : ∀ (j : Nat) t v, Tryz.f5.params[j]? = some t → args[j]? = some v → Value.okWide Tryz.prog W .any base t v := hval0
  have hW' := hW
  obtain ⟨p, q, hA0, hV, rfl, hfz, hnd⟩ := hW
  have hA : DataW.TrodAll enc Tryz.prog W 0 (fun _ => true) true Tryz.f5.params.toList args.toList ds p := hA0
  rw [Tryz.params5] at hA hval
  obtain ⟨v0, vs0, d0, ds0, p0, q0, hargs, rfl, rfl, h0, r0⟩ := trodAll_cons hA
  obtain ⟨v1, vs1, d1, ds1, p1, q1, rfl, rfl, rfl, h1, r1⟩ := trodAll_cons r0
  obtain ⟨v2, vs2, d2, ds2, p2, q2, rfl, rfl, rfl, h2, r2⟩ := trodAll_cons r1
  obtain ⟨rfl, rfl, rfl⟩ := trodAll_nil r2
  obtain rfl : args = #[v0, v1, v2] := by cases args; simp_all
  obtain ⟨rfl, rfl⟩ := trodVars_none hV
  have k0 := h0
  have lt0 : ∀ x ∈ p0, x.block < W.heap.size := by obtain ⟨m, hm⟩ := k0; exact DataW.trod_lt m _ _ _ hm
  obtain ⟨a0, len0, cap0, rfl⟩ := okWide_slice Tryz.underlying46 (hval 0 46 v0 rfl rfl)
  obtain ⟨fu0, ho0⟩ := h0
  obtain ⟨m0, A0, c0, e0, hm0, hs0⟩ := open_mat (u := .slice a0 len0 cap0) ho0
  injection e0 with ea0 eb0 ec0
  subst ea0 eb0 ec0
  have k1 := h1
  have lt1 : ∀ x ∈ p1, x.block < W.heap.size := by obtain ⟨m, hm⟩ := k1; exact DataW.trod_lt m _ _ _ hm
  obtain ⟨a1, len1, cap1, rfl⟩ := okWide_slice Tryz.underlying46 (hval 1 46 v1 rfl rfl)
  obtain ⟨fu1, ho1⟩ := h1
  obtain ⟨m1, A1, c1, e1, hm1, hs1⟩ := open_mat (u := .slice a1 len1 cap1) ho1
  injection e1 with ea1 eb1 ec1
  subst ea1 eb1 ec1
  have k2 := h2
  have lt2 : ∀ x ∈ p2, x.block < W.heap.size := by obtain ⟨m, hm⟩ := k2; exact DataW.trod_lt m _ _ _ hm
  obtain ⟨a2, len2, cap2, rfl⟩ := okWide_slice Tryz.underlying46 (hval 2 46 v2 rfl rfl)
  obtain ⟨fu2, ho2⟩ := h2
  obtain ⟨m2, A2, c2, e2, hm2, hs2⟩ := open_mat (u := .slice a2 len2 cap2) ho2
  injection e2 with ea2 eb2 ec2
  subst ea2 eb2 ec2
  clear hA0 hval0
  refine (matrixRing_any m0 _ _ _ m1 _ _ _ m2 _ _ _ W hm0 hs0 hm1 hs1 hm2 hs2 (tab_of_laid hL)).mono fun e W' ⟨he, bel⟩ => ?_
  subst he
  exact ⟨_, rfl, _, _, _, [], _, [], hW', trodAll_mk1 (shut_bool Tryz.underlying4 _), (trodAll_cons_mk (Below.trod laidOut (by kernel_rfl) (of_decide_eq_true (by kernel_rfl)) k0 bel lt0) (trodAll_cons_mk (Below.trod laidOut (by kernel_rfl) (of_decide_eq_true (by kernel_rfl)) k1 bel lt1) (trodAll_cons_mk (Below.trod laidOut (by kernel_rfl) (of_decide_eq_true (by kernel_rfl)) k2 bel lt2) trodAll_mk0))), rfl, bel.frame _, fun h => by cases h⟩

theorem matrixRing_said : Rows.MatrixRingSaid :=
  OpenClaim.holds_of_wide 5 Tryz.f5 rfl rfl rfl rfl rfl rfl rfl ⟨rfl, rfl, rfl, rfl, rfl⟩ rfl rfl rfl rfl rfl (by kernel_rfl) Tryz.func5 (by kernel_rfl)
    (of_decide_eq_true (by kernel_rfl)) (by unfold Func.isWrapper; first | (rw [if_pos (by decide +kernel)]; kernel_rfl) | (rw [if_neg (by decide +kernel)]; exact ⟨rfl, rfl⟩))
    (fun os started H enc _ => matrixRing_lifted os started H enc)
theorem matrixRing_plain (f : FuncId) (fn : Func) (hf : Tryz.pinned.checked.prog.funcNamed "gridhall/gridhallkeep1.MatrixRing" = some f) (hfn : Tryz.pinned.checked.prog.funcs[f]? = some fn) :
    true = Tryz.pinned.checked.prog.looks [] ∧ ∀ (j : Nat) t, fn.params[j]? = some t → Tryz.pinned.checked.prog.wantsStandIn t = false := by
  obtain rfl : f = 5 := Option.some.inj ((show Tryz.prog.funcNamed "gridhall/gridhallkeep1.MatrixRing" = some 5 by kernel_rfl).symm.trans hf) |>.symm
  obtain rfl : fn = Tryz.f5 := (Option.some.inj (Tryz.func5.symm.trans hfn)).symm
  refine ⟨by kernel_rfl, fun j t ht => ?_⟩
  rw [Tryz.params5] at ht
  have hm : t ∈ [46] := by
    have := Array.mem_of_getElem? ht
    clear ht hf hfn
    revert this
    revert t
    simp
  have hall : ([46].all fun u => !Tryz.prog.wantsStandIn u) = true := by kernel_rfl
  exact (show Tryz.prog.wantsStandIn t = false by simpa using List.all_eq_true.1 hall t hm)
theorem matrixRing_card : Rows.MatrixRingCardSaid :=
  Claim7.holds_tied_plain_at .later [] _ _ _ _ matrixRing_said (fun _ h => by cases h) (by kernel_rfl) (fun _ h => by cases h) matrixRing_row_tie rfl ⟨rfl, rfl⟩ (by kernel_rfl) rfl matrixRing_plain (by kernel_rfl)
#print axioms matrixRing_card
end Go.Proofs.YtmnedfkinepnfaaGreatDoor
