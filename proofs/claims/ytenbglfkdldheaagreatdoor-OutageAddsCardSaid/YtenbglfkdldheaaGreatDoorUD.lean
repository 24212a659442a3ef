/- slices.Clone of words; large.divWords. -/
import Derived.Test.YtenbglfkdldheaaGreatDoorUC
set_option maxRecDepth 100000
set_option maxHeartbeats 4000000
namespace Go.Proofs.YtenbglfkdldheaaGreatDoor
open Go.RowKit
def uZ(w:World)(ws:List Int)(e:Ending)(w':World):Prop:=∃A c,e= .returned (.slice A ws.length c)∧Reads w' w'.heap.size 1 A ws.length (ws.map U)∧(ws.length≤c∧c≤maxLen)∧Below w.heap.size w w'
theorem aAr{w w1 w':World}{ws:List Int}{v:Value}(h1:Below w.heap.size w w1)(hr:Row w' w.heap.size 247 1 v ws.length (ws.map U))(hb:Below w.heap.size w1 w'):uZ w ws (.returned v) w':=by
 obtain⟨A,c,rfl,h2,h3⟩:=hr.caps;exact⟨A,c,rfl,hr.reads,⟨h2,h3⟩,h1.trans hb⟩
theorem aLh(ws:List Int):∀u∈ws.map U,u.oneCell'=true:=by
 intro u hu;obtain⟨x,_,rfl⟩:=List.mem_map.1 hu;rfl
theorem rX(ws:List Int)(A:Option Addr)(c:Nat)(w:World)(hr:Reads w w.heap.size 1 A ws.length (ws.map U))(hn:ws.length≤1000000000): Calls Tryz.prog 184 #[.slice A ws.length c] w (uZ w ws):=by
 have HR:=aH hr;have H1:=aH (aLh ws);have q1:∀(w:World) (a:Option Addr) (n c n' c':Nat),(binOp .eql 118 (.slice a n c) (.slice none n' c')).run Tryz.prog w= .ok (.bool a.isNone) w:=fun w a n c n' c'=>Lib.run_eql_slice_nil w _ _ a n c n' c' Tryz.underlying118;rcases A with _|⟨b,off,st⟩
 ·have h0:ws=[]:=by
   rcases Nat.eq_zero_or_pos ws.length with h|h
   ·exact List.eq_nil_of_length_eq_zero h
   ·obtain⟨b,off,h,_⟩:=hr.2 h;cases h
  subst h0;clear hr;go_enter Tryz.func184,Tryz.ntmps184;go_wp2;go_ret;exact⟨none,0,rfl,Reads.nil,⟨Nat.le_refl _,Nat.zero_le _⟩,Below.refl _ _⟩
 ·clear hr;obtain⟨i0,hi0,hz0,hz1,hz2⟩:=info_parts uW;have HI:=aH hi0;have HZ0:=aH hz0;have HZ1:=aH hz1;have HZ2:=aH hz2;clear hi0 hz0 hz1 hz2;go_enter Tryz.func184,Tryz.ntmps184;go_wp2_with(at_builtin;refine bR rfl _ _ 118 rfl w.heap.size 247 i0 _ 1 4 Tryz.underlying118 HI.out HZ0.out HZ1.out HZ2.out rfl (by decide) _ 0 [] rfl (Row.empty w _ 247 1 lR) w.heap.size (some ⟨b,off,st⟩) ws.length c (ws.map U) rfl (HR.out.below ((Below.refl _ _).alloc lR _)) H1.out ?c1 ?c2 ?c3 ?_);case c1=>unfold maxLen;omega
  case c2=>omega
  case c3=>simp
  intro v' w' hr' hb';have HF:=aH (aAr ((Below.refl _ w).alloc lR _) hr' hb');clear hr' hb';go_wp2;go_ret;exact HF.out
theorem aLi(a b:List Int)(A B:Option Addr)(ca cb:Nat)(w:World)(hA:Reads w w.heap.size 1 A a.length (a.map U))(hB:Reads w w.heap.size 1 B b.length (b.map U))(oa:Ok a)(ob:Ok b)(na:Nm a)(nb:Nm b)(hl:a.length≤1000000000)(hm:b.length≤1000000000)(hlt:val a<val b): Calls Tryz.prog 183 #[.slice A a.length ca,.slice B b.length cb] w (aAq w (val a) (val b)):=by
 have HC:=aH (qA a b A B ca cb w hA hB oa ob na nb (by omega) (by omega));have HLT:=aH hlt;have HA:=aH hA;have h0:=bD oa;have HD:=aH (show val []=val a/val b by rw[Int.ediv_eq_zero_of_lt h0 hlt];rfl);have HM:=aH (show val a=val a%val b from(Int.emod_eq_of_lt h0 hlt).symm);clear hlt hA hB h0;go_enter Tryz.func183,Tryz.ntmps183;go_wp2_with fail;refine HC.out.mono ?_;rintro e W0 ⟨r,rfl,⟨hr1,hr2,hr3,hr4⟩,hb0⟩;have hr0:r<0:=hr1.2 HLT.out;have tr:decide (r<0)=true:=decide_eq_true hr0;have HB0:=aH hb0;clear HC hr1 hr2 hb0 hr0;go_wp2;go_ret2;exact⟨none,0,A,ca,[],a,rfl,Reads.nil,(HA.out.below HB0.out).more HB0.out.size,Ok.nil,oa,HD.out,HM.out,⟨by simp,hl⟩,HB0.out⟩
theorem aPa(a b:List Int)(A B:Option Addr)(ca cb:Nat)(w:World)(hA:Reads w w.heap.size 1 A a.length (a.map U))(hB:Reads w w.heap.size 1 B b.length (b.map U))(oa:Ok a)(ob:Ok b)(na:Nm a)(nb:Nm b)(hl:a.length≤1000000000)(hb1:b.length=1)(hge:val b≤val a): Calls Tryz.prog 183 #[.slice A a.length ca,.slice B b.length cb] w (aAq w (val a) (val b)):=by
 have HC:=aH (qA a b A B ca cb w hA hB oa ob na nb (by omega) (by omega));obtain⟨d,rfl⟩:∃d,b=[d]:=List.length_eq_one_iff.1 hb1;have hv:val [d]=d:=by simp[val]
 have hd1:1≤d:=by
  have:=nb (by simp);have:=ob.head;simp at*;omega
 have hd2:d<4294967296:=ob.head.2;rw[hv]at HC hge⊢;have HGE:=aH hge;have HA:=aH hA;have hB0:=hB.word (k:=0) (by simp);obtain⟨bb,offb,hBe,hbb,hcb⟩:=hB0;subst hBe;simp only[List.getD_cons_zero,Nat.add_zero]at hcb;have HOA:=aH oa;clear hge hA hB hv hb1;go_enter Tryz.func183,Tryz.ntmps183;go_wp2_with fail;refine HC.out.mono ?_;rintro e W0 ⟨r,rfl,⟨hr1,hr2,hr3,hr4⟩,hb0⟩;have hr0:¬r<0:=by have:=HGE.out;omega
 have tr:decide (r<0)=false:=decide_eq_false hr0;have hcb':W0.cell? ⟨bb,offb,none⟩=some (U d):=(hb0.cell (p:=⟨bb,offb,none⟩) hbb).trans hcb;have HB0:=aH hb0;have HS:=aH (qE a A ca d W0 ((HA.out.below hb0).more hb0.size) oa hl hd1 hd2);have hbb':bb<W0.heap.size:=by have:=hb0.size;omega
 clear HC hr1 hr2 hb0 hr0 hcb;go_wp2_with fail;refine HS.out.mono ?_;rintro e w2 ⟨v2,o2,rfl,hr2,ho2,hv2,hl2,hb2⟩;obtain⟨A2,c2,rfl,-,-⟩:=hr2.caps;have hmod0:=Int.emod_nonneg (val a) (show d≠0 by omega);have hmod1:=Int.emod_lt_of_pos (val a) (show 0<d by omega);have HB2:=aH (HB0.out.trans (hb2.mono HB0.out.size));have HR2:=aH hr2;have HV2:=aH hv2;have HL2:=aH hl2;clear hr2 hv2 hl2 hb2 HS;generalize hme:val a%d=m at*;have HME:=aH hme;clear hme;go_wp2;go_ret2;refine⟨A2,c2,some ⟨w2.heap.size,0,none⟩,1,o2,[m],rfl,((HR2.out.reads).below ((Below.refl _ _).alloc lR _)).more (by simp),?_,ho2,?_,HV2.out,by rw[HME.out];simp[val],⟨by rw[HL2.out];exact hl,by simp⟩,HB2.out.alloc HB2.out.size _⟩
 ·refine⟨by simp,fun _=>⟨_,0,rfl,by simp,fun j u hu=>?_⟩⟩;rw[(Blk.new w2 247 #[U m]).cell,Nat.zero_add];simpa using hu
 ·intro x hx;simp at hx;subst hx;omega
theorem aDa(a b:List Int)(A B:Option Addr)(ca cb:Nat)(w:World)(hA:Reads w w.heap.size 1 A a.length (a.map U))(hB:Reads w w.heap.size 1 B b.length (b.map U))(oa:Ok a)(ob:Ok b)(na:Nm a)(nb:Nm b)(hl:a.length≤1000000000)(hm:b.length≤1000000000)(hpos:0<val b): Calls Tryz.prog 183 #[.slice A a.length ca,.slice B b.length cb] w (aAq w (val a) (val b)):=by
 by_cases h1:val a<val b
 ·exact aLi a b A B ca cb w hA hB oa ob na nb hl hm h1
 ·by_cases h2:b.length=1
  ·exact aPa a b A B ca cb w hA hB oa ob na nb hl h2 (by omega)
  ·have h3:b.length≠0:=by
    intro e;rw[List.eq_nil_of_length_eq_zero e]at hpos;exact absurd hpos (by decide)
   exact aGj a b A B ca cb w hA hB oa ob na nb hl hm (by omega) (by omega)
end Go.Proofs.YtenbglfkdldheaaGreatDoor
