/- nat.Check, nat.two, nat.text. nat.two and nat.text. strings.Cut at "/". Package nat: Gcd, and what all operations share. rat.Check, rat.CheckAll. (large.Rat).Text, rat.text, large.Parse. -/
import Derived.Lib.ConvBytes
import Derived.Lib.SlicesS
import Derived.LoopN
import Derived.OwnWalk
import Derived.Test.YtenbglfkdldheaaGreatDoorVNO
set_option maxRecDepth 100000
set_option maxHeartbeats 1000000
namespace Go.Proofs.YtenbglfkdldheaaGreatDoor
open Go.RowKit
def SL(s:ByteArray):List UInt8:=s.data.toList
theorem aOb(l:List UInt8):SL ⟨l.toArray⟩=l:=rfl
theorem aOc{s t:ByteArray}(h:SL s=SL t):s=t:=by
 obtain⟨⟨s⟩⟩:=s;obtain⟨⟨t⟩⟩:=t;simp only[SL]at h;rw[h]
theorem aSf(s:ByteArray)(l L:List UInt8)(h:(⟨l.toArray⟩:ByteArray).toList=L):(s.toList==L)=decide (SL s=l):=by
 rw[←h];by_cases e:SL s=l
 ·rw[decide_eq_true e];exact(Lib.bytes_beq_iff _ _).2 (aOc e)
 ·rw[decide_eq_false e];exact(Lib.bytes_beq_false_iff _ _).2 fun k=>e (by rw[k];exact aOb l)
theorem aKh(n:Nat):short (n:Int)=aKa n:=by simp[short,aKa]
theorem aSg(l:List UInt8):(⟨l.toArray⟩:ByteArray).size=l.length:=by simp[ByteArray.size]
def aWq(w:World)(z:Int)(e:Ending)(w':World):Prop:=∃s,e= .returned (.tuple #[.string s,.bool (short z)])∧(short z=true→s=⟨(Lib.itoa z).toArray⟩)∧s.size≤4000∧Below w.heap.size w w'
theorem aKi{z:Int}{k:Nat}(hk:k=2100)(h:(z.natAbs:Int)<P32 210):(⟨(Lib.itoa z).toArray⟩:ByteArray).size≤4000:=by
 have key:P32 210≤((10^k:Nat):Int):=by subst hk;decide+kernel
 have h1:z.natAbs<10^k:=by omega
 have h2:=(vR z.natAbs k (by omega)).2 h1;rw[aSg,Lib.itoa];split
 ·simp;omega
 ·rw[show z.toNat=z.natAbs by omega];omega
theorem yL(v:Value)(z:Int)(w:World)(hx:Big w v z)(htab:Tab w):Calls Tryz.prog 181 #[v] w (aWq w z):=by
 obtain⟨A,ca,wz,rfl,hnz,hvz⟩:=hx.nn;have HB:=aH ((Below.refl w.heap.size w).alloc lR (.cells #[.bool (decide (z<0)),.slice A wz.length ca] aN));by_cases h0:wz.length=0
 ·have hz:z=0:=by
   rw[List.eq_nil_of_length_eq_zero h0]at hvz;simp[val]at hvz;omega
  have hs:short z=true:=by rw[hz];decide+kernel
  have hi:(⟨#[48]⟩:ByteArray)=⟨(Lib.itoa z).toArray⟩:=by rw[hz];decide+kernel
  have HS:=aH hs;have HII:=aH hi;have t0:((wz.length:Int)==0)=true:=beq_iff_eq.2 (by omega);clear hx hnz hvz htab h0 hz hs hi;generalize decide (z<0)=b at*;unfold aN at*;go_enter Tryz.func181,Tryz.ntmps181;go_wp2;go_ret2;exact⟨_,aAk _ _ HS.out,fun _=>HII.out,by decide,HB.out⟩
 ·by_cases hl:wz.length≤210
  ·refine(aNp z A ca wz w hnz hvz (by omega) hl htab).mono ?_;rintro e w' ⟨rfl,hb⟩;exact⟨_,rfl,fun _=>rfl,aKi (k:=2100) rfl (Int.lt_of_lt_of_le (show(z.natAbs:Int)<P32 wz.length by rw[←hvz];exact dW hnz.ok) (fE hl)),hb⟩
  ·have HS:=aH (aCm hnz.ok hnz.nm hvz (by omega));have t0:((wz.length:Int)==0)=false:=beq_eq_false_iff_ne.2 (by omega);have t1:decide (210<(wz.length:Int))=true:=decide_eq_true (by omega);clear hx hnz hvz htab h0 hl;generalize decide (z<0)=b at*;unfold aN at*;go_enter Tryz.func181,Tryz.ntmps181;go_wp2;go_ret2;exact⟨_,xD _ _ HS.out,fun h=>(by rw[HS.out]at h;cases h),by decide,HB.out⟩
def aCz(w:World)(q:Rat)(e:Ending)(w':World):Prop:=∃s,e= .returned (.tuple #[.string s,.bool (fA q)])∧(fA q=true→s=⟨(cF q).toArray⟩)∧Below w.heap.size w w'
theorem yM(q:Rat):short q.num=aKa q.num.natAbs:=rfl
theorem yN(q:Rat):short (q.den:Int)=aKa q.den:=aKh _
theorem aVi(a b:List UInt8):((⟨a.toArray⟩:ByteArray)++⟨#[47]⟩)++⟨b.toArray⟩=⟨(a++47::b).toArray⟩:=aOc (by
 rw[aOb];simp[SL])
theorem aOd{q:Rat}(h:short q.num=false):fA q=false:=by rw[fA,←yM,h];rfl
theorem aOe{q:Rat}(h:short (q.den:Int)=false):fA q=false:=by rw[fA,←yN,h,Bool.and_false]
theorem aOf{q:Rat}(h:short q.num=true)(h2:short (q.den:Int)=true):fA q=true:=by rw[fA,←yM,←yN,h,h2];rfl
theorem aKj(v:Value)(q:Rat)(w:World)(hx:Rt w v q)(htab:Tab w):Calls Tryz.prog 158 #[v] w (aCz w q):=by
 obtain⟨A,l,c,B,m,d,rfl,hn,hd⟩:=hx.form;obtain⟨hv,hb⟩:=iO w (.bool (decide (q.num<0))) (.slice A l c) (.bool false) (.slice B m d);have HT:=aH (yL _ _ _ (hn.ext hb) (cE htab hb));have HB:=aH hb;have HD:=aH (hd.ext hb);have HV:=aH hv;have HTB:=aH htab;have v0:=hv.c0;have v1:=hv.c1;clear hx hn hd hv hb htab;generalize decide (q.num<0)=nb at*;unfold aJ at*;go_enter Tryz.func158,Tryz.ntmps158;go_wp2_with fail;generalize w.alloc (Obj.cells #[Value.bool nb,Value.slice A l c,Value.bool false,Value.slice B m d] 122)=W0 at*;refine HT.out.mono ?_;rintro e w1 ⟨s,rfl,hs,zs,hb⟩;have HB1:=aH (HB.out.trans (hb.mono HB.out.size));have HD1:=aH (HD.out.ext hb);have HV1:=HV.out.below hb;have HS:=aH hs;clear HB HD HV HT hb hs v0 v1;by_cases h1:short q.num=true
 ·rw[h1];have v2:=HV1.c2;have v3:=HV1.c3;have HT:=aH (yL _ _ _ HD1.out (cE HTB.out HB1.out));clear HV1;go_wp2_with fail;refine HT.out.mono ?_;rintro e w2 ⟨t,rfl,ht,zt,hb⟩;have zs1:(s++⟨#[47]⟩).size≤4001:=by rw[ByteArray.size_append];exact Nat.add_le_add_right zs 1
  have HB2:=aH (HB1.out.trans (hb.mono HB1.out.size));clear hb HB1 HT;have hlit:=aSf t [49] [49] (by decide+kernel);by_cases h2:short (q.den:Int)=true
  ·have et:=ht h2;have es:=HS.out h1;have hf:=aOf h1 h2;have hst:SL t=Lib.decDigits q.den:=by rw[et,aOb,aCp]
   have h49:(SL t=[49])↔q.den=1:=by
    rw[hst];exact⟨aRv,fun k=>by rw[k];decide+kernel⟩
   rw[h2];by_cases h3:q.den=1
   ·rw[decide_eq_true (h49.2 h3)]at hlit;have HQ:=aH (show aCz w q (.returned (.tuple #[.string s,.bool true])) w2 from⟨s,by rw[hf],fun _=>by rw[es,cF,if_pos h3],HB2.out⟩);clear ht et es hf hst h49 HS h3;go_wp2;go_ret2;exact HQ.out
   ·rw[decide_eq_false (fun k=>h3 (h49.1 k))]at hlit;have HQ:=aH (show aCz w q (.returned (.tuple #[.string ((s++⟨#[47]⟩)++t),.bool true])) w2 from⟨_,by rw[hf],fun _=>by rw[es,et,aCp,aVi,cF,if_neg h3],HB2.out⟩);clear ht et es hf hst h49 HS h3;go_wp2;go_ret2;exact HQ.out
  ·have h2:=Bool.eq_false_iff.2 h2;have hf:=aOe h2;rw[h2];have HQ:=aH fun s=>(show aCz w q (.returned (.tuple #[.string s,.bool false])) w2 from⟨s,by rw[hf],fun k=>(by rw[hf]at k;cases k),HB2.out⟩);clear ht hf HS;by_cases h3:SL t=[49]
   ·rw[decide_eq_true h3]at hlit;clear h3;go_wp2;go_ret2;exact HQ.out _
   ·rw[decide_eq_false h3]at hlit;clear h3;go_wp2;go_ret2;exact HQ.out _
 ·have h1:=Bool.eq_false_iff.2 h1;have hf:=aOd h1;rw[h1];have HQ:=aH (show aCz w q (.returned (.tuple #[.string ⟨#[]⟩,.bool false])) w1 from⟨_,by rw[hf],fun k=>(by rw[hf]at k;cases k),HB1.out⟩);clear hf HS HV1;go_wp2;go_ret2;exact HQ.out
end Go.Proofs.YtenbglfkdldheaaGreatDoor
