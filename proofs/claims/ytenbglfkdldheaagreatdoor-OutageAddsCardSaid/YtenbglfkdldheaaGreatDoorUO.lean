/- nat.Check, nat.two, nat.text. nat.two and nat.text. strings.Cut at "/". Package nat: Gcd, and what all operations share. rat.Check, rat.CheckAll. (large.Rat).Text, rat.text, large.Parse. -/
import Derived.Lib.ConvBytes
import Derived.Lib.SlicesS
import Derived.LoopN
import Derived.OwnWalk
import Derived.Test.YtenbglfkdldheaaGreatDoorUNO
set_option maxRecDepth 100000
set_option maxHeartbeats 2000000
namespace Go.Proofs.YtenbglfkdldheaaGreatDoor
open Go.RowKit
def SL(s:ByteArray):List UInt8:=s.data.toList
theorem gZ(s:ByteArray):(SL s).length=s.size:=by simp[SL]
theorem wU(l:List UInt8):SL ⟨l.toArray⟩=l:=rfl
theorem wV{s t:ByteArray}(h:SL s=SL t):s=t:=by
 obtain⟨⟨s⟩⟩:=s;obtain⟨⟨t⟩⟩:=t;simp only[SL]at h;rw[h]
theorem aRo{s:ByteArray}(h:kX (SL s)=true)(h0:s.size≠0)(h1:¬(1<s.size∧((SL s).getD 0 0).toNat=48)):chk (SL s)=if 2000<s.size then 2 else 0:=by
 unfold chk;rw[if_neg (by rw[h];simp),if_neg,gZ];rintro(e|⟨e1,e2⟩)
 ·have:=gZ s;rw[e]at this;exact h0 this.symm
 ·rw[gZ]at e1;refine h1 ⟨e1,?_⟩;cases hl:SL s with
  |nil=>rw[hl]at e2;cases e2
  |cons c l=>
   rw[hl,List.head?_cons]at e2;rw[Option.some.inj e2];rfl
theorem aJt{s:ByteArray}(h:kX (SL s)=false):chk (SL s)=5:=by unfold chk;rw[if_pos h]
theorem aMy{s:ByteArray}(h0:s.size=0):chk (SL s)=5:=by
 have:SL s=[]:=List.eq_nil_of_length_eq_zero (by rw[gZ];exact h0);rw[this];rfl
theorem aRp{s:ByteArray}(h:1<s.size)(h1:((SL s).getD 0 0).toNat=48):chk (SL s)=5:=by
 unfold chk;split
 ·rfl
 ·rw[if_pos];refine .inr ⟨by rw[gZ];exact h,?_⟩;cases hl:SL s with
  |nil=>have:=gZ s;rw[hl]at this;simp at this;omega
  |cons c l=>
   rw[hl]at h1;rw[List.head?_cons,show c=48 from UInt8.toNat_inj.1 h1]
theorem aWk(s:ByteArray)(k:Nat):((SL s).getD k 0).toNat<256:=UInt8.toNat_lt _
theorem aCb(s:ByteArray)(l L:List UInt8)(h:(⟨l.toArray⟩:ByteArray).toList=L):(s.toList==L)=decide (SL s=l):=by
 rw[←h];by_cases e:SL s=l
 ·rw[decide_eq_true e];exact(Lib.bytes_beq_iff _ _).2 (wV e)
 ·rw[decide_eq_false e];exact(Lib.bytes_beq_false_iff _ _).2 fun k=>e (by rw[k];exact wU l)
theorem aCc(s:ByteArray)(w:World)(hs:s.size≤9223372036854775807):Calls Tryz.prog 96 #[.string s] w fun e w'=>e= .returned (I (chk (SL s)))∧Below w.heap.size w w':=by
 have hcv:=Lib.run_convert_string_bytes (P:=Tryz.prog) w 9 219 5 s Tryz.underlying9 Tryz.underlying219 Tryz.underlying5;go_enter Tryz.func96,Tryz.ntmps96;go_wp2;have HB:Hid (Below w.heap.size w (Lib.bytesWorld w 5 s)):=⟨rfl,rfl,rfl,by rw[Lib.bytesWorld_size];omega,fun j hj=>Lib.bytesWorld_at_old w 5 s j hj⟩;have HC:=aH (fun j hj=>Lib.bytesWorld_cell w 5 s j hj);clear hcv;generalize Lib.bytesWorld w 5 s=wb at*;generalize grownCap w s.size 0 5=gc at*;go_loopg [8] (s.size-0) (fun r v wr=>∃k:Nat,r=s.size-k∧v=I k∧k≤s.size∧wb=wr∧Hid (kX (SL s)=kX ((SL s).drop k)));case atStart=>exact⟨0,rfl,rfl,by omega,rfl,rfl⟩
 case round=>
  obtain⟨k,rfl,rfl,hk,rfl,HO⟩:=hrel;by_cases hlt:k<s.size
  ·have hc:wb.cell? ⟨w.heap.size,k,none⟩=some (.int .u8 (((SL s).getD k 0).toNat:Int)):=by have:=HC.out k hlt;simpa[SL]using this
   have hb:=aWk s k;have HO2:=aH (show kX (SL s)=((decide (48≤((SL s).getD k 0).toNat)&&decide (((SL s).getD k 0).toNat≤57))&&kX ((SL s).drop (k+1))) by
    have hk':k<(SL s).length:=by rw[gZ];exact hlt
    rw[HO.out,List.drop_eq_getElem_cons hk',kX,List.all_cons,gD,gE hk'];rfl)
   obtain⟨x,hx⟩:∃x,((SL s).getD k 0).toNat=x:=⟨_,rfl⟩;rw[hx]at hc hb HO2;clear hx HO;by_cases h1:48≤x
   ·by_cases h2:x≤57
    ·have HO3:=aH (show kX (SL s)=kX ((SL s).drop (k+1)) by rw[HO2.out,decide_eq_true h1,decide_eq_true h2];rfl);go_wp2;go_roundg (s.size-(k+1));case measure=>omega
     case rel=>exact⟨k+1,rfl,by go_num,by omega,rfl,HO3⟩
    ·have HN:=aH (aJt (s:=s) (by rw[HO2.out,decide_eq_false h2];simp));go_wp2;go_ret;exact⟨aE HN.out.symm,HB.out⟩
   ·have HN:=aH (aJt (s:=s) (by rw[HO2.out,decide_eq_false h1];simp));go_wp2;go_ret;exact⟨aE HN.out.symm,HB.out⟩
  ·have HD:=aH (show kX (SL s)=true by
    have hk':(SL s).drop k=[]:=List.drop_of_length_le (by rw[gZ];omega);rw[HO.out,hk'];rfl)
   clear HO;have te:=aCb s [] [] (by decide+kernel);have el:SL s=[]↔s.size=0:=by rw[←gZ];exact List.length_eq_zero_iff.symm
   by_cases h0:s.size=0
   ·have HN:=aH (aMy h0);rw[decide_eq_true (el.2 h0)]at te;clear el;go_wp2;go_ret;exact⟨aE HN.out.symm,HB.out⟩
   ·rw[decide_eq_false (fun k=>h0 (el.1 k))]at te;clear el;by_cases h1:1<s.size
    ·have e0:(SL s).getD 0 0=s[0]'(by omega):=by
      have:0<(SL s).length:=by rw[gZ];omega
      rw[gD,gE this];rfl
     by_cases h48:(s[0]'(by omega)).toNat=48
     ·have HX:=aH (aRp h1 (by rw[e0];exact h48));have t48:(((s[0]'(by omega)).toNat:Int)==48)=true:=beq_iff_eq.2 (by omega);clear e0;go_wp2;go_ret;exact⟨aE HX.out.symm,HB.out⟩
     ·have t48:(((s[0]'(by omega)).toNat:Int)==48)=false:=beq_eq_false_iff_ne.2 (by omega);have HY:=aH (aRo HD.out h0 (fun k=>h48 (by rw[←e0];exact k.2)));clear e0;by_cases h2:2000<s.size
      ·rw[if_pos h2]at HY;go_wp2;go_ret;exact⟨aE HY.out.symm,HB.out⟩
      ·rw[if_neg h2]at HY;go_wp2;go_ret;exact⟨aE HY.out.symm,HB.out⟩
    ·have HY:=aH (aRo HD.out h0 (fun k=>h1 k.1));rw[if_neg (by omega)]at HY;go_wp2;go_ret;exact⟨aE HY.out.symm,HB.out⟩
theorem kI{l:List UInt8}(h:Digs l):Lib.hasPrefix l [45]=false:=by
 cases l with
 |nil=>rfl
 |cons c l=>
  have:=h c List.mem_cons_self;have hc:c≠45:=fun e=>by rw[e]at this;exact absurd this.1 (by decide)
  simp[Lib.hasPrefix,List.isPrefixOf,beq_eq_false_iff_ne.2 (Ne.symm hc)]
theorem nM{l:List UInt8}(h:Digs l):Lib.trimPrefix l [45]=l:=by
 unfold Lib.trimPrefix;rw[kI h];rfl
theorem wW(s:ByteArray)(w:World)(h:Num (SL s)):Calls Tryz.prog 151 #[.string s] w (RetBig w (num (SL s):Int)):=aEa false (SL s) h.digs h.len s w (kI h.digs) (nM h.digs)
theorem aHk(s t:ByteArray)(w:World):(Instr.index 259 (.agg #[.string s,.string t]) (.int .i64 0)).run Tryz.prog w= .ok (.string s) w:=by kernel_rfl
theorem aHl(s t:ByteArray)(w:World):(Instr.index 259 (.agg #[.string s,.string t]) (.int .i64 1)).run Tryz.prog w= .ok (.string t) w:=by kernel_rfl
def TwoR(w:World)(s t:ByteArray)(e:Ending)(w':World):Prop:=∃u v x y,e= .returned (.tuple #[u,v,I (eG (SL s) (SL t))])∧Big w' u x∧Big w' v y∧ (eG (SL s) (SL t)=0→x=(num (SL s):Int)∧y=(num (SL t):Int))∧Below w.heap.size w w'
theorem TwoR.bad{w w':World}{s t:ByteArray}{c:Int}(hc:eG (SL s) (SL t)=c)(h0:c≠0)(hb:Below w.heap.size w w'):TwoR w s t (.returned (.tuple #[.agg #[.bool false,.slice none 0 0],.agg #[.bool false,.slice none 0 0],I c])) w':=⟨_,_,0,0,by rw[hc],vY _,vY _,fun k=>absurd (hc.symm.trans k) h0,hb⟩
theorem TwoR.good{w w':World}{s t:ByteArray}{u v:Value}(hc:eG (SL s) (SL t)=0)(hu:Big w' u (num (SL s):Int))(hv:Big w' v (num (SL t):Int))(hb:Below w.heap.size w w'):TwoR w s t (.returned (.tuple #[u,v,I 0])) w':=⟨_,_,_,_,by rw[hc],hu,hv,fun _=>⟨rfl,rfl⟩,hb⟩
theorem aWl(s t:ByteArray)(w:World)(hs:s.size≤9223372036854775807)(ht:t.size≤9223372036854775807):Calls Tryz.prog 145 #[.string s,.string t] w (TwoR w s t):=by
 have hb1:Below w.heap.size w ((w.alloc (.cells #[.bool false,.slice none 0 0] aK)).alloc (.cells #[.bool false,.slice none 0 0] aK)):=((Below.refl _ _).alloc lR _).alloc (by simp) _;have V0:=aH ((Blk.new w aK #[.bool false,.slice none 0 0]).alloc (.cells #[.bool false,.slice none 0 0] aK)).var;have V1:=(Blk.new (w.alloc (.cells #[.bool false,.slice none 0 0] aK)) aK #[.bool false,.slice none 0 0]).var;rw[World.size_alloc w]at V1;have V1:=aH V1;have HB:=aH hb1;clear hb1;have ix0:=aHk s t;have ix1:=aHl s t;unfold aK at*;go_enter Tryz.func145,Tryz.ntmps145;go_wp2;generalize hW0:(w.alloc (Obj.cells #[Value.bool false,Value.slice none 0 0] 120)).alloc (Obj.cells #[Value.bool false,Value.slice none 0 0] 120)=W0 at*;clear hW0;refine wp_loop_rounds 3 ?_;rw[rounds_succ];go_wp2_with(go_at_call 96;refine(aCc s _ hs).mono ?_);rintro e w1 ⟨rfl,hb⟩;have HB1:=aH (HB.out.trans (hb.mono HB.out.size));have V01:=aH (V0.out.below hb);have V11:=aH (V1.out.below hb);clear hb V0 V1 HB;by_cases h0:chk (SL s)=0
 ·rw[h0];go_wp2;rw[rounds_succ];go_wp2_with(go_at_call 96;refine(aCc t _ ht).mono ?_);rintro e w2 ⟨rfl,hb⟩;have HB2:=aH (HB1.out.trans (hb.mono HB1.out.size));have V02:=aH (V01.out.below hb);have V12:=aH (V11.out.below hb);clear hb V01 V11 HB1;by_cases h1:chk (SL t)=0
  ·have HT:=aH (show eG (SL s) (SL t)=0 by rw[eG,if_pos h0,h1]);have ns:=(lY _).1 h0;have nt:=(lY _).1 h1;rw[h1];go_wp2;rw[rounds_succ];go_wp2_with(go_at_call 151;refine(wW s _ ns).mono ?_);rintro e w3 ⟨vs,rfl,hvs,hb⟩;have HB3:=aH (HB2.out.trans (hb.mono HB2.out.size));have V03:=aH (V02.out.below hb);have V13:=aH (V12.out.below hb);have HS:=aH hvs;obtain⟨As,ls,cs,rfl⟩:=hvs.form;clear hb V02 V12 HB2 hvs;go_wp2_with(go_at_call 151;refine(wW t _ nt).mono ?_);rintro e w4 ⟨vt,rfl,hvt,hb⟩;have HB4:=aH (HB3.out.trans (hb.mono HB3.out.size));have V04:=aH (V03.out.below hb);have V14:=aH (V13.out.below hb);have HS4:=aH (HS.out.ext hb);have HT4:=aH hvt;obtain⟨At,lt,ct,rfl⟩:=hvt.form;clear hb V03 V13 HB3 hvt HS;have c0:=V04.out.c0;have c1:=V04.out.c1;have c2:=V04.out.f0;have c3:=V04.out.f1;have d0:=V14.out.c0;have d1:=V14.out.c1;have d2:=V14.out.f0;have d3:=V14.out.f1;generalize decide ((num (SL s):Int)<0)=bs at*;generalize decide ((num (SL t):Int)<0)=bt at*;have V05:=V04.out.set (.bool bs) (.slice As ls cs);have HQ:=aH (TwoR.good HT.out ((HS4.out.setVar V04.out (.bool bs) (.slice As ls cs)).setVar (V14.out.far (g':=w.heap.size) (by omega) (.bool bs) (.slice As ls cs)) (.bool bt) (.slice At lt ct)) ((HT4.out.setVar V04.out (.bool bs) (.slice As ls cs)).setVar (V14.out.far (g':=w.heap.size) (by omega) (.bool bs) (.slice As ls cs)) (.bool bt) (.slice At lt ct)) (((HB4.out.setCell (p:=⟨w.heap.size,0,none⟩) lR (.bool bs)).setCell (p:=⟨w.heap.size,1,none⟩) lR (.slice As ls cs)|>.setCell (p:=⟨w.heap.size+1,0,none⟩) (Nat.le_succ _) (.bool bt)).setCell (p:=⟨w.heap.size+1,1,none⟩) (Nat.le_succ _) (.slice At lt ct)));have Z0:=aH (V05.far (g':=w.heap.size+1) (by omega) (.bool bt) (.slice At lt ct));have Z1:=aH ((V14.out.far (g':=w.heap.size) (by omega) (.bool bs) (.slice As ls cs)).set (.bool bt) (.slice At lt ct));clear V05;go_wp2;have z0:=Z0.out.c0;have z1:=Z0.out.c1;have y0:=Z1.out.c0;have y1:=Z1.out.c1;generalize((((w4.setCell ⟨w.heap.size,0,none⟩ (.bool bs)).setCell ⟨w.heap.size,1,none⟩ (.slice As ls cs)).setCell ⟨w.heap.size+1,0,none⟩ (.bool bt)).setCell ⟨w.heap.size+1,1,none⟩ (.slice At lt ct))=W at*;exact bodyPost_ret (v:= .tuple #[.agg #[(.bool bs),(.slice As ls cs)],.agg #[(.bool bt),(.slice At lt ct)],I 0]) (by simp[results,Tryz.results145,go_sem,z0,z1,y0,y1]) rfl HQ.out
  ·have HT:=aH (show eG (SL s) (SL t)=chk (SL t) by rw[eG,if_pos h0]);generalize chk (SL t)=c at*;have c0:=V02.out.c0;have c1:=V02.out.c1;have c2:=V02.out.f0;have c3:=V02.out.f1;have d0:=V12.out.c0;have d1:=V12.out.c1;have d2:=V12.out.f0;have d3:=V12.out.f1;have tc:(c !=0)=true:=bne_iff_ne.2 h1;have HQ:=aH (TwoR.bad HT.out h1 (((HB2.out.setCell (p:=⟨w.heap.size,0,none⟩) lR (.bool false)).setCell (p:=⟨w.heap.size,1,none⟩) lR (.slice none 0 0)|>.setCell (p:=⟨w.heap.size+1,0,none⟩) (Nat.le_succ _) (.bool false)).setCell (p:=⟨w.heap.size+1,1,none⟩) (Nat.le_succ _) (.slice none 0 0)));have Z0:=aH ((V02.out.set (.bool false) (.slice none 0 0)).far (g':=w.heap.size+1) (by omega) (.bool false) (.slice none 0 0));have Z1:=aH ((V12.out.far (g':=w.heap.size) (by omega) (.bool false) (.slice none 0 0)).set (.bool false) (.slice none 0 0));go_wp2;have z0:=Z0.out.c0;have z1:=Z0.out.c1;have y0:=Z1.out.c0;have y1:=Z1.out.c1;generalize((((w2.setCell ⟨w.heap.size,0,none⟩ (.bool false)).setCell ⟨w.heap.size,1,none⟩ (.slice none 0 0)).setCell ⟨w.heap.size+1,0,none⟩ (.bool false)).setCell ⟨w.heap.size+1,1,none⟩ (.slice none 0 0))=W at*;exact bodyPost_ret (v:= .tuple #[.agg #[(.bool false),(.slice none 0 0)],.agg #[(.bool false),(.slice none 0 0)],I c]) (by simp[results,Tryz.results145,go_sem,z0,z1,y0,y1]) rfl HQ.out
 ·have HT:=aH (show eG (SL s) (SL t)=chk (SL s) by rw[eG,if_neg h0]);generalize chk (SL s)=c at*;have c0:=V01.out.c0;have c1:=V01.out.c1;have c2:=V01.out.f0;have c3:=V01.out.f1;have d0:=V11.out.c0;have d1:=V11.out.c1;have d2:=V11.out.f0;have d3:=V11.out.f1;have tc:(c !=0)=true:=bne_iff_ne.2 h0;have HQ:=aH (TwoR.bad HT.out h0 (((HB1.out.setCell (p:=⟨w.heap.size,0,none⟩) lR (.bool false)).setCell (p:=⟨w.heap.size,1,none⟩) lR (.slice none 0 0)|>.setCell (p:=⟨w.heap.size+1,0,none⟩) (Nat.le_succ _) (.bool false)).setCell (p:=⟨w.heap.size+1,1,none⟩) (Nat.le_succ _) (.slice none 0 0)));have Z0:=aH ((V01.out.set (.bool false) (.slice none 0 0)).far (g':=w.heap.size+1) (by omega) (.bool false) (.slice none 0 0));have Z1:=aH ((V11.out.far (g':=w.heap.size) (by omega) (.bool false) (.slice none 0 0)).set (.bool false) (.slice none 0 0));go_wp2;have z0:=Z0.out.c0;have z1:=Z0.out.c1;have y0:=Z1.out.c0;have y1:=Z1.out.c1;generalize((((w1.setCell ⟨w.heap.size,0,none⟩ (.bool false)).setCell ⟨w.heap.size,1,none⟩ (.slice none 0 0)).setCell ⟨w.heap.size+1,0,none⟩ (.bool false)).setCell ⟨w.heap.size+1,1,none⟩ (.slice none 0 0))=W at*;exact bodyPost_ret (v:= .tuple #[.agg #[(.bool false),(.slice none 0 0)],.agg #[(.bool false),(.slice none 0 0)],I c]) (by simp[results,Tryz.results145,go_sem,z0,z1,y0,y1]) rfl HQ.out
def RetTx(w:World)(r:List UInt8×Int)(e:Ending)(w':World):Prop:=e= .returned (.tuple #[.string ⟨r.1.toArray⟩,I r.2])∧Below w.heap.size w w'
theorem sK(n:Nat):short (n:Int)=kY n:=by simp[short,kY]
theorem aZh{n:Nat}{s:ByteArray}(h:short (n:Int)=true)(hs:s=⟨(Lib.itoa (n:Int)).toArray⟩):Ending.returned (.tuple #[.string s,I 0])= .returned (.tuple #[.string ⟨(nJ n).1.toArray⟩,I (nJ n).2]):=by
 rw[hs,wB (by rw[←sK];exact h),qS]
theorem bBe{n:Nat}(h:short (n:Int)=false):Ending.returned (.tuple #[.string ⟨#[]⟩,I 2])= .returned (.tuple #[.string ⟨(nJ n).1.toArray⟩,I (nJ n).2]):=by
 rw[nJ,if_neg (by rw[←sK,h];simp)]
theorem aEu(v:Value)(n:Nat)(w:World)(hx:Big w v (n:Int))(htab:Tab w):Calls Tryz.prog 146 #[v] w (RetTx w (nJ n)):=by
 obtain⟨A,l,c,rfl⟩:=hx.form;have hb1:Below w.heap.size w (w.alloc (.cells #[.bool (decide ((n:Int)<0)),.slice A l c] aK)):=(Below.refl _ _).alloc lR _;have HT:=aH (aQy _ (n:Int) _ (hx.ext hb1) (aO htab hb1));have HB:=aH hb1;clear hb1 hx htab;generalize decide ((n:Int)<0)=b at*;unfold aK at*;go_enter Tryz.func146,Tryz.ntmps146;go_wp2_with fail;refine HT.out.mono ?_;rintro e w1 ⟨s,rfl,hs,hb⟩;have HB1:=aH (HB.out.trans (hb.mono HB.out.size));clear HB HT hb;by_cases h:short (n:Int)=true
 ·have HQ:=aH (aZh h (hs h));clear hs;rw[h];go_wp2;go_ret2;exact⟨HQ.out,HB1.out⟩
 ·have h:=Bool.eq_false_iff.2 h;have HQ:=aH (bBe h);clear hs;rw[h];go_wp2;go_ret2;exact⟨HQ.out,HB1.out⟩
theorem aRq(s:ByteArray)(k:Nat):s.extract 0 k=⟨((SL s).take k).toArray⟩:=wV (by rw[wU];simp[SL])
theorem aRr(s:ByteArray)(k:Nat):s.extract k s.size=⟨((SL s).drop k).toArray⟩:=wV (by
 rw[wU];show(s.extract k s.size).data.toList=_;rw[ByteArray.data_extract,Array.toList_extract,List.extract_eq_take_drop];exact List.take_of_length_le (by rw[List.length_drop,Array.length_toList];exact Nat.le_refl _))
def aRs(w:World)(s:ByteArray)(e:Ending)(w':World):Prop:=e= .returned (.tuple #[.string ⟨(cG (SL s)).toArray⟩,.string ⟨(cZ (SL s)).toArray⟩,.bool (fT (SL s))])∧∃n,w'=w.drewN n
theorem aRt(s:ByteArray)(w:World)(hs:s.size≤9223372036854775807):Calls Tryz.prog 144 #[.string s,.string ⟨#[47]⟩] w (aRs w s):=by
 have HI:=aH (Tryz.stringslite_Index_one s 47 w);have hge:=Lib.indexByte_ge s.data.toList 47;have h1:∀k:Nat,Lib.indexByte s.data.toList 47=k→aRs w s (.returned (.tuple #[.string (s.extract 0 k),.string (s.extract (k+1) s.size),.bool true])) w:=fun k h=>by
  obtain⟨a,b,c,_⟩:=wD (SL s) k h;refine⟨?_,0,rfl⟩;rw[aRq,aRr,a,b,c]
 have h0:Lib.indexByte s.data.toList 47=-1→aRs w s (.returned (.tuple #[.string s,.string ⟨#[]⟩,.bool false])) w:=fun h=>by
  obtain⟨a,b,c⟩:=aRc (SL s) h;refine⟨?_,0,rfl⟩;rw[a,b,c];rfl
 have h2:∀k:Nat,Lib.indexByte s.data.toList 47=k→k<s.size:=fun k h=>by
  have:=(wD (SL s) k h).2.2.2;rwa [gZ]at this
 have H1:=aH h1;have H0:=aH h0;clear h0 h1;generalize Lib.indexByte s.data.toList 47=i at*;go_enter Tryz.func144,Tryz.ntmps144;go_wp2_with fail;refine HI.out.mono ?_;rintro e w1 ⟨rfl,rfl⟩;clear HI;by_cases hi:i<0
 ·obtain rfl:i=-1:=by omega
  have HQ:=aH (H0.out rfl);clear H0 H1 h2 hge hi;go_wp2;go_ret3;exact HQ.out
 ·obtain⟨k,rfl⟩:∃k:Nat,i=k:=⟨i.toNat,by omega⟩;have hk:=h2 k rfl;have HQ:=aH (H1.out k rfl);clear H0 H1 h2 hge hi;have c1:(0:Int)≤(k:Int):=by omega
  have c2:(k:Int)≤(s.size:Int):=by omega
  have c3:(0:Int)≤(k:Int)+1:=by omega
  have c4:(k:Int)+1≤(s.size:Int):=by omega
  have ew:IntKind.i64.wrap ((k:Int)+1)=(k:Int)+1:=IntWalk.i64_in _ (by omega);have et:((k:Int)+1).toNat=k+1:=by omega
  have mixed:Tryz.prog.follows .mixedOrders=true:=by kernel_rfl
  go_wp2;go_region_o;go_wp2;go_ret3;exact⟨HQ.out.1,1,rfl⟩
theorem aJu(s:ByteArray)(w:World)(hs:s.size≤9223372036854775807):Calls Tryz.prog 95 #[.string s,.string ⟨#[47]⟩] w (aRs w s):=by
 go_enter Tryz.func95,Tryz.ntmps95;go_wp2_with(go_at_call 144;refine(aRt s _ hs).mono ?_;rintro e w' ⟨rfl,n,rfl⟩);go_ret3;exact⟨rfl,n,rfl⟩
theorem Num.fits{l:List UInt8}(h:Num l):Fits 210 (num l:Int):=by
 have:=aDz h.digs h.len l.length;rwa [List.take_length]at this
theorem RetTx.bad{w w':World}{a b:List UInt8}{r:List UInt8×Int}{c:Int}(hc:eG a b=c)(h0:c≠0)(hb:Below w.heap.size w w'):RetTx w (wA a b r) (.returned (.tuple #[.string ⟨#[]⟩,I c])) w':=by
 refine⟨?_,hb⟩;rw[wA,if_neg (by rw[hc];exact h0),hc]
theorem RetTx.good{w w1 w':World}{a b:List UInt8}{r:List UInt8×Int}{e:Ending}(hc:eG a b=0)(hb:Below w.heap.size w w1)(h:RetTx w1 r e w'):RetTx w (wA a b r) e w':=by
 rw[wA,if_pos hc];exact⟨h.1,hb.trans (h.2.mono hb.size)⟩
theorem zQ{w w1:World}(hb:Below w.heap.size w w1)(o1 o2:Obj):Below w.heap.size w ((w1.alloc o1).alloc o2):=(hb.alloc hb.size _).alloc (by have:=hb.size;simp;omega) _
theorem Big.alloc2{w:World}{v:Value}{z:Int}(h:Big w v z)(o1 o2:Obj):Big ((w.alloc o1).alloc o2) v z:=(h.alloc o1).alloc o2
theorem aHm(s t:ByteArray)(w:World)(hs:s.size≤9223372036854775807)(ht:t.size≤9223372036854775807)(htab:Tab w): Calls Tryz.prog 97 #[.string s,.string t] w (RetTx w (gU (SL s) (SL t))):=by
 have HW:=aH (aWl s t w hs ht);have HTB:=aH htab;clear htab;go_enter Tryz.func97,Tryz.ntmps97;go_wp2_with fail;refine HW.out.mono ?_;rintro e w1 ⟨u,v,x,y,rfl,hu,hv,hxy,hb⟩;obtain⟨Au,lu,cu,rfl⟩:=hu.form;obtain⟨Av,lv,cv,rfl⟩:=hv.form;clear HW;by_cases h0:eG (SL s) (SL t)=0
 ·obtain⟨rfl,rfl⟩:=hxy h0;obtain⟨ns,nt⟩:=(zP _ _).1 h0;have HB:=aH (zQ hb (.cells #[.bool (decide ((num (SL s):Int)<0)),.slice Au lu cu] aK) (.cells #[.bool (decide ((num (SL t):Int)<0)),.slice Av lv cv] aK));have hu2:=hu.alloc2 (.cells #[.bool (decide ((num (SL s):Int)<0)),.slice Au lu cu] aK) (.cells #[.bool (decide ((num (SL t):Int)<0)),.slice Av lv cv] aK);have hv2:=hv.alloc2 (.cells #[.bool (decide ((num (SL s):Int)<0)),.slice Au lu cu] aK) (.cells #[.bool (decide ((num (SL t):Int)<0)),.slice Av lv cv] aK);have HA:=aH (aJa _ _ (num (SL s):Int) (num (SL t):Int) _ hu2 hv2 (N:=210) (by omega) ns.fits nt.fits);have HT:=aH h0;rw[h0];clear hu hv hxy hb h0 hu2 hv2;generalize decide ((num (SL s):Int)<0)=bs at*;generalize decide ((num (SL t):Int)<0)=bt at*;unfold aK at*;go_wp2_with fail;refine HA.out.mono ?_;rintro e w2 ⟨v2,rfl,hv3,hb2⟩;have HB2:=aH (HB.out.trans (hb2.mono HB.out.size));clear HA HB hb2;have HX:=aH (aEu v2 (Nat.gcd (num (SL s)) (num (SL t))) w2 (by skip;exact hv3) (aO HTB.out HB2.out));clear hv3;go_wp2_with fail;refine HX.out.mono ?_;rintro e w9 ⟨rfl,hb9⟩;have HQ:=aH (RetTx.good (a:=SL s) (b:=SL t) (r:=nJ (Nat.gcd (num (SL s)) (num (SL t)))) HT.out HB2.out ⟨rfl,hb9⟩);change Hid (RetTx w (gU (SL s) (SL t)) _ _)at HQ;clear HX hb9 HB2;go_wp2;go_ret2;exact HQ.out
 ·have HQ:=aH (RetTx.bad (r:=nJ (Nat.gcd (num (SL s)) (num (SL t)))) rfl h0 (zQ hb (.cells #[.bool (decide (x<0)),.slice Au lu cu] aK) (.cells #[.bool (decide (y<0)),.slice Av lv cv] aK)));change Hid (RetTx w (gU (SL s) (SL t)) _ _)at HQ;clear hu hv hb hxy;have tc:(eG (SL s) (SL t) !=0)=true:=bne_iff_ne.2 h0;generalize eG (SL s) (SL t)=c at*;unfold aK at*;go_wp2;go_ret2;exact HQ.out
theorem aMz{l:List UInt8}(h:chk (cG (aL l))=5∨qW (aL l)=5∨(cG (aL l)=[48]∧(aL l).length<l.length)):dU l=5:=by rw[dU,if_pos h]
theorem aRu{l:List UInt8}(h1:¬(chk (cG (aL l))=5∨qW (aL l)=5∨(cG (aL l)=[48]∧(aL l).length<l.length)))(h2:chk (cG (aL l))≠0∨qW (aL l)≠0):dU l=2:=by rw[dU,if_neg h1,if_pos h2]
theorem aHn{l:List UInt8}(h1:¬(chk (cG (aL l))=5∨qW (aL l)=5∨(cG (aL l)=[48]∧(aL l).length<l.length)))(h2:¬(chk (cG (aL l))≠0∨qW (aL l)≠0))(h3:fT (aL l)=true∧(cZ (aL l)=[48]∨cZ (aL l)=[49]∨(gU (cG (aL l)) (cZ (aL l))).1≠[49])):dU l=3:=by rw[dU,if_neg h1,if_neg h2,if_pos h3]
theorem aNa{l:List UInt8}(h1:¬(chk (cG (aL l))=5∨qW (aL l)=5∨(cG (aL l)=[48]∧(aL l).length<l.length)))(h2:¬(chk (cG (aL l))≠0∨qW (aL l)≠0))(h3:¬(fT (aL l)=true∧(cZ (aL l)=[48]∨cZ (aL l)=[49]∨(gU (cG (aL l)) (cZ (aL l))).1≠[49]))):dU l=0:=by rw[dU,if_neg h1,if_neg h2,if_neg h3]
theorem aEv:∀l:List UInt8,(cG l).length≤l.length
 |[]=>Nat.le_refl _
 |c::l=>by rw[cG];split;exact Nat.zero_le _;simp;exact aEv l
theorem aEw:∀l:List UInt8,(cZ l).length≤l.length
 |[]=>Nat.le_refl _
 |c::l=>by rw[cZ];split;simp;exact Nat.le_trans (aEw l) (by simp)
theorem aNb(l:List UInt8):(aL l).length≤l.length:=by
 have:=congrArg List.length (kZ l);split at this
 ·rw[List.length_cons]at this;omega
 ·omega
theorem oI(l:List UInt8):(⟨l.toArray⟩:ByteArray).size=l.length:=by simp[ByteArray.size]
theorem aJv(l m:List UInt8)(L:List UInt8)(h:(⟨m.toArray⟩:ByteArray).toList=L):(l==L)=decide (l=m):=by
 rw[←h];have:=aCb ⟨l.toArray⟩ m _ rfl;rw[wU]at this;rw[←this];congr 1;simp
theorem bBf(l:List UInt8)(w:World)(h:l.length≤9223372036854775807):Calls Tryz.prog 95 #[.string ⟨l.toArray⟩,.string ⟨#[47]⟩] w fun e w'=>e= .returned (.tuple #[.string ⟨(cG l).toArray⟩,.string ⟨(cZ l).toArray⟩,.bool (fT l)])∧∃n,w'=w.drewN n:=aJu ⟨l.toArray⟩ w (by rw[oI];exact h)
theorem aXx(l:List UInt8)(w:World)(h:l.length≤9223372036854775807):Calls Tryz.prog 96 #[.string ⟨l.toArray⟩] w fun e w'=>e= .returned (I (chk l))∧Below w.heap.size w w':=aCc ⟨l.toArray⟩ w (by rw[oI];omega)
theorem bBg(a b:List UInt8)(w:World)(h:a.length≤9223372036854775807)(k:b.length≤9223372036854775807)(htab:Tab w):Calls Tryz.prog 97 #[.string ⟨a.toArray⟩,.string ⟨b.toArray⟩] w fun e w'=>e= .returned (.tuple #[.string ⟨(gU a b).1.toArray⟩,I (gU a b).2])∧Below w.heap.size w w':=aHm ⟨a.toArray⟩ ⟨b.toArray⟩ w (by rw[oI];omega) (by rw[oI];omega) htab
theorem yH{w w':World}{n:Nat}(h:Below (w.drewN n).heap.size (w.drewN n) w'):Below w.heap.size w w':=⟨h.os,h.tape,h.output,h.size,h.block⟩
theorem wX(s:ByteArray)(w:World)(hs:s.size≤9223372036854775807)(htab:Tab w):Calls Tryz.prog 40 #[.string s] w fun e w'=>e= .returned (I (dU (SL s)))∧Below w.heap.size w w':=by
 have HTR:=aH fun W=>Tryz.strings_TrimPrefix s ⟨#[45]⟩ W;have eT:Lib.trimPrefix s.data.toList (⟨#[45]⟩:ByteArray).data.toList=aL (SL s):=rfl;rw[eT]at HTR;clear eT;have HTB:=aH htab;clear htab;have hT:=aNb (SL s);have hA:=aEv (aL (SL s));have hD:=aEw (aL (SL s));rw[gZ]at hT;have H5:=aH (@aMz (SL s));have H2:=aH (@aRu (SL s));have H3:=aH (@aHn (SL s));have H0:=aH (@aNa (SL s));rw[gZ]at H5 H2 H3 H0;generalize dU (SL s)=R at*;generalize aL (SL s)=T at*;have hcd:qW T=(if fT T=true then chk (cZ T)else 0):=rfl;have HCU:=aH fun W=>bBf T W (by omega);have hTs:=oI T;have HCA:=aH fun W=>aXx (cG T) W (by omega);have HCX:=aH fun W=>aXx (cZ T) W (by omega);have HG:=aH fun W h=>bBg (cG T) (cZ T) W (by omega) (by omega) h;have HE48:=aJv (cG T) [48] [48] (by decide+kernel);have HD48:=aJv (cZ T) [48] [48] (by decide+kernel);have HD49:=aJv (cZ T) [49] [49] (by decide+kernel);have HG49:=aJv (gU (cG T) (cZ T)).1 [49] [49] (by decide+kernel);generalize gU (cG T) (cZ T)=G at*;obtain⟨g,ge⟩:=G;try dsimp only at HG49
 try dsimp only at H3
 try dsimp only at H0
 try dsimp only at HG
 generalize cG T=A at*;generalize cZ T=D at*;clear hA hD;generalize fT T=II at*;generalize qW T=b at*;generalize chk A=a at*;generalize chk D=d at*;have HCDD:=aH hcd;clear hcd;have HTS:=aH hTs;have ht:decide ((T.length:Int)<(s.size:Int))=decide (T.length<s.size):=decide_eq_decide.2 (by omega);have HTT:=aH ht;clear hTs hT ht;go_enter Tryz.func40,Tryz.ntmps40;go_wp2_with fail;refine(HTR.out _).mono ?_;rintro e w' ⟨rfl,rfl⟩;go_wp2_with fail;refine(HCU.out _).mono ?_;rintro e w' ⟨rfl,n,rfl⟩;clear HTR HCU;go_wp2_with fail;refine(HCA.out _).mono ?_;rintro e w1 ⟨rfl,hb1⟩;have HB1:=aH (yH hb1);clear hb1 HCA;cases II with
 |true=>
  simp only[↓reduceIte]at HCDD;go_wp2_with fail;refine(HCX.out _).mono ?_;rintro e w2 ⟨rfl,hb2⟩;have HB2:=aH (HB1.out.trans (hb2.mono HB1.out.size));clear hb2 HB1 HCX;by_cases a5:a=5
  ·subst a5;have HQ:=aH (H5.out (.inl rfl));clear H5 H2 H3 H0 HG HCDD;go_wp2;go_ret;exact⟨aE HQ.out.symm,HB2.out⟩
  have ta5:(a==5)=false:=beq_eq_false_iff_ne.2 a5;by_cases b5:d=5
  ·subst b5;have HQ:=aH (H5.out (.inr (.inl HCDD.out)));clear H5 H2 H3 H0 HG HCDD;go_wp2;go_ret;exact⟨aE HQ.out.symm,HB2.out⟩
  have tb5:(d==5)=false:=beq_eq_false_iff_ne.2 b5;have nb5:b≠5:=by rw[HCDD.out];exact b5
  by_cases hz:A=[48]∧T.length<s.size
  ·have tz:(A==[48])=true:=by rw[HE48,decide_eq_true hz.1]
   have tl:decide (T.length<s.size)=true:=decide_eq_true hz.2;clear HE48 HD48 HD49 HG49;have hz2:=hz.2;have HQ:=aH (H5.out (.inr (.inr hz)));clear H5 H2 H3 H0 HG HCDD;go_wp2;go_ret;exact⟨aE HQ.out.symm,HB2.out⟩
  have N1:¬(a=5∨b=5∨(A=[48]∧T.length<s.size)):=fun k=>k.elim a5 fun k=>k.elim nb5 hz;have HN1:=aH N1;clear N1 nb5;have hza:(A==[48])=false∨((A==[48])=true∧decide (T.length<s.size)=false):=by
   by_cases k:A=[48]
   ·exact .inr ⟨by rw[HE48,decide_eq_true k],decide_eq_false fun k2=>hz ⟨k,k2⟩⟩
   ·exact .inl (by rw[HE48,decide_eq_false k])
  have HD48B:(D==[48])=decide (D=[48]):=HD48;clear hz HE48 HD48;rcases hza with tz|⟨tz,tl⟩
  ·skip;by_cases a0:a=0
   ·subst a0;by_cases b0:d=0
    ·subst b0;have N2:=aH (show¬((0:Int)≠0∨b≠0)from fun k=>k.elim (fun k=>k rfl) fun k=>k HCDD.out);go_wp2_with fail;refine(HG.out _ (aO HTB.out HB2.out)).mono ?_;rintro e w3 ⟨rfl,hb3⟩;have HB3:=aH (HB2.out.trans (hb3.mono HB2.out.size));clear hb3 HB2;by_cases q1:D=[48]
     ·have u1:(D==[48])=true:=by rw[HD48B,decide_eq_true q1]
      clear HD48B HD49 HG49;have HQ:=aH (H3.out HN1.out N2.out ⟨trivial,.inl q1⟩);clear H5 H2 H3 H0 HG HCDD;go_wp2;go_ret;exact⟨aE HQ.out.symm,HB3.out⟩
     have u1:(D==[48])=false:=by rw[HD48B,decide_eq_false q1]
     by_cases q2:D=[49]
     ·have u2:(D==[49])=true:=by rw[HD49,decide_eq_true q2]
      clear HD48B HD49 HG49;have HQ:=aH (H3.out HN1.out N2.out ⟨trivial,.inr (.inl q2)⟩);clear H5 H2 H3 H0 HG HCDD;go_wp2;go_ret;exact⟨aE HQ.out.symm,HB3.out⟩
     have u2:(D==[49])=false:=by rw[HD49,decide_eq_false q2]
     by_cases q3:g=[49]
     ·have u3:(g==[49])=true:=by rw[HG49,decide_eq_true q3]
      have Q:=aH (show¬(True∧(D=[48]∨D=[49]∨g≠[49]))from fun k=>k.2.elim q1 fun k=>k.elim q2 fun k=>k q3);clear HD48B HD49 HG49;have HQ:=aH (H0.out HN1.out N2.out (fun k=>Q.out ⟨trivial,k.2⟩));clear H5 H2 H3 H0 HG HCDD;go_wp2;go_ret;exact⟨aE HQ.out.symm,HB3.out⟩
     have u3:(g==[49])=false:=by rw[HG49,decide_eq_false q3]
     clear HD48B HD49 HG49;have HQ:=aH (H3.out HN1.out N2.out ⟨trivial,.inr (.inr q3)⟩);clear H5 H2 H3 H0 HG HCDD;go_wp2;go_ret;exact⟨aE HQ.out.symm,HB3.out⟩
    have tb0:(d !=0)=true:=bne_iff_ne.2 b0;clear HD48B HD49 HG49;have HQ:=aH (H2.out HN1.out (.inr (by rw[HCDD.out];exact b0)));clear H5 H2 H3 H0 HG HCDD;go_wp2;go_ret;exact⟨aE HQ.out.symm,HB2.out⟩
   have ta0:(a !=0)=true:=bne_iff_ne.2 a0;clear HD48B HD49 HG49;have HQ:=aH (H2.out HN1.out (.inl a0));clear H5 H2 H3 H0 HG HCDD;go_wp2;go_ret;exact⟨aE HQ.out.symm,HB2.out⟩
  ·skip;by_cases a0:a=0
   ·subst a0;by_cases b0:d=0
    ·subst b0;have N2:=aH (show¬((0:Int)≠0∨b≠0)from fun k=>k.elim (fun k=>k rfl) fun k=>k HCDD.out);go_wp2_with fail;refine(HG.out _ (aO HTB.out HB2.out)).mono ?_;rintro e w3 ⟨rfl,hb3⟩;have HB3:=aH (HB2.out.trans (hb3.mono HB2.out.size));clear hb3 HB2;by_cases q1:D=[48]
     ·have u1:(D==[48])=true:=by rw[HD48B,decide_eq_true q1]
      clear HD48B HD49 HG49;have HQ:=aH (H3.out HN1.out N2.out ⟨trivial,.inl q1⟩);clear H5 H2 H3 H0 HG HCDD;go_wp2;go_ret;exact⟨aE HQ.out.symm,HB3.out⟩
     have u1:(D==[48])=false:=by rw[HD48B,decide_eq_false q1]
     by_cases q2:D=[49]
     ·have u2:(D==[49])=true:=by rw[HD49,decide_eq_true q2]
      clear HD48B HD49 HG49;have HQ:=aH (H3.out HN1.out N2.out ⟨trivial,.inr (.inl q2)⟩);clear H5 H2 H3 H0 HG HCDD;go_wp2;go_ret;exact⟨aE HQ.out.symm,HB3.out⟩
     have u2:(D==[49])=false:=by rw[HD49,decide_eq_false q2]
     by_cases q3:g=[49]
     ·have u3:(g==[49])=true:=by rw[HG49,decide_eq_true q3]
      have Q:=aH (show¬(True∧(D=[48]∨D=[49]∨g≠[49]))from fun k=>k.2.elim q1 fun k=>k.elim q2 fun k=>k q3);clear HD48B HD49 HG49;have HQ:=aH (H0.out HN1.out N2.out (fun k=>Q.out ⟨trivial,k.2⟩));clear H5 H2 H3 H0 HG HCDD;go_wp2;go_ret;exact⟨aE HQ.out.symm,HB3.out⟩
     have u3:(g==[49])=false:=by rw[HG49,decide_eq_false q3]
     clear HD48B HD49 HG49;have HQ:=aH (H3.out HN1.out N2.out ⟨trivial,.inr (.inr q3)⟩);clear H5 H2 H3 H0 HG HCDD;go_wp2;go_ret;exact⟨aE HQ.out.symm,HB3.out⟩
    have tb0:(d !=0)=true:=bne_iff_ne.2 b0;clear HD48B HD49 HG49;have HQ:=aH (H2.out HN1.out (.inr (by rw[HCDD.out];exact b0)));clear H5 H2 H3 H0 HG HCDD;go_wp2;go_ret;exact⟨aE HQ.out.symm,HB2.out⟩
   have ta0:(a !=0)=true:=bne_iff_ne.2 a0;clear HD48B HD49 HG49;have HQ:=aH (H2.out HN1.out (.inl a0));clear H5 H2 H3 H0 HG HCDD;go_wp2;go_ret;exact⟨aE HQ.out.symm,HB2.out⟩
 |false=>
  simp only[Bool.false_eq_true,↓reduceIte]at HCDD;clear HCX;by_cases a5:a=5
  ·subst a5;have HQ:=aH (H5.out (.inl rfl));clear H5 H2 H3 H0 HG HCDD;go_wp2;go_ret;exact⟨aE HQ.out.symm,HB1.out⟩
  have ta5:(a==5)=false:=beq_eq_false_iff_ne.2 a5;have nb5:b≠5:=by rw[HCDD.out];decide
  by_cases hz:A=[48]∧T.length<s.size
  ·have tz:(A==[48])=true:=by rw[HE48,decide_eq_true hz.1]
   have tl:decide (T.length<s.size)=true:=decide_eq_true hz.2;clear HE48 HD48 HD49 HG49;have hz2:=hz.2;have HQ:=aH (H5.out (.inr (.inr hz)));clear H5 H2 H3 H0 HG HCDD;go_wp2;go_ret;exact⟨aE HQ.out.symm,HB1.out⟩
  have N1:¬(a=5∨b=5∨(A=[48]∧T.length<s.size)):=fun k=>k.elim a5 fun k=>k.elim nb5 hz;have HN1:=aH N1;clear N1 nb5;have hza:(A==[48])=false∨((A==[48])=true∧decide (T.length<s.size)=false):=by
   by_cases k:A=[48]
   ·exact .inr ⟨by rw[HE48,decide_eq_true k],decide_eq_false fun k2=>hz ⟨k,k2⟩⟩
   ·exact .inl (by rw[HE48,decide_eq_false k])
  have HD48B:(D==[48])=decide (D=[48]):=HD48;clear hz HE48 HD48;rcases hza with tz|⟨tz,tl⟩
  ·skip;by_cases a0:a=0
   ·subst a0;have N2:=aH (show¬((0:Int)≠0∨b≠0)from fun k=>k.elim (fun k=>k rfl) fun k=>k HCDD.out);clear HD48B HD49 HG49;have HQ:=aH (H0.out HN1.out N2.out (fun k=>by cases k.1));clear H5 H2 H3 H0 HG HCDD;go_wp2;go_ret;exact⟨aE HQ.out.symm,HB1.out⟩
   have ta0:(a !=0)=true:=bne_iff_ne.2 a0;clear HD48B HD49 HG49;have HQ:=aH (H2.out HN1.out (.inl a0));clear H5 H2 H3 H0 HG HCDD;go_wp2;go_ret;exact⟨aE HQ.out.symm,HB1.out⟩
  ·skip;by_cases a0:a=0
   ·subst a0;have N2:=aH (show¬((0:Int)≠0∨b≠0)from fun k=>k.elim (fun k=>k rfl) fun k=>k HCDD.out);clear HD48B HD49 HG49;have HQ:=aH (H0.out HN1.out N2.out (fun k=>by cases k.1));clear H5 H2 H3 H0 HG HCDD;go_wp2;go_ret;exact⟨aE HQ.out.symm,HB1.out⟩
   have ta0:(a !=0)=true:=bne_iff_ne.2 a0;clear HD48B HD49 HG49;have HQ:=aH (H2.out HN1.out (.inl a0));clear H5 H2 H3 H0 HG HCDD;go_wp2;go_ret;exact⟨aE HQ.out.symm,HB1.out⟩
def bBh(w:World)(z:Int)(e:Ending)(w':World):Prop:=∃s,e= .returned (.tuple #[.string s,.bool (short z)])∧(short z=true→s=⟨(Lib.itoa z).toArray⟩)∧s.size≤4000∧Below w.heap.size w w'
theorem aNc{z:Int}{k:Nat}(hk:k=2100)(h:(z.natAbs:Int)<P32 210):(⟨(Lib.itoa z).toArray⟩:ByteArray).size≤4000:=by
 have key:P32 210≤((10^k:Nat):Int):=by subst hk;decide+kernel
 have h1:z.natAbs<10^k:=by omega
 have h2:=(lV z.natAbs k (by omega)).2 h1;rw[oI,Lib.itoa];split
 ·simp;omega
 ·rw[show z.toNat=z.natAbs by omega];omega
theorem zR(v:Value)(z:Int)(w:World)(hx:Big w v z)(htab:Tab w):Calls Tryz.prog 181 #[v] w (bBh w z):=by
 obtain⟨A,ca,wz,rfl,hnz,hvz⟩:=hx.nn;have HB:=aH ((Below.refl w.heap.size w).alloc lR (.cells #[.bool (decide (z<0)),.slice A wz.length ca] aK));by_cases h0:wz.length=0
 ·have hz:z=0:=by
   rw[List.eq_nil_of_length_eq_zero h0]at hvz;simp[val]at hvz;omega
  have hs:short z=true:=by rw[hz];decide+kernel
  have hi:(⟨#[48]⟩:ByteArray)=⟨(Lib.itoa z).toArray⟩:=by rw[hz];decide+kernel
  have HS:=aH hs;have HII:=aH hi;have t0:((wz.length:Int)==0)=true:=beq_iff_eq.2 (by omega);clear hx hnz hvz htab h0 hz hs hi;generalize decide (z<0)=b at*;unfold aK at*;go_enter Tryz.func181,Tryz.ntmps181;go_wp2;go_ret2;exact⟨_,qQ _ _ HS.out,fun _=>HII.out,by decide,HB.out⟩
 ·by_cases hl:wz.length≤210
  ·refine(aDy z A ca wz w hnz hvz (by omega) hl htab).mono ?_;rintro e w' ⟨rfl,hb⟩;exact⟨_,rfl,fun _=>rfl,aNc (k:=2100) rfl (Int.lt_of_lt_of_le (show(z.natAbs:Int)<P32 wz.length by rw[←hvz];exact dN hnz.ok) (eO hl)),hb⟩
  ·have HS:=aH (tF hnz.ok hnz.nm hvz (by omega));have t0:((wz.length:Int)==0)=false:=beq_eq_false_iff_ne.2 (by omega);have t1:decide (210<(wz.length:Int))=true:=decide_eq_true (by omega);clear hx hnz hvz htab h0 hl;generalize decide (z<0)=b at*;unfold aK at*;go_enter Tryz.func181,Tryz.ntmps181;go_wp2;go_ret2;exact⟨_,pB _ _ HS.out,fun h=>(by rw[HS.out]at h;cases h),by decide,HB.out⟩
def aEx(w:World)(q:Rat)(e:Ending)(w':World):Prop:=∃s,e= .returned (.tuple #[.string s,.bool (bK q)])∧(bK q=true→s=⟨(aQ q).toArray⟩)∧Below w.heap.size w w'
theorem zS(q:Rat):short q.num=kY q.num.natAbs:=rfl
theorem zT(q:Rat):short (q.den:Int)=kY q.den:=sK _
theorem aZi(a b:List UInt8):((⟨a.toArray⟩:ByteArray)++⟨#[47]⟩)++⟨b.toArray⟩=⟨(a++47::b).toArray⟩:=wV (by
 rw[wU];simp[SL])
theorem aRv{q:Rat}(h:short q.num=false):bK q=false:=by rw[bK,←zS,h];rfl
theorem aRw{q:Rat}(h:short (q.den:Int)=false):bK q=false:=by rw[bK,←zT,h,Bool.and_false]
theorem aRx{q:Rat}(h:short q.num=true)(h2:short (q.den:Int)=true):bK q=true:=by rw[bK,←zS,←zT,h,h2];rfl
theorem aNd(v:Value)(q:Rat)(w:World)(hx:Rt w v q)(htab:Tab w):Calls Tryz.prog 158 #[v] w (aEx w q):=by
 obtain⟨A,l,c,B,m,d,rfl,hn,hd⟩:=hx.form;obtain⟨hv,hb⟩:=gV w (.bool (decide (q.num<0))) (.slice A l c) (.bool false) (.slice B m d);have HT:=aH (zR _ _ _ (hn.ext hb) (aO htab hb));have HB:=aH hb;have HD:=aH (hd.ext hb);have HV:=aH hv;have HTB:=aH htab;have v0:=hv.c0;have v1:=hv.c1;clear hx hn hd hv hb htab;generalize decide (q.num<0)=nb at*;unfold aM at*;go_enter Tryz.func158,Tryz.ntmps158;go_wp2_with fail;generalize w.alloc (Obj.cells #[Value.bool nb,Value.slice A l c,Value.bool false,Value.slice B m d] 122)=W0 at*;refine HT.out.mono ?_;rintro e w1 ⟨s,rfl,hs,zs,hb⟩;have HB1:=aH (HB.out.trans (hb.mono HB.out.size));have HD1:=aH (HD.out.ext hb);have HV1:=HV.out.below hb;have HS:=aH hs;clear HB HD HV HT hb hs v0 v1;by_cases h1:short q.num=true
 ·rw[h1];have v2:=HV1.c2;have v3:=HV1.c3;have HT:=aH (zR _ _ _ HD1.out (aO HTB.out HB1.out));clear HV1;go_wp2_with fail;refine HT.out.mono ?_;rintro e w2 ⟨t,rfl,ht,zt,hb⟩;have zs1:(s++⟨#[47]⟩).size≤4001:=by rw[ByteArray.size_append];exact Nat.add_le_add_right zs 1
  have HB2:=aH (HB1.out.trans (hb.mono HB1.out.size));clear hb HB1 HT;have hlit:=aCb t [49] [49] (by decide+kernel);by_cases h2:short (q.den:Int)=true
  ·have et:=ht h2;have es:=HS.out h1;have hf:=aRx h1 h2;have hst:SL t=Lib.decDigits q.den:=by rw[et,wU,qS]
   have h49:(SL t=[49])↔q.den=1:=by
    rw[hst];exact⟨aBu,fun k=>by rw[k];decide+kernel⟩
   rw[h2];by_cases h3:q.den=1
   ·rw[decide_eq_true (h49.2 h3)]at hlit;have HQ:=aH (show aEx w q (.returned (.tuple #[.string s,.bool true])) w2 from⟨s,by rw[hf],fun _=>by rw[es,aQ,if_pos h3],HB2.out⟩);clear ht et es hf hst h49 HS h3;go_wp2;go_ret2;exact HQ.out
   ·rw[decide_eq_false (fun k=>h3 (h49.1 k))]at hlit;have HQ:=aH (show aEx w q (.returned (.tuple #[.string ((s++⟨#[47]⟩)++t),.bool true])) w2 from⟨_,by rw[hf],fun _=>by rw[es,et,qS,aZi,aQ,if_neg h3],HB2.out⟩);clear ht et es hf hst h49 HS h3;go_wp2;go_ret2;exact HQ.out
  ·have h2:=Bool.eq_false_iff.2 h2;have hf:=aRw h2;rw[h2];have HQ:=aH fun s=>(show aEx w q (.returned (.tuple #[.string s,.bool false])) w2 from⟨s,by rw[hf],fun k=>(by rw[hf]at k;cases k),HB2.out⟩);clear ht hf HS;by_cases h3:SL t=[49]
   ·rw[decide_eq_true h3]at hlit;clear h3;go_wp2;go_ret2;exact HQ.out _
   ·rw[decide_eq_false h3]at hlit;clear h3;go_wp2;go_ret2;exact HQ.out _
 ·have h1:=Bool.eq_false_iff.2 h1;have hf:=aRv h1;rw[h1];have HQ:=aH (show aEx w q (.returned (.tuple #[.string ⟨#[]⟩,.bool false])) w1 from⟨_,by rw[hf],fun k=>(by rw[hf]at k;cases k),HB1.out⟩);clear hf HS HV1;go_wp2;go_ret2;exact HQ.out
theorem aCd{l:List UInt8}:cG l=(if jN l=true then 45::cG (aL l)else cG (aL l))∧cZ l=cZ (aL l)∧fT l=fT (aL l):=by
 have h:=kZ l;by_cases k:jN l=true
 ·rw[if_pos k]at h⊢;have:=jA (c:=45) (by decide) (aL l);rw[←h]at this;exact this
 ·rw[if_neg k]at h⊢;rw[←h];exact⟨rfl,rfl,rfl⟩
theorem aZj(l:List UInt8)(w:World)(h:Num l):Calls Tryz.prog 151 #[.string ⟨l.toArray⟩] w (RetBig w (num l:Int)):=wW ⟨l.toArray⟩ w h
theorem bBi(s:ByteArray)(w:World)(h:s.size≤9223372036854775807):Calls Tryz.prog 95 #[.string s,.string ⟨#[47]⟩] w fun e w'=>e= .returned (.tuple #[.string ⟨(cG (SL s)).toArray⟩,.string ⟨(cZ (aL (SL s))).toArray⟩,.bool (fT (aL (SL s)))])∧∃n,w'=w.drewN n:=by
 have:=aJu s w h;unfold aRs at this;rw[aCd.2.1,aCd.2.2]at this;exact this
theorem aNe{l:List UInt8}(h:RVal l):Lib.hasPrefix (cG l) [45]=jN l∧Lib.trimPrefix (cG l) [45]=cG (aL l):=by
 rw[aCd.1];by_cases k:jN l=true
 ·rw[if_pos k,k];exact qV _
 ·rw[if_neg k,Bool.eq_false_iff.2 k];exact⟨kI h.na.digs,nM h.na.digs⟩
theorem zU(s:ByteArray)(w:World)(hs:s.size≤9223372036854775807)(h:RVal (SL s)):Calls Tryz.prog 107 #[.string s] w (RetRt w (fM (SL s))):=by
 obtain⟨hv,hb⟩:=gV w (.bool false) (.slice none 0 0) (.bool false) (.slice none 0 0);obtain⟨hp,htr⟩:=aNe h;have HRA:=aH fun W=>aEa (jN (SL s)) (cG (aL (SL s))) h.na.digs h.na.len ⟨(cG (SL s)).toArray⟩ W hp htr;rw[←h.num]at HRA;have HRD:=aH fun(k:fT (aL (SL s))=true) W=>aZj (cZ (aL (SL s))) W (h.nd k);have HV:=aH hv;have HB:=aH hb;have HDEN:=aH h.den;have HC:=aH fun W=>bBi s W hs;clear hv hb hp htr h;obtain⟨q,hq⟩:∃q,fM (SL s)=q:=⟨_,rfl⟩;rw[hq]at HRA HDEN⊢;clear hq;unfold aM at*;go_enter Tryz.func107,Tryz.ntmps107;go_wp2_with fail;generalize w.alloc (Obj.cells #[Value.bool false,Value.slice none 0 0,Value.bool false,Value.slice none 0 0] 122)=W0 at*;refine(HC.out _).mono ?_;rintro e w' ⟨rfl,n,rfl⟩;have HV0:=aH (show Vr (W0.drewN n) w.heap.size (.bool false) (.slice none 0 0) (.bool false) (.slice none 0 0)from⟨HV.out.c0,HV.out.c1,HV.out.c2,HV.out.c3,HV.out.f0,HV.out.f1,HV.out.f2,HV.out.f3⟩);have HB0:=aH (show Below w.heap.size w (W0.drewN n)from⟨HB.out.os,HB.out.tape,HB.out.output,HB.out.size,HB.out.block⟩);clear HV HB HC;generalize W0.drewN n=W1 at*;by_cases hi:fT (aL (SL s))=true
 ·rw[hi];rw[if_pos hi]at HDEN;have HRD2:=aH (HRD.out hi);clear HRD;go_wp2_with(go_at_call 151;refine(HRA.out _).mono ?_);rintro e w2 ⟨v2,rfl,hv,hb⟩;obtain⟨nb,A,l,c,rfl⟩:=hv.ofWords;have HV2:=aH (HV0.out.below hb);have HB2:=aH (HB0.out.trans (hb.mono HB0.out.size));have BN2:=aH hv;clear hv hb HV0 HB0;go_wp2_with(go_at_call 151;refine(HRD2.out _).mono ?_);rintro e w3 ⟨v3,rfl,hv,hb⟩;rw[←HDEN.out]at hv;obtain⟨db,B,m,d,rfl⟩:=hv.ofWords;have HV3:=aH (HV2.out.below hb);have HB3:=aH (HB2.out.trans (hb.mono HB2.out.size));have HR:=aH (bP HB3.out lR HV3.out (Rt.mk (BN2.out.ext hb) hv));have HZ:=aH (HV3.out.set (.bool nb) (.slice A l c) (.bool db) (.slice B m d));clear hv hb HV2 HB2 BN2;unfold set4 at HR HZ;have r0:=HV3.out.c0;have r1:=HV3.out.c1;have r2:=HV3.out.c2;have r3:=HV3.out.c3;have q0:=HV3.out.f0;have q1:=HV3.out.f1;have q2:=HV3.out.f2;have q3:=HV3.out.f3;go_wp2;have z0:=HZ.out.c0;have z1:=HZ.out.c1;have z2:=HZ.out.c2;have z3:=HZ.out.c3;generalize((((w3.setCell ⟨w.heap.size,0,none⟩ (.bool nb)).setCell ⟨w.heap.size,1,none⟩ (.slice A l c)).setCell ⟨w.heap.size,2,none⟩ (.bool db)).setCell ⟨w.heap.size,3,none⟩ (.slice B m d))=W at*;exact bodyPost_ret (v:= .agg #[.bool nb,.slice A l c,.bool db,.slice B m d]) (by simp[results,Tryz.results107,go_sem,z0,z1,z2,z3]) rfl HR.out
 ·rw[if_neg hi]at HDEN;have hi:=Bool.eq_false_iff.2 hi;rw[hi];clear HRD;go_wp2_with(go_at_call 151;refine(HRA.out _).mono ?_);rintro e w2 ⟨v2,rfl,hv,hb⟩;obtain⟨nb,A,l,c,rfl⟩:=hv.ofWords;have HV2:=aH (HV0.out.below hb);have HB2:=aH (HB0.out.trans (hb.mono HB0.out.size));have BN2:=aH hv;clear hv hb HV0 HB0;go_wp2_with(go_at_call 136;refine(mU 1 _ (by omega) (by omega)).mono ?_);rintro e w3 ⟨v3,rfl,hv,hb⟩;rw[←HDEN.out]at hv;obtain⟨db,B,m,d,rfl⟩:=hv.ofWords;have HV3:=aH (HV2.out.below hb);have HB3:=aH (HB2.out.trans (hb.mono HB2.out.size));have HR:=aH (bP HB3.out lR HV3.out (Rt.mk (BN2.out.ext hb) hv));have HZ:=aH (HV3.out.set (.bool nb) (.slice A l c) (.bool db) (.slice B m d));clear hv hb HV2 HB2 BN2;unfold set4 at HR HZ;have r0:=HV3.out.c0;have r1:=HV3.out.c1;have r2:=HV3.out.c2;have r3:=HV3.out.c3;have q0:=HV3.out.f0;have q1:=HV3.out.f1;have q2:=HV3.out.f2;have q3:=HV3.out.f3;go_wp2;have z0:=HZ.out.c0;have z1:=HZ.out.c1;have z2:=HZ.out.c2;have z3:=HZ.out.c3;generalize((((w3.setCell ⟨w.heap.size,0,none⟩ (.bool nb)).setCell ⟨w.heap.size,1,none⟩ (.slice A l c)).setCell ⟨w.heap.size,2,none⟩ (.bool db)).setCell ⟨w.heap.size,3,none⟩ (.slice B m d))=W at*;exact bodyPost_ret (v:= .agg #[.bool nb,.slice A l c,.bool db,.slice B m d]) (by simp[results,Tryz.results107,go_sem,z0,z1,z2,z3]) rfl HR.out
end Go.Proofs.YtenbglfkdldheaaGreatDoor
