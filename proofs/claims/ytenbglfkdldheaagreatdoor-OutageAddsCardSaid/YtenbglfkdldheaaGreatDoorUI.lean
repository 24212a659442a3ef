/- large.Read: the number of a row of digits. Decimal numbers: the number of a canonical row of digits, and back; what Check answers. Plain facts. Package nat in plain Lean, and its laws. No program here. Package nat in plain Lean: the laws of division and of powers. No program here. Rational numbers as texts: what rat.Check answers, the number of a text, and back. Plain facts. Package rat in plain Lean. No program here. -/
import Derived.Test.YtenbglfkdldheaaGreatDoorUH
import Derived.Lib.ParseIntB
import Derived.Lib.AtoiErrMem
import Derived.Lib.IndexLaws
set_option maxRecDepth 100000
set_option maxHeartbeats 4000000
namespace Go.Proofs.YtenbglfkdldheaaGreatDoor
section
open Go.RowKit
def Digs(l:List UInt8):Prop:=∀c∈l,48≤c.toNat∧c.toNat≤57
def nI(a:Nat)(l:List UInt8):Nat:=l.foldl (fun a c=>a*10+(c.toNat-48)) a
def num(l:List UInt8):Nat:=nI 0 l
theorem aBs:∀(l:List UInt8) (a:Nat),nI a l=a*10^l.length+nI 0 l
 |[],a=>by simp[nI]
 |c::l,a=>by
  have h1:=aBs l (a*10+(c.toNat-48));have h2:=aBs l (0*10+(c.toNat-48));simp only[nI,List.foldl_cons,List.length_cons]at*;rw[h1,h2,Nat.pow_succ];grind
theorem jM(l m:List UInt8):num (l++m)=num l*10^m.length+num m:=by
 unfold num;have:nI 0 (l++m)=nI (nI 0 l) m:=by simp[nI]
 rw[this,aBs]
theorem aHa:∀(l:List UInt8),Digs l→num l<10^l.length
 |[],_=>by simp[num,nI]
 |c::l,h=>by
  have h1:=aHa l fun x hx=>h x (List.mem_cons_of_mem _ hx);have h2:=h c List.mem_cons_self;have h3:=jM [c] l;have h4:num [c]=c.toNat-48:=by simp[num,nI]
  rw[List.singleton_append,h4]at h3;rw[h3,List.length_cons,Nat.pow_succ];have h5:(c.toNat-48)*10^l.length≤9*10^l.length:=Nat.mul_le_mul_right _ (by omega);omega
theorem zN:∀(l:List UInt8) (a:Nat),Digs l→(a+1)*10^l.length≤1000000000→Lib.parseUintM 4294967295 a l= .ok (nI a l)
 |[],a,_,_=>by simp[Lib.parseUintM,nI]
 |c::l,a,h,hb=>by
  have h2:=h c List.mem_cons_self;have hp:1≤10^l.length:=Nat.pow_pos (by decide);rw[List.length_cons,Nat.pow_succ]at hb;have hb2:(a+1)*10*10^l.length≤1000000000:=by rw[Nat.mul_assoc,Nat.mul_comm 10];exact hb
  have hb3:(a+1)*10*1≤(a+1)*10*10^l.length:=Nat.mul_le_mul_left _ hp;have hb4:(a*10+(c.toNat-48)+1)*10^l.length≤(a+1)*10*10^l.length:=Nat.mul_le_mul_right _ (by omega);rw[Lib.parseUintM,if_pos h2,if_neg (by omega),if_neg (by omega),zN l _ (fun x hx=>h x (List.mem_cons_of_mem _ hx)) (by omega)];simp[nI]
theorem aQz(l:List UInt8)(hd:Digs l)(h0:l≠[])(h9:l.length≤9):Lib.parseUintB 32 l= .ok (num l):=by
 have hp:10^l.length≤10^9:=Nat.pow_le_pow_right (by decide) h9;rw[Lib.parseUintB,if_neg h0];exact zN l 0 hd (by omega)
theorem Digs.take{l:List UInt8}(h:Digs l)(k:Nat):Digs (l.take k):=fun c hc=>h c (List.mem_of_mem_take hc)
theorem Digs.drop{l:List UInt8}(h:Digs l)(k:Nat):Digs (l.drop k):=fun c hc=>h c (List.mem_of_mem_drop hc)
theorem aMn{ds:List UInt8}{k n:Nat}(hk:k+n≤ds.length)(h:k=0∨n=9):num (ds.take (k+n))=num (ds.take k)*1000000000+num ((ds.drop k).take n):=by
 rw[List.take_add,jM];have e:((ds.drop k).take n).length=n:=by rw[List.length_take,List.length_drop];omega
 rcases h with h|h
 ·subst h;simp[num,nI]
 ·rw[e,h]
theorem aRa{n M:Nat}(hM:M=2000)(h:n≤M):((10^n:Nat):Int)≤P32 210:=by
 have key:((10^M:Nat):Int)≤P32 210:=by subst hM;decide+kernel
 have h1:10^n≤10^M:=Nat.pow_le_pow_right (by decide) h;exact Int.le_trans (Int.ofNat_le.2 h1) key
theorem aDz{ds:List UInt8}(hd:Digs ds)(hl:ds.length≤2000)(k:Nat):Fits 210 (num (ds.take k):Int):=by
 have h1:=aHa _ (hd.take k);have h3:=aRa rfl (show(ds.take k).length≤2000 by rw[List.length_take];omega);unfold Fits;rw[Int.natAbs_natCast];exact Int.lt_of_lt_of_le (Int.ofNat_lt.2 h1) h3
structure RdI(w:World)(ds:List UInt8)(k:Nat)(t:ByteArray)(Aa:Option Addr)(na ca:Nat)(wr:World):Prop where
 ht:t.data.toList=ds.drop k
 hk:k≤ds.length
 hm:k=0∨(ds.length-k)%9=0
 va:Var wr (w.heap.size+1) (.bool false) (.slice Aa na ca)
 vr:Var wr w.heap.size (.bool false) (.slice none 0 0)
 ba:Big wr (.agg #[.bool false,.slice Aa na ca]) (num (ds.take k):Int)
 below:Below w.heap.size w wr
theorem vY(w:World):Big w (.agg #[.bool false,.slice none 0 0]) 0:=⟨none,0,[],by simp,Reads.nil,⟨Nat.le_refl _,Nat.zero_le _⟩,Ok.nil,by simp[Nm],rfl⟩
theorem Var.set0{w:World}{g:Nat}{x0 x1:Value}(h:Var w g x0 x1)(u:Value):Var (w.setCell ⟨g,0,none⟩ u) g u x1:=by
 refine⟨World.cell?_setCell_same _ _ _ h.c0,?_,by simpa using h.f0,by simpa using h.f1⟩;rw[World.cell?_setCell_other _ _ _ _ (by simp)];exact h.c1
theorem Var.far0{w:World}{g g':Nat}{x0 x1:Value}(h:Var w g x0 x1)(hne:g'≠g)(u:Value):Var (w.setCell ⟨g',0,none⟩ u) g x0 x1:=by
 refine⟨?_,?_,by simpa using h.f0,by simpa using h.f1⟩
 ·rw[World.cell?_setCell_far _ _ _ _ (by simpa using hne)];exact h.c0
 ·rw[World.cell?_setCell_far _ _ _ _ (by simpa using hne)];exact h.c1
theorem Big.signed{w:World}{A:Option Addr}{n c:Nat}{x:Nat}(h:Big w (.agg #[.bool false,.slice A n c]) (x:Int))(m:Bool):Big w (.agg #[.bool (m&&decide (0<n)),.slice A n c]) (sgn m (x:Int)):=by
 obtain⟨A',c',ws,e,hr,hc,ho,hn,hv⟩:=h;injection e with e;have e1:=congrArg (fun a:Array Value=>a[1]?) e;simp at e1;obtain⟨rfl,rfl,rfl⟩:=e1;have hs:=Big.sign ho hn hv;refine⟨A,c,ws,?_,hr,hc,ho,hn,by rw[tW m (by omega),hv];omega⟩;congr 3;cases m
 ·simp[sgn]
 ·simp only[Bool.true_and,sgn,if_true];have h2:decide (0<ws.length)=decide (-(x:Int)<0):=decide_eq_decide.2 ⟨fun h=>by omega,fun h=>by omega⟩;rw[h2]
theorem aEa(m:Bool)(ds:List UInt8)(hd:Digs ds)(hl:ds.length≤2000)(s:ByteArray)(w:World)(hp:Lib.hasPrefix s.data.toList [45]=m)(htr:Lib.trimPrefix s.data.toList [45]=ds): Calls Tryz.prog 151 #[.string s] w (RetBig w (sgn m (num ds:Int))):=by
 have HP:=aH fun W=>Tryz.strings_HasPrefix s ⟨#[45]⟩ W;have HTR:=aH fun W=>Tryz.strings_TrimPrefix s ⟨#[45]⟩ W;have e45:(⟨#[45]⟩:ByteArray).data.toList=[45]:=rfl;rw[e45,hp]at HP;rw[e45,htr]at HTR;clear e45 hp htr;have hb1:Below w.heap.size w ((w.alloc (.cells #[.bool false,.slice none 0 0] aK)).alloc (.cells #[.bool false,.slice none 0 0] aK)):=((Below.refl _ _).alloc lR _).alloc (by simp) _;have hR:=(Blk.new w aK #[.bool false,.slice none 0 0]).alloc (.cells #[.bool false,.slice none 0 0] aK);have hA:=Blk.new (w.alloc (.cells #[.bool false,.slice none 0 0] aK)) aK #[.bool false,.slice none 0 0];rw[World.size_alloc w]at hA;have HI:Hid (RdI w ds 0 ⟨ds.toArray⟩ none 0 0 ((w.alloc (.cells #[.bool false,.slice none 0 0] aK)).alloc (.cells #[.bool false,.slice none 0 0] aK))):=aH ⟨by simp,Nat.zero_le _,.inl rfl,hA.var,hR.var,by simpa[num,nI]using vY _,hb1⟩;clear hb1 hR hA;unfold aK at*;go_enter Tryz.func151,Tryz.ntmps151;go_wp2_with fail;refine(HP.out _).mono ?_;rintro e w' ⟨rfl,rfl⟩;go_wp2_with fail;refine(HTR.out _).mono ?_;rintro e w' ⟨rfl,rfl⟩;clear HP HTR;go_wp2_with fail;go_loopg [0] (ds.length-0) (fun r sv wr=>∃k t Aa na ca,r=ds.length-k∧sv= .string t∧RdI w ds k t Aa na ca wr);case atStart=>exact⟨0,_,_,_,_,rfl,rfl,HI.out⟩
 case round=>
  clear HI;obtain⟨k,t,Aa,na,ca,rfl,rfl,hI⟩:=hrel;obtain⟨wa,rfl⟩:=wE wr;have hk:=hI.hk;have hts:t.size=ds.length-k:=by
   have h:=congrArg List.length hI.ht;rw[Array.length_toList,List.length_drop]at h;exact h
  by_cases hlt:k<ds.length
  ·obtain⟨n,hn⟩:∃n,(t.size-1)%9+1=n:=⟨_,rfl⟩;have hn1:1≤n:=by omega
   have hn9:n≤9:=by omega
   have hnt:n≤t.size:=by omega
   have hkn:k=0∨n=9:=by
    rcases hI.hm with h|h
    ·exact .inl h
    ·right;omega
   have hm2:(ds.length-(k+n))%9=0:=by omega
   have hce:(t.extract 0 n).data.toList=(ds.drop k).take n:=by
    rw[←hI.ht];simp
   have hte:(t.extract n t.size).data.toList=ds.drop (k+n):=by
    rw[←List.drop_drop,←hI.ht,ByteArray.data_extract,Array.toList_extract,List.extract_eq_take_drop];exact List.take_of_length_le (by rw[List.length_drop,Array.length_toList];exact Nat.le_refl _)
   have hdc:=(hd.drop k).take n;have hcl:((ds.drop k).take n).length=n:=by rw[List.length_take,List.length_drop];omega
   have hpk:=aQz _ hdc (by intro e;rw[e]at hcl;simp at hcl;omega) (by omega);have hlt9:=aHa _ hdc;rw[hcl]at hlt9;have hlt10:num ((ds.drop k).take n)<1000000000:=Nat.lt_of_lt_of_le hlt9 (Nat.le_trans (Nat.pow_le_pow_right (by decide) hn9) (by decide));have hpk2:Lib.parseUintB 32 (t.extract 0 n).data.toList= .ok (num ((ds.drop k).take n)):=by rw[hce];exact hpk
   have HPU:=aH (Tryz.strconv_ParseUint_10_at32_ok (t.extract 0 n) (by rw[ByteArray.size_extract];omega) _ hpk2 wa);have HNC:=aH (aMn (show k+n≤ds.length by omega) hkn);have he:((t.size:Int)-1)%9+1=(n:Int):=by omega
   have ht0:0<t.size:=by omega
   have HTE:=aH hte;have HI:=aH hI;obtain⟨N,hN0,hN1,hF1⟩:∃N,211≤N∧N≤300∧Fits N (num (ds.take k):Int):=⟨211,by omega,by omega,(aDz hd hl k).mono (by omega)⟩;have F1:=aH hF1;clear hF1;generalize num ((ds.drop k).take n)=d at*;clear hpk hpk2 hlt9 hcl hdc hte hce hI hkn hn;have htb:t.size≤2000:=by omega
   have HTS:=aH hts;clear hts;go_wp2_with fail;refine HPU.out.mono ?_;rintro e w1 ⟨rfl,hw1⟩;have hb1:Below wa.heap.size wa w1:=by
    rcases hw1 with rfl|rfl
    ·exact Below.refl _ _
    ·exact Lib.bytesWorld_below _ _ _
   have HI1:Hid (RdI w ds k t Aa na ca w1):=aH ⟨HI.out.ht,HI.out.hk,HI.out.hm,HI.out.va.below hb1,HI.out.vr.below hb1,HI.out.ba.ext hb1,HI.out.below.trans (hb1.mono HI.out.below.size)⟩;have hd0:(0:Int)≤(d:Int):=by omega
   have hd1:(d:Int)<1000000000:=by omega
   clear hw1 hb1 HPU HI;have hwr:IntKind.i64.wrap (d:Int)=d:=IntWalk.i64_in _ (by omega);go_upto_region 7 with(fail)
   refine aJ (fun w'=>w'.cell? ⟨w.heap.size+1,0,none⟩=some (.bool false)∧w'.cell? ⟨w.heap.size+1,1,none⟩=some (.slice Aa na ca)) 7 (by kernel_rfl) ?_;refine eA (i:=0) (oi:=_) (v:= .agg #[.bool false,.slice Aa na ca]) rfl (by kernel_rfl) (by kernel_rfl) (by kernel_rfl) (by kernel_rfl) (by kernel_rfl) (by kernel_rfl) (fun _ _ _ h=>h) (Or.inl ⟨by rfl,?_⟩) ⟨HI1.out.va.drew.c0,HI1.out.va.drew.c1⟩ ?_
   ·rintro w ⟨s0,s1⟩;go_simp
   simp only[Act.put,List.setIfInBounds_toArray];refine eA (i:=3) (oi:=_) (v:= .int .u64 d) rfl (by kernel_rfl) (by kernel_rfl) (by kernel_rfl) (by kernel_rfl) (by kernel_rfl) (by kernel_rfl) (fun _ _ _ h=>h) (Or.inl ⟨by rfl,?_⟩) ⟨HI1.out.va.drew.c0,HI1.out.va.drew.c1⟩ ?_
   ·rintro w ⟨s0,s1⟩;go_simp
   simp only[Act.put];refine eA (i:=4) (oi:=_) (v:= .int .i64 d) rfl (by kernel_rfl) (by kernel_rfl) (by kernel_rfl) (by kernel_rfl) (by kernel_rfl) (by kernel_rfl) (fun _ _ _ h=>h) (Or.inl ⟨by rfl,?_⟩) ⟨HI1.out.va.drew.c0,HI1.out.va.drew.c1⟩ ?_
   ·rintro w ⟨s0,s1⟩;go_simp
   simp only[Act.put];refine on1 1 fun K hK=>?_;go_simp;go_at_call 136;refine(mU 1000000000 _ (by omega) (by omega)).mono ?_;rintro e w2 ⟨v2,rfl,hv2,hb2⟩;obtain⟨A2,n2,c2,rfl⟩:=hv2.form;rw[show decide ((1000000000:Int)<0)=false from rfl]at*;have HB2:=aH (cC hb2);have HV2:=aH hv2;have HVA2:=aH (HI1.out.va.below HB2.out);refine hK.out _ _ (fun _=>⟨HVA2.out.c0,HVA2.out.c1⟩) ?_;clear hK K hv2 hb2;refine on1 2 fun K hK=>?_;go_simp;go_at_call 149;refine(iB _ _ (num (ds.take k):Int) 1000000000 _ (HI1.out.ba.ext HB2.out) HV2.out (N:=N) (by omega) F1.out (gF N (by omega) _ (by omega) (by omega))).mono ?_;rintro e w3 ⟨v3,rfl,hv3,hb3⟩;obtain⟨A3,n3,c3,rfl⟩:=hv3.form;have HB3:=aH (HB2.out.trans (hb3.mono HB2.out.size));have HV3:=aH hv3;have HVA3:=aH (HI1.out.va.below HB3.out);refine hK.out _ _ (fun _=>⟨HVA3.out.c0,HVA3.out.c1⟩) ?_;clear hK K hv3 hb3;refine on1 5 fun K hK=>?_;go_simp;go_at_call 136;refine(mU d _ (by omega) (by omega)).mono ?_;rintro e w4 ⟨v4,rfl,hv4,hb4⟩;obtain⟨A4,n4,c4,rfl⟩:=hv4.form;have HB4:=aH (HB3.out.trans (hb4.mono HB3.out.size));have HV34:=aH (HV3.out.ext hb4);have HV4:=aH hv4;have HVA4:=aH (HI1.out.va.below HB4.out);refine hK.out _ _ (fun _=>⟨HVA4.out.c0,HVA4.out.c1⟩) ?_;clear hK K hv4 hb4;refine on1 6 fun K hK=>?_;go_simp;go_at_call 150;refine(tY _ _ ((num (ds.take k):Int)*1000000000) d _ HV34.out HV4.out (N:=N+N) (by omega) (F1.out.mul (gF N (by omega) _ (by omega) (by omega))) (gF _ (by omega) _ (by omega) (by omega))).mono ?_;rintro e w5 ⟨v5,rfl,hv5,hb5⟩;obtain⟨A5,n5,c5,rfl⟩:=hv5.form;have HB5:=aH (HB4.out.trans (hb5.mono HB4.out.size));have HV5:=aH hv5;have HVA5:=aH (HI1.out.va.below HB5.out);refine hK.out _ _ (fun _=>⟨HVA5.out.c0,HVA5.out.c1⟩) ?_;clear hK K hv5 hb5;have ev:(num (ds.take k):Int)*1000000000+d=(num (ds.take (k+n)):Int):=by rw[HNC.out];simp
   rw[ev]at HV5;have ed:decide ((num (ds.take k):Int)*1000000000+d<0)=false:=decide_eq_false (by rw[ev];omega);have ed2:decide ((num (ds.take (k+n)):Int)<0)=false:=decide_eq_false (by omega);rw[ed];try rw[ed]at HV5
   try rw[ed2]at HV5
   have r0:=HVA5.out.c0;have r1:=HVA5.out.c1;have r2:=HVA5.out.f0;have r3:=HVA5.out.f1;have HF:Hid (RdI w ds (k+n) (t.extract n t.size) A5 n5 c5 ((w5.setCell ⟨w.heap.size+1,0,none⟩ (.bool false)).setCell ⟨w.heap.size+1,1,none⟩ (.slice A5 n5 c5))):=aH ⟨HTE.out,by have:=HTS.out;omega,.inr hm2,HVA5.out.set _ _,(HI1.out.vr.below HB5.out).far (by omega) _ _,HV5.out.setVar HVA5.out _ _,((HI1.out.below.trans (HB5.out.mono HI1.out.below.size)).setCell (by simp only;omega) _).setCell (by simp only;omega) _⟩
   refine on1 7 fun K hK=>?_;go_simp;refine hK.out _ _ (fun h=>absurd h (by decide)) ?_;clear hK K r0 r1 r2 r3 ev ed ed2;refine aG (by kernel_rfl) ?_ _;go_wp2;go_roundg (ds.length-(k+n));case measure=>omega
   case rel=>exact⟨_,_,_,_,_,rfl,rfl,HF.out⟩
  ·obtain rfl:k=ds.length:=by omega
   have htz:t.size=0:=by omega
   have hB:=hI.ba;rw[List.take_of_length_le lR]at hB;have hBS:=hB.signed m;have hv1:=hI.va.set0 (.bool (m&&decide (0<na)));have hv2:=hI.vr.far0 (g':=w.heap.size+1) (by omega) (.bool (m&&decide (0<na)));have hB1:=(hBS.set hI.va.c0 (bO _) (.bool (m&&decide (0<na)))).setVar hv2 (.bool (m&&decide (0<na))) (.slice Aa na ca);have hv3:=hv2.set (.bool (m&&decide (0<na))) (.slice Aa na ca);have hbl:=((hI.below.setCell (p:=⟨w.heap.size+1,0,none⟩) (by simp) (.bool (m&&decide (0<na)))).setCell (p:=⟨w.heap.size,0,none⟩) (by simp) (.bool (m&&decide (0<na)))).setCell (p:=⟨w.heap.size,1,none⟩) (by simp) (.slice Aa na ca);have a0:=hI.va.c0;have a1:=hI.va.c1;have a2:=hI.va.f0;have a3:=hI.va.f1;have b0:=hI.vr.c0;have b1:=hI.vr.c1;have b2:=hI.vr.f0;have b3:=hI.vr.f1;have HQ:=aH (show RetBig w (sgn m (num ds:Int)) (.returned (.agg #[.bool (m&&decide (0<na)),.slice Aa na ca])) _ from⟨_,rfl,hB1,hbl⟩);have HV:=aH hv3;clear hB hBS hv1 hv2 hB1 hv3 hbl hI hts;cases m
   ·simp only[Bool.false_and]at HQ HV;go_wp2;have z0:=HV.out.c0;have z1:=HV.out.c1;generalize((wa.setCell ⟨w.heap.size+1,0,none⟩ (.bool false)).setCell ⟨w.heap.size,0,none⟩ (.bool false)).setCell ⟨w.heap.size,1,none⟩ (.slice Aa na ca)=W at*;exact bodyPost_ret (v:= .agg #[.bool false,.slice Aa na ca]) (by simp[results,Tryz.results151,go_sem,z0,z1]) rfl HQ.out
   ·simp only[Bool.true_and]at HQ HV;go_wp2;have z0:=HV.out.c0;have z1:=HV.out.c1;generalize((wa.setCell ⟨w.heap.size+1,0,none⟩ (.bool (decide (0<na)))).setCell ⟨w.heap.size,0,none⟩ (.bool (decide (0<na)))).setCell ⟨w.heap.size,1,none⟩ (.slice Aa na ca)=W at*;exact bodyPost_ret (v:= .agg #[.bool (decide (0<na)),.slice Aa na ca]) (by simp[results,Tryz.results151,go_sem,z0,z1]) rfl HQ.out
end
section
open Go.Lib
theorem aEb{l m:List UInt8}(h:Digs l)(k:Digs m):Digs (l++m):=fun c hc=>(List.mem_append.1 hc).elim (h c) (k c)
theorem iZ{d:Nat}(h:d<10):(UInt8.ofNat (48+d)).toNat=48+d:=by rw[UInt8.toNat_ofNat'];omega
theorem aEc{d:Nat}(h:d<10):Digs [UInt8.ofNat (48+d)]:=fun c hc=>by
 rw[List.mem_singleton.1 hc,iZ h];omega
theorem qR(c:UInt8):num [c]=c.toNat-48:=by simp[num,nI]
theorem vZ(n:Nat):Digs (decDigits n):=by
 induction n using Nat.strongRecOn with
 |ind n ih=>
  by_cases h:n<10
  ·rw[decDigits,dif_pos h];exact aEc h
  ·rw[nG (by omega)];exact aEb (ih _ (by omega)) (aEc (by omega))
theorem lW(n:Nat):num (decDigits n)=n:=by
 induction n using Nat.strongRecOn with
 |ind n ih=>
  by_cases h:n<10
  ·rw[decDigits,dif_pos h,qR,iZ h];omega
  ·rw[nG (by omega),jM,ih _ (by omega),qR,iZ (by omega)];simp only[List.length_cons,List.length_nil];omega
structure Canon(l:List UInt8):Prop where
 digs:Digs l
 ne:l≠[]
 head:1<l.length→l.head?≠some 48
theorem aRb(n:Nat)(h:1<(decDigits n).length):(decDigits n).head?≠some 48:=by
 induction n using Nat.strongRecOn with
 |ind n ih=>
  by_cases h1:n<10
  ·rw[decDigits,dif_pos h1]at h;simp at h
  ·rw[nG (by omega),List.head?_append];by_cases h2:n/10<10
   ·rw[decDigits,dif_pos h2];simp only[List.head?_cons,Option.some_or];intro e;have e:=congrArg UInt8.toNat (Option.some.inj e);rw[iZ h2]at e;simp at e;omega
   ·have hl:1<(decDigits (n/10)).length:=by
     rw[nG (by omega),List.length_append];have:=nH (n/10/10);simp;omega
    have:=ih (n/10) (by omega) hl;cases hd:(decDigits (n/10)).head? with
    |none=>rw[List.head?_eq_none_iff]at hd;rw[hd]at hl;simp at hl
    |some c=>rw[hd]at this;simpa using this
theorem aMo(n:Nat):Canon (decDigits n):=⟨vZ n,fun e=>by have:=nH n;rw[e]at this;simp at this,aRb n⟩
theorem aVz:∀{l:List UInt8},Digs l→l≠[]→l.head?≠some 48→1≤num l
 |c::l,hd,_,hh=>by
  have h1:=hd c List.mem_cons_self;have h2:c.toNat≠48:=fun e=>hh (by rw[List.head?_cons,show c=48 from UInt8.toNat_inj.1 e]);have h3:=jM [c] l;rw[List.singleton_append,qR]at h3;have h4:1*10^l.length≤(c.toNat-48)*10^l.length:=Nat.mul_le_mul_right _ (by omega);have h5:1≤10^l.length:=Nat.pow_pos (by decide);omega
theorem tG:∀(n:Nat) (l:List UInt8),l.length=n→Canon l→decDigits (num l)=l
 |0,l,hn,h=>absurd (List.eq_nil_of_length_eq_zero hn) h.ne
 |n+1,l,hn,h=>by
  have hne:=h.ne;have hl:=List.dropLast_concat_getLast hne;generalize hm:l.dropLast=m at hl;generalize l.getLast hne=c at hl;subst hl;have hc:=h.digs c (by simp);by_cases hm0:m=[]
  ·subst hm0;rw[List.nil_append,qR,decDigits,dif_pos (by omega)];congr 1;exact UInt8.toNat_inj.1 (by rw[iZ (by omega)];omega)
  ·have hml:1≤m.length:=by cases m with|nil=>exact absurd rfl hm0|cons=>simp
   have hh:m.head?≠some 48:=by
    have:=h.head (by simp;omega);cases m with
    |nil=>exact absurd rfl hm0
    |cons a m=>simpa using this
   have hdm:Digs m:=fun x hx=>h.digs x (List.mem_append_left _ hx);have ih:=tG n m (by simp at hn;omega) ⟨hdm,hm0,fun _=>hh⟩;have h1:=aVz hdm hm0 hh;have e:num (m++[c])=num m*10+(c.toNat-48):=by rw[jM,qR];simp
   rw[e,nG (by omega),show(num m*10+(c.toNat-48))/10=num m by omega,show(num m*10+(c.toNat-48))%10=c.toNat-48 by omega,ih];congr 2;exact UInt8.toNat_inj.1 (by rw[iZ (by omega)];omega)
theorem lX{l:List UInt8}(h:Canon l):decDigits (num l)=l:=tG _ l rfl h
def kX(l:List UInt8):Bool:=l.all fun c=>decide (48≤c.toNat)&&decide (c.toNat≤57)
theorem zO(l:List UInt8):kX l=true↔Digs l:=by simp[kX,Digs,List.all_eq_true]
def chk(l:List UInt8):Int:=if kX l=false then 5 else if l=[]∨(1<l.length∧l.head?=some 48)then 5 else if 2000<l.length then 2 else 0
structure Num(l:List UInt8):Prop extends Canon l where
 len:l.length≤2000
theorem lY(l:List UInt8):chk l=0↔Num l:=by
 unfold chk;split
 ·rename_i h;exact⟨fun e=>(by cases e),fun k=>by rw[(zO l).2 k.digs]at h;cases h⟩
 ·rename_i h;split
  ·rename_i h1;refine⟨fun e=>(by cases e),fun k=>?_⟩;rcases h1 with h1|⟨h1,h2⟩
   ·exact absurd h1 k.ne
   ·exact absurd h2 (k.head h1)
  ·rename_i h1;split
   ·exact⟨fun e=>(by cases e),fun k=>absurd k.len (by omega)⟩
   ·refine⟨fun _=>⟨⟨(zO l).1 (by simpa using h),fun e=>h1 (.inl e),fun a b=>h1 (.inr ⟨a,b⟩)⟩,by omega⟩,fun _=>rfl⟩
theorem qS(n:Nat):itoa (n:Int)=decDigits n:=by simp[itoa]
def kY(n:Nat):Bool:=decide ((decDigits n).length≤2000)
theorem aEd(n:Nat):kY n=true↔n<10^2000:=by unfold kY;rw[decide_eq_true_iff,lV _ _ (by omega)]
theorem aMp{n m:Nat}(h:kY m=true)(hl:n≤m):kY n=true:=(aEd n).2 (Nat.lt_of_le_of_lt hl ((aEd m).1 h))
theorem aJp{n j:Nat}(h:n<10^j)(h1:1≤j)(hj:j≤2000):kY n=true:=decide_eq_true (Nat.le_trans ((lV n j h1).2 h) hj)
def nJ(n:Nat):List UInt8×Int:=if kY n=true then(decDigits n,0)else([],2)
def eG(a b:List UInt8):Int:=if chk a=0 then chk b else chk a
def wA(a b:List UInt8)(r:List UInt8×Int):List UInt8×Int:=if eG a b=0 then r else([],eG a b)
def gU(a b:List UInt8):List UInt8×Int:=wA a b (nJ (Nat.gcd (num a) (num b)))
theorem zP(a b:List UInt8):eG a b=0↔Num a∧Num b:=by
 unfold eG;split
 ·rename_i h;rw[lY]at h;rw[lY];exact⟨fun k=>⟨h,k⟩,fun k=>k.2⟩
 ·rename_i h;exact⟨fun e=>absurd e h,fun k=>absurd ((lY a).2 k.1) h⟩
theorem wB{n:Nat}(h:kY n=true):nJ n=(decDigits n,0):=by rw[nJ,if_pos h]
theorem Num.fit{a:List UInt8}(h:Num a):kY (num a)=true:=by
 unfold kY;rw[decide_eq_true_iff,lX h.toCanon];exact h.len
theorem pL{n:Nat}(h:kY n=true):Num (decDigits n):=⟨aMo n,by simpa[kY]using h⟩
theorem aEe{a b:List UInt8}(ha:Num a)(hb:Num b)(r:List UInt8×Int):wA a b r=r:=by rw[wA,if_pos ((zP a b).2 ⟨ha,hb⟩)]
theorem aEf:decDigits 0=[48]:=by decide+kernel
def cG:List UInt8→List UInt8
 |[]=>[]
 |c::l=>if c=47 then[]else c::cG l
def cZ:List UInt8→List UInt8
 |[]=>[]
 |c::l=>if c=47 then l else cZ l
def fT:List UInt8→Bool
 |[]=>false
 |c::l=>if c=47 then true else fT l
theorem jA{c:UInt8}(h:c≠47)(l:List UInt8):cG (c::l)=c::cG l∧cZ (c::l)=cZ l∧fT (c::l)=fT l:=by
 simp only[cG,cZ,fT,if_neg h,and_self]
theorem wC(l:List UInt8):cG (47::l)=[]∧cZ (47::l)=l∧fT (47::l)=true:=by
 simp only[cG,cZ,fT,if_true,and_self]
theorem wD:∀(l:List UInt8) (k:Nat),indexByte l 47=k→cG l=l.take k∧cZ l=l.drop (k+1)∧fT l=true∧k<l.length
 |[],k,h=>by simp[indexByte]at h
 |c::l,k,h=>by
  by_cases hc:c=47
  ·subst hc;have:k=0:=by simp[indexByte]at h;omega
   subst this;simp[wC]
  ·obtain⟨j,rfl⟩:∃j,k=j+1:=by
    have h2:=indexByte_some h;cases k with
    |zero=>have:=h2.1;simp at this;exact absurd this hc
    |succ j=>exact⟨j,rfl⟩
   have hj:indexByte l 47=j:=by
    have h3:=indexByte_ge l 47;rw[indexByte,if_neg (by simpa using hc)]at h;split at h<;>omega
   obtain⟨h1,h2,h3,h4⟩:=wD l j hj;obtain⟨k1,k2,k3⟩:=jA hc l;refine⟨by rw[k1,h1];rfl,by rw[k2,h2];rfl,by rw[k3,h3],by simp;omega⟩
theorem qT:∀{l:List UInt8},(∀c∈l,c≠47)→cG l=l∧cZ l=[]∧fT l=false
 |[],_=>⟨rfl,rfl,rfl⟩
 |c::l,h=>by
  obtain⟨k1,k2,k3⟩:=jA (h c List.mem_cons_self) l;obtain⟨h1,h2,h3⟩:=qT (l:=l) fun x hx=>h x (List.mem_cons_of_mem _ hx);exact⟨by rw[k1,h1],by rw[k2,h2],by rw[k3,h3]⟩
theorem aRc(l:List UInt8)(h:indexByte l 47=-1):cG l=l∧cZ l=[]∧fT l=false:=qT fun c hc e=>by
  subst e;obtain⟨k,hk,he⟩:=List.mem_iff_getElem.1 hc;exact indexByte_none h k (by rw[gE hk,he])
theorem qU:∀{a:List UInt8} (d:List UInt8),(∀c∈a,c≠47)→cG (a++47::d)=a∧cZ (a++47::d)=d∧fT (a++47::d)=true
 |[],d,_=>wC d
 |c::a,d,h=>by
  obtain⟨k1,k2,k3⟩:=jA (h c List.mem_cons_self) (a++47::d);obtain⟨h1,h2,h3⟩:=qU (a:=a) d fun x hx=>h x (List.mem_cons_of_mem _ hx);exact⟨by rw[List.cons_append,k1,h1],by rw[List.cons_append,k2,h2],by rw[List.cons_append,k3,h3]⟩
theorem aEg:∀(l:List UInt8),fT l=true→l=cG l++47::cZ l
 |[],h=>by simp[fT]at h
 |c::l,h=>by
  by_cases hc:c=47
  ·subst hc;rw[(wC l).1,(wC l).2.1];rfl
  ·obtain⟨k1,k2,k3⟩:=jA hc l;rw[k3]at h;rw[k1,k2,List.cons_append,←aEg l h]
theorem aJq:∀(l:List UInt8),fT l=false→cG l=l
 |[],_=>rfl
 |c::l,h=>by
  by_cases hc:c=47
  ·subst hc;rw[(wC l).2.2]at h;cases h
  ·obtain⟨k1,_,k3⟩:=jA hc l;rw[k3]at h;rw[k1,aJq l h]
theorem aRd{l:List UInt8}(h:Digs l):∀c∈l,c≠47:=fun c hc e=>by have:=h c hc;rw[e]at this;exact absurd this.1 (by decide)
def jN(l:List UInt8):Bool:=hasPrefix l [45]
def aL(l:List UInt8):List UInt8:=trimPrefix l [45]
theorem qV(l:List UInt8):jN (45::l)=true∧aL (45::l)=l:=by
 simp[jN,aL,trimPrefix,hasPrefix,List.isPrefixOf]
theorem aBt{l:List UInt8}(h:l.head?≠some 45):jN l=false∧aL l=l:=by
 have:jN l=false:=by
  cases l with
  |nil=>rfl
  |cons c l=>
   have hc:c≠45:=fun e=>h (by rw[e];rfl);simp[jN,hasPrefix,List.isPrefixOf,beq_eq_false_iff_ne.2 (Ne.symm hc)]
 refine⟨this,?_⟩;unfold aL trimPrefix;unfold jN at this;rw[this];rfl
theorem kZ(l:List UInt8):l=(if jN l=true then 45::aL l else aL l):=by
 by_cases h:l.head?=some 45
 ·cases l with
  |nil=>simp at h
  |cons c l=>
   obtain rfl:c=45:=by simpa using h
   rw[(qV l).1,(qV l).2,if_pos rfl]
 ·rw[(aBt h).1,(aBt h).2,if_neg (by simp)]
def qW(l:List UInt8):Int:=if fT l=true then chk (cZ l)else 0
def dU(l:List UInt8):Int:=if chk (cG (aL l))=5∨qW (aL l)=5∨(cG (aL l)=[48]∧(aL l).length<l.length)then 5
 else if chk (cG (aL l))≠0∨qW (aL l)≠0 then 2
 else if fT (aL l)=true∧(cZ (aL l)=[48]∨cZ (aL l)=[49]∨(gU (cG (aL l)) (cZ (aL l))).1≠[49])then 3 else 0
def fM(l:List UInt8):Rat:=Rat.divInt (sgn (jN l) (num (cG (aL l)):Int)) (if fT (aL l)=true then(num (cZ (aL l)):Int)else 1)
def aQ(q:Rat):List UInt8:=if q.den=1 then itoa q.num else itoa q.num++47::decDigits q.den
def bK(q:Rat):Bool:=kY q.num.natAbs&&kY q.den
theorem aBu{n:Nat}(h:decDigits n=[49]):n=1:=by have:=lW n;rw[h]at this;exact this.symm
theorem aEh{n:Nat}(h:decDigits n=[48]):n=0:=by have:=lW n;rw[h]at this;exact this.symm
theorem aEi(m:Bool)(n:Nat)(h:m=true→n≠0):itoa (sgn m (n:Int))=if m=true then 45::decDigits n else decDigits n:=by
 cases m with
 |false=>rw[if_neg (by simp)];exact qS n
 |true=>
  have:=h rfl;rw[if_pos rfl,itoa,sgn,if_pos rfl,if_pos (by omega),Int.natAbs_neg,Int.natAbs_natCast]
structure RVal(l:List UInt8):Prop where
 na:Num (cG (aL l))
 nd:fT (aL l)=true→Num (cZ (aL l))
 num:(fM l).num=sgn (jN l) (Proofs.YtenbglfkdldheaaGreatDoor.num (cG (aL l)):Int)
 den:((fM l).den:Int)=if fT (aL l)=true then(Proofs.YtenbglfkdldheaaGreatDoor.num (cZ (aL l)):Int)else 1
 text:aQ (fM l)=l
 fit:bK (fM l)=true
theorem aHb{n d:Int}(hd:0<d)(hg:Int.gcd d n=1):(Rat.divInt n d).num=n∧((Rat.divInt n d).den:Int)=d:=by
 rw[Rat.num_divInt,Rat.den_divInt,hg,Int.sign_eq_one_of_pos hd,if_neg (by omega)];refine⟨by simp,by simp;omega⟩
theorem pM(m:Bool)(n:Nat):(sgn m (n:Int)).natAbs=n:=by cases m<;>simp[sgn]
theorem wF(l:List UInt8)(h:dU l=0):RVal l:=by
 unfold dU at h;split at h
 ·cases h
 ·rename_i h1;split at h
  ·cases h
  ·rename_i h2;split at h
   ·cases h
   ·rename_i h3;have ha:chk (cG (aL l))=0:=Decidable.not_not.1 fun k=>h2 (.inl k);have na:=(lY _).1 ha;have hm:jN l=true→Proofs.YtenbglfkdldheaaGreatDoor.num (cG (aL l))≠0:=fun k e=>h1 (.inr (.inr ⟨by rw[←lX na.toCanon,e];exact aEf,by
     have:=kZ l;rw[if_pos k]at this;have:=congrArg List.length this;rw[List.length_cons]at this;omega⟩))
    by_cases hi:fT (aL l)=true
    ·have hb:chk (cZ (aL l))=0:=Decidable.not_not.1 fun k=>h2 (.inr (by rw[qW,if_pos hi];exact k));have nd:=(lY _).1 hb;have hd0:Proofs.YtenbglfkdldheaaGreatDoor.num (cZ (aL l))≠0:=fun e=>h3 ⟨hi,.inl (by rw[←lX nd.toCanon,e];exact aEf)⟩;have hd1:Proofs.YtenbglfkdldheaaGreatDoor.num (cZ (aL l))≠1:=fun e=>h3 ⟨hi,.inr (.inl (by rw[←lX nd.toCanon,e];decide+kernel))⟩;have hg:Nat.gcd (Proofs.YtenbglfkdldheaaGreatDoor.num (cG (aL l))) (Proofs.YtenbglfkdldheaaGreatDoor.num (cZ (aL l)))=1:=by
      have:(gU (cG (aL l)) (cZ (aL l))).1=[49]:=Decidable.not_not.1 fun k=>h3 ⟨hi,.inr (.inr k)⟩;rw[gU,aEe na nd,wB (aMp nd.fit (Nat.gcd_le_right _ (Nat.pos_of_ne_zero hd0)))]at this;exact aBu this
     have hr:=aHb (n:=sgn (jN l) (Proofs.YtenbglfkdldheaaGreatDoor.num (cG (aL l)):Int)) (d:=(Proofs.YtenbglfkdldheaaGreatDoor.num (cZ (aL l)):Int)) (by omega) (by rw[Int.gcd,pM,Int.natAbs_natCast,Nat.gcd_comm];exact hg);have e:fM l=Rat.divInt (sgn (jN l) (Proofs.YtenbglfkdldheaaGreatDoor.num (cG (aL l)):Int)) (Proofs.YtenbglfkdldheaaGreatDoor.num (cZ (aL l)):Int):=by rw[fM,if_pos hi]
     rw[←e]at hr;have hden:(fM l).den=Proofs.YtenbglfkdldheaaGreatDoor.num (cZ (aL l)):=by have:=hr.2;omega
     refine⟨na,fun _=>nd,hr.1,by rw[if_pos hi];exact hr.2,?_,?_⟩
     ·rw[aQ,if_neg (by omega),hr.1,aEi _ _ hm,hden,lX na.toCanon,lX nd.toCanon];have hc:=aEg _ hi;have hf:=kZ l;by_cases k:jN l=true
      ·rw[if_pos k]at hf⊢;rw[List.cons_append,←hc,←hf]
      ·rw[if_neg k]at hf⊢;rw[←hc,←hf]
     ·rw[bK,hr.1,pM,hden,na.fit,nd.fit];rfl
    ·have e:fM l=Rat.divInt (sgn (jN l) (Proofs.YtenbglfkdldheaaGreatDoor.num (cG (aL l)):Int)) 1:=by rw[fM,if_neg hi]
     have hr:=aHb (n:=sgn (jN l) (Proofs.YtenbglfkdldheaaGreatDoor.num (cG (aL l)):Int)) (d:=1) (by omega) (by simp);rw[←e]at hr;have hden:(fM l).den=1:=by have:=hr.2;omega
     refine⟨na,fun k=>absurd k hi,hr.1,by rw[if_neg hi];exact hr.2,?_,?_⟩
     ·rw[aQ,if_pos hden,hr.1,aEi _ _ hm,lX na.toCanon,aJq _ (by simpa using hi)];exact(kZ l).symm
     ·rw[bK,hr.1,pM,hden,na.fit];decide+kernel
theorem aEj(q:Rat):jN (aQ q)=decide (q.num<0)∧cG (aL (aQ q))=decDigits q.num.natAbs∧fT (aL (aQ q))=decide (q.den≠1)∧(q.den≠1→cZ (aL (aQ q))=decDigits q.den):=by
 have hh:(decDigits q.num.natAbs).head?≠some 45:=fun e=>by
  have hd:=vZ q.num.natAbs;cases hl:decDigits q.num.natAbs with
  |nil=>rw[hl]at e;cases e
  |cons c r=>
   rw[hl]at e hd;have:=hd c List.mem_cons_self;rw[show c=45 by simpa using e]at this;exact absurd this.1 (by decide)
 have ht:∀r:List UInt8,jN (itoa q.num++r)=decide (q.num<0)∧aL (itoa q.num++r)=decDigits q.num.natAbs++r:=fun r=>by
  by_cases hn:q.num<0
  ·rw[itoa,if_pos hn,List.cons_append,decide_eq_true hn];exact qV _
  ·rw[itoa,if_neg hn,decide_eq_false hn,show q.num.toNat=q.num.natAbs by omega];refine aBt ?_;rw[List.head?_append];cases hl:(decDigits q.num.natAbs).head? with
   |none=>rw[List.head?_eq_none_iff]at hl;have:=nH q.num.natAbs;rw[hl]at this;simp at this
   |some c=>rw[hl]at hh;simpa using hh
 have h47:=aRd (vZ q.num.natAbs);by_cases h1:q.den=1
 ·have:=ht [];rw[List.append_nil,List.append_nil]at this;rw[aQ,if_pos h1,this.1,this.2,(qT h47).1,(qT h47).2.2];exact⟨rfl,rfl,by simp[h1],fun k=>absurd h1 k⟩
 ·have:=ht (47::decDigits q.den);rw[aQ,if_neg h1,this.1,this.2,(qU _ h47).1,(qU _ h47).2.1,(qU _ h47).2.2];exact⟨rfl,rfl,by simp[h1],fun _=>rfl⟩
theorem qX(q:Rat)(h:bK q=true):dU (aQ q)=0∧fM (aQ q)=q:=by
 rw[bK,Bool.and_eq_true]at h;obtain⟨f1,f2⟩:=h;obtain⟨e1,e2,e3,e4⟩:=aEj q;have na:=pL f1;have nd:=pL f2;have hd0:=q.den_nz;have hlt:jN (aQ q)=false→(aL (aQ q)).length=(aQ q).length:=fun k=>by
  have:=kZ (aQ q);rw[if_neg (by rw[k];simp)]at this;exact(congrArg List.length this).symm
 have hneg:¬(decDigits q.num.natAbs=[48]∧(aL (aQ q)).length<(aQ q).length):=fun⟨k1,k2⟩=>by
  have h0:=aEh k1;have:=hlt (by rw[e1,decide_eq_false];omega);omega
 constructor
 ·have hc:qW (aL (aQ q))=0:=by
   unfold qW;split
   ·rename_i k;rw[e3,decide_eq_true_eq]at k;rw[e4 k];exact(lY _).2 nd
   ·rfl
  unfold dU;rw[hc,e2,e3,(lY _).2 na];by_cases h1:q.den=1
  ·rw[if_neg,if_neg,if_neg]
   ·rw[decide_eq_true_eq];exact fun k=>k.1 h1
   ·simp
   ·rintro(k|k|k)
    ·cases k
    ·cases k
    ·exact hneg k
  ·rw[e4 h1,if_neg,if_neg,if_neg]
   ·rintro⟨-,k|k|k⟩
    ·exact hd0 (aEh k)
    ·exact h1 (aBu k)
    ·refine k ?_;rw[gU,aEe na nd,lW,lW,q.reduced,wB (by decide+kernel)];decide+kernel
   ·simp
   ·rintro(k|k|k)
    ·cases k
    ·cases k
    ·exact hneg k
 ·unfold fM;rw[e1,e2,e3,lW];have hs:sgn (decide (q.num<0)) (q.num.natAbs:Int)=q.num:=by
   by_cases hn:q.num<0
   ·rw[decide_eq_true hn];simp only[sgn,if_true];omega
   ·rw[decide_eq_false hn];simp[sgn];omega
  rw[hs];by_cases h1:q.den=1
  ·rw[decide_eq_false (by simp[h1]),if_neg (by simp)];have:=Rat.num_divInt_den q;rw[h1]at this;exact this
  ·rw[decide_eq_true (by simp[h1]),if_pos rfl,e4 h1,lW];exact Rat.num_divInt_den q
def pN:List (List UInt8)→Int
 |[]=>0
 |a::l=>if dU a=0 then pN l else dU a
def yG(x y:Rat):Int:=(x.num*(y.den:Int)-y.num*(x.den:Int)).sign
theorem aWa(x y:Rat):yG x y=-1↔x<y:=by
 rw[yG,Int.sign_eq_neg_one_iff_neg,Rat.lt_iff];omega
theorem aWb(x y:Rat):yG x y=0↔x=y:=by
 rw[yG,Int.sign_eq_zero_iff_zero,Rat.eq_iff_mul_eq_mul];omega
theorem aWc(x y:Rat):yG x y=1↔y<x:=by
 rw[yG,Int.sign_eq_one_iff_pos,Rat.lt_iff];omega
theorem aHc(x y:Rat):yG x y=-1∨yG x y=0∨yG x y=1:=by
 rcases Int.sign_trichotomy (x.num*(y.den:Int)-y.num*(x.den:Int))with h|h|h
 ·exact .inr (.inr h)
 ·exact .inr (.inl h)
 ·exact .inl h
def SzQ(q:Rat)(k:Nat):Prop:=q.num.natAbs<10^k∧q.den<10^k
theorem SzQ.fit{q:Rat}{k:Nat}(h:SzQ q k)(h1:1≤k)(h2:k≤2000):bK q=true:=by rw[bK,aJp h.1 h1 h2,aJp h.2 h1 h2];rfl
theorem jB(n d:Int):(Rat.divInt n d).num.natAbs≤n.natAbs∧(Rat.divInt n d).den≤max 1 d.natAbs:=by
 rw[Rat.num_divInt,Rat.den_divInt];constructor
 ·refine Nat.le_trans (Int.natAbs_ediv_le_natAbs _ _) ?_;rw[Int.natAbs_mul];have:d.sign.natAbs≤1:=by rcases Int.sign_trichotomy d with h|h|h<;>rw[h]<;>decide
  calc d.sign.natAbs * n.natAbs ≤ 1 * n.natAbs := Nat.mul_le_mul_right _ this
   _ = n.natAbs := Nat.one_mul _
 ·split
  ·exact Nat.le_max_left _ _
  ·exact Nat.le_trans (Nat.div_le_self _ _) (Nat.le_max_right _ _)
theorem wG(x y:Rat):Rat.divInt (x.num*(y.den:Int)+y.num*(x.den:Int)) ((x.den:Int)*(y.den:Int))=x+y:=by
 rw[Rat.add_def',←Rat.divInt_ofNat,Int.natCast_mul]
theorem wH(x y:Rat):Rat.divInt (x.num*y.num) ((x.den:Int)*(y.den:Int))=x*y:=by
 rw[Rat.mul_def',←Rat.divInt_ofNat,Int.natCast_mul]
theorem aHd(x y:Rat):Rat.divInt (x.num*(y.den:Int)) ((x.den:Int)*y.num)=x/y:=by
 rw[Rat.div_def,Rat.inv_def,←Rat.divInt_mul_divInt,Rat.num_divInt_den]
end
end Go.Proofs.YtenbglfkdldheaaGreatDoor
