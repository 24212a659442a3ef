/- The sizes of the numbers of a small determinant. lin.Solve. slices.Repeat at rows of numbers, of one element; large.Zeros. lin.Inverse. -/
import Derived.Test.YtenbglfkdldheaaGreatDoorYSD
set_option maxRecDepth 100000
set_option maxHeartbeats 40000000
namespace Go.Proofs.YtenbglfkdldheaaGreatDoor
section
def zk:Nat→Nat
 |0=>14
 |k+1=>5*zk k+1
def dk:Nat→Nat
 |0=>1
 |k+1=>2*(dk k+zk k)
end
section
open Go.RowKit
theorem aAv{w:World}{ops:Array Oper}{o:Oper}{a:Act}{K:Act→World→Prop}{Q:Exit→Act→World→Prop}{E:Prop}(hgd:o.guard=none)(s x:Operand) (ho:o.op= .call {callee:= .builtin .append,args:=#[s,x],argTypes:=#[bU,bU]})(base:Nat)(v:Value)(qs:List Rat)(hsv:a.eval s=v)(hr:RRow w base v qs)
  (B:Option Addr)(m c:Nat)(hx:a.eval x= .slice B m c){rs:List Rat}(hq:RV w B m rs)(hl:qs.length+m≤1000000)(hbase:base≤w.heap.size)
  (h:∀v' w',Apd w base v (qs++rs) v' w'→K (a.put o.dst v') w'):if Region.wanted o (yielded ops a.tmps)=true then Oper.wp Tryz.prog o a w K Q else E:=by
 have hw:Region.wanted o (yielded ops a.tmps)=true:=by simp[Region.wanted,hgd]
 rw[if_pos hw];obtain⟨i,hi,hz0,hz1,hz2⟩:=info_parts kM;obtain⟨news,hs,hn⟩:=hq;obtain⟨v',w',hrun,hap⟩:=fF (P:=Tryz.prog) w base bU o.type i _ 64 Tryz.underlying111 hi hz0 hz1 hz2 rfl v qs hr w.heap.size B m c news rs hs hn (by unfold maxLen;omega) (by omega) hbase;unfold Oper.wp execOp;simp only[ho,resolve,invoke,builtin,Sem.run_bind,Sem.run_pure,Result.andThen_ok,List.map_toArray,List.map_cons,List.map_nil,hsv,hx,hrun];exact h v' w' hap
def aUn(w:World)(s:List Rat×Nat)(e:Ending)(w':World):Prop:=∃v,e= .returned (.tuple #[v,I s.2])∧RRow w' w.heap.size v s.1∧Below w.heap.size w w'
theorem aJg(m:MQ)(b:List Rat)(n wd:Nat)(A:Option Addr)(c:Nat)(Bv:Option Addr)(bc:Nat)(w:World)(hm:RM w A n m)(hv:RV w Bv n b)(hr:Rect m n wd)(hq:wdQ m=wd)(hn:n≤1000)(hw:wd≤999)(hB:Bnd (cZ m b) n): Calls Tryz.prog 110 #[.slice A n c,.slice Bv n bc] w (aUn w (tX m b wd)):=by
 have hmk:=sL n (by omega);have HP:=aH (show∃vs,LM (w.alloc (.cells (Array.replicate n (Value.slice none 0 0)) bU)) w.heap.size (.slice (some ⟨w.heap.size,0,none⟩) n n) vs (cJ (cZ m b) [] 0 n)from⟨_,by rw[nC];exact LM.start w n (by unfold maxLen;omega)⟩);have HB:=aH (aC w (.cells (Array.replicate n (Value.slice none 0 0)) bU));have HM:=aH hm;have HV:=aH hv;have HR:=aH hr;have HBN:=aH hB;have HW:=aH (aIv m n A c w hm);rw[hq]at HW;clear hm hr hq hB hv;unfold bU at hmk;go_enter Tryz.func110,Tryz.ntmps110;go_wp2_with fail;refine HW.out.mono ?_;rintro e w1 ⟨rfl,rfl⟩;clear HW;go_wp2;clear hmk;go_loopg [21] (n-0) (fun r v wr=>∃k:Nat,r=n-k∧v=I k∧k≤n∧Hid (∃vs,LM wr w1.heap.size (.slice (some ⟨w1.heap.size,0,none⟩) n n) vs (cJ (cZ m b) [] k n))∧Hid (Below w1.heap.size w1 wr));case atStart=>exact⟨0,rfl,rfl,by omega,HP,HB⟩
 case round=>
  clear HP HB;obtain⟨k,rfl,rfl,hk,HP,HB⟩:=hrel;obtain⟨wa,rfl⟩:=wE wr;by_cases hlt:k<n
  ·obtain⟨x,hx⟩:∃x,m[k]?=some x:=⟨_,gE (by rw[HR.out.1];exact hlt)⟩;obtain⟨q,hq⟩:∃q,b[k]?=some q:=⟨_,gE (by rw[HV.out.len];exact hlt)⟩;obtain⟨ba,oa,B,d,rfl,_,hc,hrx⟩:=(HM.out.below HB.out).at_ hlt x hx;obtain⟨b2,o2,nb,B1,l1,c1,B2,l2,c2,rfl,_,hC,hrt⟩:=(HV.out.below HB.out).form hlt q hq;have hxl:x.length=wd:=HR.out.2 x (List.mem_of_getElem? hx);rw[hxl]at hc hrx;have HX:=aH (show(cZ m b)[k]?=some (x++[q]) by unfold cZ;rw[List.getElem?_mapIdx,hx,Option.map_some,gD,hq];rfl);have HXL:=aH hxl;obtain⟨vs,hLM⟩:=HP.out;have hd:=aQ wa;have CR:=aH (aA hc hd);have HRX:=aH (hrx.below hd);have CB:=aH (hC.below hd);have RB:=aH (hrt.ext hd);have HL:=aH (hLM.call hd);have HB1:=aH (HB.out.trans (hd.mono HB.out.size));clear hx hq hc hrx hC hrt hxl hLM hd HP HB;go_upto_region 6 with(fail)
   refine aI (fun w'=>w'.cell? ⟨ba,oa+k,none⟩=some (.slice B wd d)∧w'.cell? ⟨b2,o2+k*4,none⟩=some (.bool nb)∧w'.cell? ⟨b2,o2+k*4+1,none⟩=some (.slice B1 l1 c1)∧w'.cell? ⟨b2,o2+k*4+2,none⟩=some (.bool false)∧w'.cell? ⟨b2,o2+k*4+3,none⟩=some (.slice B2 l2 c2)) 14 (by kernel_rfl) ?_;generalize wa.drew=W1 at*;refine tkS ⟨CR.out,CB.out.c0,CB.out.c1,CB.out.c2,CB.out.c3⟩ fun hSS=>?_;refine aZ 0 (.slice (some ⟨w1.heap.size,0,none⟩) n n) rfl hSS ?_;refine aZ 1 (I k) rfl hSS ?_;refine aZ 2 (.slice (some ⟨ba,oa,none⟩) n c) rfl hSS ?_;refine aZ 3 (I k) rfl hSS ?_;refine aZ 4 (.pointer (some ⟨ba,oa+k,none⟩)) rfl hSS ?_;refine aZ 5 (.slice B wd d) rfl hSS ?_;refine aZ 7 (.slice (some ⟨b2,o2,none⟩) n bc) rfl hSS ?_;refine aZ 8 (I k) rfl hSS ?_;refine aZ 9 (.pointer (some ⟨b2,o2+k*4,none⟩)) rfl hSS ?_;refine aZ 10 (.agg #[.bool nb,.slice B1 l1 c1,.bool false,.slice B2 l2 c2]) rfl hSS ?_;have HBW:=aH (Below.refl W1.heap.size W1);refine aGl (i:=6) (j:=11) (by kernel_rfl) rfl rfl (fun K hK=>?_) (fun K hK=>?_)
   ·skip;refine aAv (by rfl) _ _ (by rfl) W1.heap.size (.slice none 0 0) [] (by kernel_rfl) (RRow.nil _ _) B wd d (by kernel_rfl) (HRX.out.below HBW.out) (by rw[List.length_nil];omega) lR ?_;intro v3 W3 hap;have hb:=hap.below (RRow.nil W1 W1.heap.size) lR;have HR3:=aH (hap.row.less HBW.out.size);rw[List.nil_append]at HR3;replace HBW:=bT HBW hb;clear hap hb;have CR2:=aA CR.out HBW.out;have CB2:=CB.out.below HBW.out;refine hK.out _ _ (fun _=>⟨CR2,CB2.c0,CB2.c1,CB2.c2,CB2.c3⟩) ?_;clear hK K CR2 CB2;refine on1 11 fun K hK=>?_;go_simp;have hz:=aC W3 (.cells #[.bool nb,.slice B1 l1 c1,.bool false,.slice B2 l2 c2] 122);have HX4:=aH (Blk.new W3 122 #[.bool nb,.slice B1 l1 c1,.bool false,.slice B2 l2 c2]);replace HR3:=aH (HR3.out.call hz);replace HBW:=bT HBW hz;clear hz;have CR2:=aA CR.out HBW.out;have CB2:=CB.out.below HBW.out;refine hK.out _ _ (fun _=>⟨CR2,CB2.c0,CB2.c1,CB2.c2,CB2.c3⟩) ?_;clear hK K CR2 CB2;generalize W3.heap.size=gx at*;generalize W3.alloc (.cells #[.bool nb,.slice B1 l1 c1,.bool false,.slice B2 l2 c2] 122)=W4 at*;refine on1 12 fun K hK=>?_;refine kA (by rfl) _ _ (by rfl) W1.heap.size v3 x (by kernel_rfl) HR3.out gx (by kernel_rfl) HX4.out (RB.out.ext HBW.out) (by rw[HXL.out];omega) HBW.out.size ?_;intro v5 W5 hap;have hb:=hap.below HR3.out HBW.out.size;have HR5:=aH hap.row;replace HBW:=aH (HBW.out.trans hb);clear hap hb HR3 HX4;have CR2:=aA CR.out HBW.out;have CB2:=CB.out.below HBW.out;refine hK.out _ _ (fun _=>⟨CR2,CB2.c0,CB2.c1,CB2.c2,CB2.c3⟩) ?_;clear hK K CR2 CB2;refine on1 13 fun K hK=>?_;go_simp;have CR2:=aA CR.out HBW.out;have CB2:=CB.out.below HBW.out;refine hK.out _ _ (fun _=>⟨CR2,CB2.c0,CB2.c1,CB2.c2,CB2.c3⟩) ?_;clear hK K CR2 CB2;have h1:=HL.out.call HBW.out;have hap2:=HL.out.newer (u:=v5) (fun g hg=>(HR5.out.lt hg).1);have hfl:(cJ (cZ m b) [] k n).length=n:=mB _ (by rw[jF,HR.out.1]) hk;obtain⟨g,o9,cap,B9,c9,e9,hg1,hg2,-,hcell,hfz,-⟩:=h1.at_ (i:=k) (by omega);obtain⟨rfl,rfl⟩:=nB e9;clear e9;have h2:=h1.put (i:=k) hfl hlt (HR5.out.less HB1.out.size) (fun j u' g' _=>hap2 j u' g');rw[mC _ (by rw[jF,HR.out.1]) hlt HX.out,Nat.zero_add]at h2;rw[Nat.zero_add]at hcell hfz;have HN:=aH (show∃vs,LM (W5.setCell ⟨w1.heap.size,k,none⟩ v5) w1.heap.size (.slice (some ⟨w1.heap.size,0,none⟩) n n) vs (cJ (cZ m b) [] (k+1) n)from⟨_,h2.1⟩);have HB5:=aH ((HB1.out.trans (HBW.out.mono HB1.out.size)).setCell (p:=⟨w1.heap.size,k,none⟩) lR v5);obtain⟨A5,c5,rfl⟩:=HR5.out.val;generalize(x++[q]).length=l5 at*;generalize((cJ (cZ m b) [] k n).getD k []).length=ln at*;clear h1 h2 hap2 hfl hg1 hg2 HR5 HL HB1 HBW HRX CR CB RB HX HXL;refine on1 14 fun K hK=>?_;go_simp;refine hK.out _ _ (fun h=>absurd h (by decide)) ?_;clear hK K hcell hfz;refine aD (by kernel_rfl) ?_ _;go_wp2;go_roundg (n-(k+1));case measure=>omega
    case rel=>exact⟨k+1,rfl,by go_num,by omega,HN,HB5⟩
   ·skip;go_simp;have hz:=aC W1 (.cells #[.bool nb,.slice B1 l1 c1,.bool false,.slice B2 l2 c2] 122);have HX4:=aH (Blk.new W1 122 #[.bool nb,.slice B1 l1 c1,.bool false,.slice B2 l2 c2]);replace HBW:=bT HBW hz;clear hz;have CR2:=aA CR.out HBW.out;have CB2:=CB.out.below HBW.out;refine hK.out _ _ (fun _=>⟨CR2,CB2.c0,CB2.c1,CB2.c2,CB2.c3⟩) ?_;clear hK K CR2 CB2;have hgx:W1.heap.size≤W1.heap.size:=Nat.le_refl _;generalize hgxe:W1.heap.size=gx at hgx HX4;generalize W1.alloc (.cells #[.bool nb,.slice B1 l1 c1,.bool false,.slice B2 l2 c2] 122)=W3 at*;refine on1 6 fun K hK=>?_;refine aAv (by rfl) _ _ (by rfl) W3.heap.size (.slice none 0 0) [] (by kernel_rfl) (RRow.nil _ _) B wd d (by kernel_rfl) (HRX.out.below HBW.out) (by rw[List.length_nil];omega) lR ?_;intro v3 W4 hap;have hb:=hap.below (RRow.nil W3 W3.heap.size) lR;have HR3:=aH (hap.row.less HBW.out.size);rw[List.nil_append]at HR3;replace HX4:=bL HX4 hb;replace HBW:=bT HBW hb;clear hap hb;have CR2:=aA CR.out HBW.out;have CB2:=CB.out.below HBW.out;refine hK.out _ _ (fun _=>⟨CR2,CB2.c0,CB2.c1,CB2.c2,CB2.c3⟩) ?_;clear hK K CR2 CB2;refine on1 12 fun K hK=>?_;refine kA (by rfl) _ _ (by rfl) W1.heap.size v3 x (by kernel_rfl) HR3.out gx (by kernel_rfl) HX4.out (RB.out.ext HBW.out) (by rw[HXL.out];omega) HBW.out.size ?_;intro v5 W5 hap;have hb:=hap.below HR3.out HBW.out.size;have HR5:=aH hap.row;replace HBW:=aH (HBW.out.trans hb);clear hap hb HR3 HX4;have CR2:=aA CR.out HBW.out;have CB2:=CB.out.below HBW.out;refine hK.out _ _ (fun _=>⟨CR2,CB2.c0,CB2.c1,CB2.c2,CB2.c3⟩) ?_;clear hK K CR2 CB2;refine on1 13 fun K hK=>?_;go_simp;have CR2:=aA CR.out HBW.out;have CB2:=CB.out.below HBW.out;refine hK.out _ _ (fun _=>⟨CR2,CB2.c0,CB2.c1,CB2.c2,CB2.c3⟩) ?_;clear hK K CR2 CB2;have h1:=HL.out.call HBW.out;have hap2:=HL.out.newer (u:=v5) (fun g hg=>(HR5.out.lt hg).1);have hfl:(cJ (cZ m b) [] k n).length=n:=mB _ (by rw[jF,HR.out.1]) hk;obtain⟨g,o9,cap,B9,c9,e9,hg1,hg2,-,hcell,hfz,-⟩:=h1.at_ (i:=k) (by omega);obtain⟨rfl,rfl⟩:=nB e9;clear e9;have h2:=h1.put (i:=k) hfl hlt (HR5.out.less HB1.out.size) (fun j u' g' _=>hap2 j u' g');rw[mC _ (by rw[jF,HR.out.1]) hlt HX.out,Nat.zero_add]at h2;rw[Nat.zero_add]at hcell hfz;have HN:=aH (show∃vs,LM (W5.setCell ⟨w1.heap.size,k,none⟩ v5) w1.heap.size (.slice (some ⟨w1.heap.size,0,none⟩) n n) vs (cJ (cZ m b) [] (k+1) n)from⟨_,h2.1⟩);have HB5:=aH ((HB1.out.trans (HBW.out.mono HB1.out.size)).setCell (p:=⟨w1.heap.size,k,none⟩) lR v5);obtain⟨A5,c5,rfl⟩:=HR5.out.val;generalize(x++[q]).length=l5 at*;generalize((cJ (cZ m b) [] k n).getD k []).length=ln at*;clear h1 h2 hap2 hfl hg1 hg2 HR5 HL HB1 HBW HRX CR CB RB HX HXL;refine on1 14 fun K hK=>?_;go_simp;refine hK.out _ _ (fun h=>absurd h (by decide)) ?_;clear hK K hcell hfz;refine aD (by kernel_rfl) ?_ _;go_wp2;go_roundg (n-(k+1));case measure=>omega
    case rel=>exact⟨k+1,rfl,by go_num,by omega,HN,HB5⟩
  ·have hkn:k=n:=by omega
   subst hkn;obtain⟨vs0,hLM⟩:=HP.out;rw[pS _ (by rw[jF,HR.out.1])]at hLM;have HC:=aH (yG (cZ m b) k (wd+1) wd _ k wa hLM.rm (jZ HR.out b) (by omega) hn (by omega) HBN.out);have HQ:=aH (dU (jZ HR.out b) wd);clear HP hLM HM HV HBN;go_wp2_with fail;have hLB:=HB.out.size;refine HC.out.mono ?_;rintro e w2 ⟨v,vs,u,rfl,hLM,hN,hb⟩;clear HC;have hLM:=hLM.less hLB;replace HB:=bT HB hb;obtain⟨Au,cu,rfl⟩:=hN.val;obtain⟨A1,c1,rfl⟩:=hLM.val;clear hb hN hLB;rw[sP];have HE:=aH (show tX m b wd=if nzAt wd ((aX (cZ m b) wd).1.drop (aX (cZ m b) wd).2.length) (aX (cZ m b) wd).2.length<(aX (cZ m b) wd).1.length then([],0)else if(aX (cZ m b) wd).2.length<wd then([],2)else(((aX (cZ m b) wd).1.take wd).map (fun r=>r.getD wd 0),1)from rfl);have HRX:=aH HQ.out.rect;have hrn:=HQ.out.few;clear HQ;generalize(aX (cZ m b) wd).1=X at*;generalize(aX (cZ m b) wd).2.length=r at*;rw[HRX.out.1]at hLM⊢;have HL:=aH hLM;clear hLM;have HB2:=aH (Below.refl w2.heap.size w2);have hmk2:=sK wd (by omega);unfold bU at hmk2;go_wp2;go_loopg [11] (k-r) (fun mm v wr=>∃i:Nat,mm=k-i∧v=I i∧r≤i∧i≤k∧Hid (nzAt wd (X.drop r) r=nzAt wd (X.drop i) i)∧Hid (Below w2.heap.size w2 wr));case atStart=>exact⟨r,rfl,rfl,by omega,hrn,rfl,HB2⟩
   case round=>
    clear HB2;obtain⟨i,rfl,rfl,hri,hin,HZN,HB2⟩:=hrel;obtain⟨wb,rfl⟩:=wE wr;by_cases hlt:i<k
    ·obtain⟨g,off,cap0,B0,cc0,e0,-⟩:=HL.out.at_ (i:=i) (by rw[HRX.out.1];exact hlt);injection e0 with e1 e2 e3;subst e1 e3;clear e2;obtain⟨b9,o9,c9,nb,B1,l1,c2,B2,l2,c3,hu,hc,hE,hrt,hgl,hbl⟩:=(HL.out.call HB2.out).el HRX.out hlt (Nat.lt_succ_self wd);have HC:=aH (iT _ _ wb hrt);have e0:=hE.c0;have e1:=hE.c1;have e2:=hE.c2;have e3:=hE.c3;have HST:=aH (aAt (k:=wd) (p:=i) (A:=X) (by rw[HRX.out.1];exact hlt));clear hu hE hrt hgl hbl;by_cases hz:at2 X i wd=0
     ·have tz:((at2 X i wd).num.sign !=0)=false:=by rw[dQ.2 hz];rfl
      have HZN2:=aH (show nzAt wd (X.drop r) r=nzAt wd (X.drop (i+1)) (i+1) by rw[HZN.out,HST.out,if_pos hz]);clear hz HST HZN;go_wp2_with fail;refine HC.out.mono ?_;rintro e w5 ⟨rfl,hb⟩;clear HC hc e0 e1 e2 e3;replace HB2:=bT HB2 hb;clear hb;go_wp2;go_roundg (k-(i+1));case measure=>omega
      case rel=>exact⟨i+1,rfl,by go_num,by omega,by omega,HZN2,HB2⟩
     ·have tz:((at2 X i wd).num.sign !=0)=true:=bne_iff_ne.2 fun e=>hz (dQ.1 e);have HE2:=aH (show tX m b wd=([],0) by rw[HE.out,HZN.out,HST.out,if_neg hz,HRX.out.1,if_pos hlt]);clear hz HST HZN HE;go_wp2_with fail;refine HC.out.mono ?_;rintro e w5 ⟨rfl,hb⟩;clear HC hc e0 e1 e2 e3;replace HB2:=bT HB2 hb;replace HB:=aH (HB.out.trans (HB2.out.mono HB.out.size));clear hb HB2;go_wp2;go_ret2;rw[HE2.out];exact⟨_,rfl,RRow.nil _ _,HB.out⟩
    ·have hki:k=i:=by omega
     subst hki;have HZ:=aH (show¬nzAt wd (X.drop r) r<X.length by rw[HZN.out];have h:=HRX.out.1;rw[←h,aGi];omega);clear HZN;by_cases hrw:r<wd
     ·have HE2:=aH (show tX m b wd=([],2) by rw[HE.out,if_neg HZ.out,if_pos hrw]);replace HB:=aH (HB.out.trans (HB2.out.mono HB.out.size));clear HE HZ HB2 hmk2;go_wp2;go_ret2;rw[HE2.out];exact⟨_,rfl,RRow.nil _ _,HB.out⟩
     ·have HE2:=aH (show tX m b wd=((X.take wd).map (fun r=>r.getD wd 0),1) by rw[HE.out,if_neg HZ.out,if_neg hrw]);replace HL:=aH (HL.out.call HB2.out);replace HB:=aH (HB.out.trans (HB2.out.mono HB.out.size));have HBS:=HB.out.size;have HP:=aH (Part.start wb wd);clear HE HZ HB2;go_wp2;clear hmk2;go_loopg [70] (wd-0) (fun mm v wr=>∃j:Nat,mm=wd-j∧v=I j∧j≤wd∧Hid (Part wb wb.heap.size wd ((X.take j).map (fun r=>r.getD wd 0)) wr));case atStart=>exact⟨0,rfl,rfl,by omega,HP⟩
      case round=>
       clear HP;obtain⟨j,rfl,rfl,hj,HP⟩:=hrel;obtain⟨wc,rfl⟩:=wE wr;by_cases hlt:j<wd
       ·obtain⟨g,off,cap0,B0,cc0,e0,-⟩:=HL.out.at_ (i:=j) (by rw[HRX.out.1];omega);injection e0 with e1 e2 e3;subst e1 e3;clear e2;have hjk:j<k:=by omega
        obtain⟨b9,o9,c9,nb,B1,l1,c2,B2,l2,c3,hu,hc,hE,hrt,hgl,hbl⟩:=(HL.out.call HP.out.below).el HRX.out hjk (Nat.lt_succ_self wd);have e0:=hE.c0;have e1:=hE.c1;have e2:=hE.c2;have e3:=hE.c3;have hlen:((X.take j).map (fun r=>r.getD wd 0)).length=j:=by rw[List.length_map,List.length_take,HRX.out.1];omega
        have HXN:=aH (show(X.take (j+1)).map (fun r=>r.getD wd 0)=(X.take j).map (fun r=>r.getD wd 0)++[at2 X j wd] by
         rw[List.take_add_one,List.map_append];unfold at2;rw[gD (l:=X),gE (show j<X.length by rw[HRX.out.1];omega)];rfl)
        have hp1:=HP.out;obtain⟨o0,o1,o2,o3,hC⟩:=hp1.cells hlt;have hc0:=hC.c0;have hc1:=hC.c1;have hc2:=hC.c2;have hc3:=hC.c3;have f0:=hp1.frozen (j*4);have f1:=hp1.frozen (j*4+1);have f2:=hp1.frozen (j*4+2);have f3:=hp1.frozen (j*4+3);have HN:=aH (hp1.put (by omega) lR hrt);rw[hlen,←HXN.out]at HN;unfold put4 at HN;clear hC hp1 HP hu hE hrt hgl hbl hlen HXN;go_wp2;go_roundg (wd-(j+1));case measure=>omega
        case rel=>exact⟨j+1,rfl,by go_num,by omega,HN⟩
       ·have hjw:j=wd:=by omega
        subst hjw;have HF:=aH (HP.out.row (by rw[List.length_map,List.length_take,HRX.out.1];omega) lR (by unfold maxLen;omega));replace HB:=aH (HB.out.trans (HP.out.below.mono HB.out.size));have HFL:=aH (HF.out.less (show w1.heap.size≤wb.heap.size from HBS));clear HP HF;go_wp2;go_ret2;rw[HE2.out];exact⟨_,rfl,HFL.out,HB.out⟩
theorem oW{P:Program}(w:World)(dT sT ty elem:TypeId)(g o dLen dCap:Nat)(a:Addr)(sLen sCap:Nat)(cur:Array Value)(t:TypeId)(cs:List Value)(sz n:Nat) (hu:P.underlying dT=some (.slice elem))(hs:(P.info? elem).map (·.size)=some sz)
  (hg:w.heap[g]?=some (.cells cur t (0,0)))(hn:n=Nat.min sLen dLen)(hcs:cs.length=n*sz)
  (hsrc:∀j v,cs[j]?=some v→w.cell? (a.add j)=some v)(hfit:o+cs.length≤cur.size)(h1:∀v∈cs,v.oneCell'=true):
  (Builtin.copy_ #[dT,sT] ty #[.slice (some ⟨g,o,none⟩) dLen dCap,.slice (some a) sLen sCap]).run P w= .ok (goInt n) (w.setRow g (cur.toList.take o++cs++cur.toList.drop (o+cs.length)).toArray):=by
 have hl:=run_loadCells_list (P:=P) w a cs hsrc;have hst:=run_storeCells_at P g o t cs 0 cur w hg (by simpa using hfit) h1;cases hq:P.info? elem with
 |none=>simp[hq]at hs
 |some i=>
  have hi:i.size=sz:=by simpa[hq]using hs
  subst hi;rw[hcs]at hl;simp[Builtin.copy_,run_underlying hu,Builtin.lenOf,Builtin.firstCells,sizeOf,typeInfo,hq,←hn,hl,hst]
theorem tY{P:Program}(w:World)(dT sT ty elem:TypeId)(d a:Option Addr)(dLen dCap sLen sCap sz:Nat)(hu:P.underlying dT=some (.slice elem))(hs:(P.info? elem).map (·.size)=some sz)(hn:Nat.min sLen dLen=0): (Builtin.copy_ #[dT,sT] ty #[.slice d dLen dCap,.slice a sLen sCap]).run P w= .ok (goInt 0) w:=by
 cases hq:P.info? elem with
 |none=>simp[hq]at hs
 |some i=>
  have hl:∀(x:Addr),(loadCells x 0).run P w= .ok #[] w:=fun x=>by simpa using run_loadCells_list (P:=P) w x [] (by simp)
  cases d<;>cases a<;>simp[Builtin.copy_,run_underlying hu,Builtin.lenOf,Builtin.firstCells,sizeOf,typeInfo,hq,hn,storeCells,hl]
def Cpy(w':World)(g:Nat)(t:TypeId)(cur:List Value)(off:Nat)(cs:List Value):Prop:=w'.heap[g]?=some (.cells (splice cur off cs).toArray t (0,0))
theorem sQ{P:Program}(w:World)(dT sT ty elem:TypeId)(hu:P.underlying dT=some (.slice elem))(sz:Nat)(hsz:(P.info? elem).map (·.size)=some sz)(hs0:0<sz) (dp sp:Option Addr)(dLen dCap sLen sCap:Nat)(g off:Nat)(cur:List Value)(t:TypeId)(hg:w.heap[g]?=some (.cells cur.toArray t (0,0)))(cs:List Value)(n:Nat)(hn:n=Nat.min sLen dLen)(hcs:cs.length=n*sz)
  (hpos:0<cs.length→dp=some ⟨g,off,none⟩∧∃ad,sp=some ad∧∀j v,cs[j]?=some v→w.cell? (ad.add j)=some v)
  (hfit:off+cs.length≤cur.length)(h1:∀v∈cs,v.oneCell'=true)(B:Nat)(w0:World)(hb:Below B w0 w)(hBg:B≤g):
  ∃w',(Builtin.copy_ #[dT,sT] ty #[.slice dp dLen dCap,.slice sp sLen sCap]).run P w= .ok (goInt n) w'∧Cpy w' g t cur off cs∧Below B w0 w':=by
 by_cases h0:cs.length=0
 ·obtain rfl:cs=[]:=List.eq_nil_of_length_eq_zero h0;have hn0:n=0:=by
   rcases Nat.eq_zero_or_pos n with h|h
   ·exact h
   ·have:=Nat.mul_pos h hs0;simp at hcs;omega
  subst hn0;exact⟨w,tY (P:=P) w dT sT ty elem dp sp dLen dCap sLen sCap sz hu hsz hn.symm,show _=_ by simpa[splice]using hg,hb⟩
 ·obtain⟨rfl,ad,rfl,hsrc⟩:=hpos (by omega);have hrun:=oW (P:=P) w dT sT ty elem g off dLen dCap ad sLen sCap cur.toArray t cs sz n hu hsz hg hn hcs hsrc (by simpa using hfit) h1;exact⟨_,hrun,show _=_ by simpa[splice]using setRow_heap w g _ _ t _ hg,below_setRow hb hBg _⟩
theorem sR:(Tryz.prog.info? aM).map (·.size)=some 4:=by kernel_rfl
theorem aDc{w:World}{ops:Array Oper}{rest:List Oper}{o:Oper}{a:Act}{Q:Exit→Act→World→Prop}(hgd:o.guard=none)(d s:Operand) (ho:o.op= .call {callee:= .builtin .copy,args:=#[d,s],argTypes:=#[bU,bU]})
  (dp sp:Option Addr)(dLen dCap sLen sCap:Nat)(hd:a.eval d= .slice dp dLen dCap)(hs:a.eval s= .slice sp sLen sCap)
  (g off:Nat)(cur:List Value)(hg:w.heap[g]?=some (.cells cur.toArray aM (0,0)))(cs:List Value)(n:Nat)(hn:n=Nat.min sLen dLen)(hcs:cs.length=n*4)
  (hpos:0<cs.length→dp=some ⟨g,off,none⟩∧∃ad,sp=some ad∧∀j v,cs[j]?=some v→w.cell? (ad.add j)=some v)
  (hfit:off+cs.length≤cur.length)(h1:∀v∈cs,v.oneCell'=true)(B:Nat)(w0:World)(hb:Below B w0 w)(hBg:B≤g)
  (h:∀w',Hid (Cpy w' g aM cur off cs)→Below B w0 w'→wpList Tryz.prog ops Q rest (a.put o.dst (goInt n)) w'):wpList Tryz.prog ops Q (o::rest) a w:=by
 refine wpList_plain hgd fun K hK=>?_;obtain⟨w',hrun,h2,h3⟩:=sQ (P:=Tryz.prog) w bU bU o.type aM Tryz.underlying111 4 sR (by omega) dp sp dLen dCap sLen sCap g off cur aM hg cs n hn hcs hpos hfit h1 B w0 hb hBg;unfold Oper.wp;simp only[execOp,ho,resolve,invoke,builtin,Sem.run_bind,Sem.run_pure,Result.andThen_ok,List.map_toArray,List.map_cons,List.map_nil,hd,hs,hrun];exact hK _ _ (h w' h2 h3)
theorem aJh{w:World}{ops:Array Oper}{o:Oper}{a:Act}{K:Act→World→Prop}{Q:Exit→Act→World→Prop}{E:Prop}(hgd:o.guard=none)(d s:Operand) (ho:o.op= .call {callee:= .builtin .copy,args:=#[d,s],argTypes:=#[bU,bU]})
  (dp sp:Option Addr)(dLen dCap sLen sCap:Nat)(hd:a.eval d= .slice dp dLen dCap)(hs:a.eval s= .slice sp sLen sCap)
  (g off:Nat)(cur:List Value)(hg:w.heap[g]?=some (.cells cur.toArray aM (0,0)))(cs:List Value)(n:Nat)(hn:n=Nat.min sLen dLen)(hcs:cs.length=n*4)
  (hpos:0<cs.length→dp=some ⟨g,off,none⟩∧∃ad,sp=some ad∧∀j v,cs[j]?=some v→w.cell? (ad.add j)=some v)
  (hfit:off+cs.length≤cur.length)(h1:∀v∈cs,v.oneCell'=true)(B:Nat)(w0:World)(hb:Below B w0 w)(hBg:B≤g)
  (h:∀w',Hid (Cpy w' g aM cur off cs)→Below B w0 w'→K (a.put o.dst (goInt n)) w'):if Region.wanted o (yielded ops a.tmps)=true then Oper.wp Tryz.prog o a w K Q else E:=by
 have hw:Region.wanted o (yielded ops a.tmps)=true:=by simp[Region.wanted,hgd]
 rw[if_pos hw];obtain⟨w',hrun,h2,h3⟩:=sQ (P:=Tryz.prog) w bU bU o.type aM Tryz.underlying111 4 sR (by omega) dp sp dLen dCap sLen sCap g off cur aM hg cs n hn hcs hpos hfit h1 B w0 hb hBg;unfold Oper.wp;simp only[execOp,ho,resolve,invoke,builtin,Sem.run_bind,Sem.run_pure,Result.andThen_ok,List.map_toArray,List.map_cons,List.map_nil,hd,hs,hrun];exact h w' h2 h3
def kP(x0 x1 x2 x3:Value):Nat→List Value
 |0=>[]
 |k+1=>x0::x1::x2::x3::kP x0 x1 x2 x3 k
section
variable {x0 x1 x2 x3:Value}
theorem gG:∀k,(kP x0 x1 x2 x3 k).length=k*4
 |0=>rfl
 |k+1=>by simp only[kP,List.length_cons,gG k];omega
theorem yH(j:Nat):∀k,kP x0 x1 x2 x3 k++kP x0 x1 x2 x3 j=kP x0 x1 x2 x3 (k+j)
 |0=>by rw[Nat.zero_add];rfl
 |k+1=>by rw[show k+1+j=(k+j)+1 by omega];simp only[kP,List.cons_append,yH j k]
theorem vW{w:World}{q:Rat}(h:Rt w (.agg #[x0,x1,x2,x3]) q):∀k,RtL w (kP x0 x1 x2 x3 k) (List.replicate k q)
 |0=>rfl
 |k+1=> .mk h (vW h k)
structure RepI(w:World)(g:Nat)(x0 x1 x2 x3:Value)(n m:Nat)(wr:World):Prop where
 le:m≤n
 pos:1≤m∨n=0
 row:∃L:List Value,wr.heap[g]?=some (.cells L.toArray aM (0,0))∧L.length=n*4∧L.take (m*4)=kP x0 x1 x2 x3 m
 below:Below g w wr
theorem aGm{w wr:World}{g n m k:Nat}{L:List Value}(hl:L.length=n*4)(ht:L.take (m*4)=kP x0 x1 x2 x3 m)(hk:m+k≤n)(hp:1≤m+k∨n=0) (hc:Cpy wr g aM L (m*4) (kP x0 x1 x2 x3 k))(hb:Below g w wr):RepI w g x0 x1 x2 x3 n (m+k) wr:=by
 have hr:=gG (x0:=x0) (x1:=x1) (x2:=x2) (x3:=x3) k;refine⟨hk,hp,⟨_,hc,?_,?_⟩,hb⟩
 ·rw[length_splice _ _ _ (by omega),hl]
 ·unfold splice;rw[ht,←List.append_assoc,yH,List.take_append_of_le_length (by rw[gG];omega),List.take_of_length_le (by rw[gG];omega)]
theorem aXz{w:World}{b off:Nat}{o:Obj}(n:Nat)(hb:b<w.heap.size)(hc:C4 w b off x0 x1 x2 x3): ∀j v,(kP x0 x1 x2 x3 (min 1 n))[j]?=some v→(w.alloc o).cell? ((⟨b,off,none⟩:Addr).add j)=some v:=by
 intro j v hv;rw[Addr.add_lit,World.cell?_alloc_lt _ _ _ hb];rcases Nat.eq_zero_or_pos n with h0|h0
 ·subst h0;simp[kP]at hv
 ·rw[show min 1 n=1 by omega]at hv;match j with
  |0=>exact hc.c0.trans hv
  |1=>exact hc.c1.trans hv
  |2=>exact hc.c2.trans hv
  |3=>exact hc.c3.trans hv
  |j+4=>simp[kP]at hv
theorem aYa{w:World}{g m k:Nat}{L:List Value}(hg:w.heap[g]?=some (.cells L.toArray aM (0,0)))(ht:L.take (m*4)=kP x0 x1 x2 x3 m)(hk:k≤m): ∀j v,(kP x0 x1 x2 x3 k)[j]?=some v→w.cell? ((⟨g,0,none⟩:Addr).add j)=some v:=by
 intro j v hv;have hj:j<k*4:=by
  have:=(List.getElem?_eq_some_iff.1 hv).1;rwa [gG]at this
 rw[Addr.add_lit,Nat.zero_add,cell_of_row w g j _ _ _ hg,List.getElem?_toArray];have e:L[j]?=(kP x0 x1 x2 x3 m)[j]?:=by rw[←ht,List.getElem?_take,if_pos (by omega)]
 rw[e,show m=k+(m-k) by omega,←yH,List.getElem?_append_left (by rw[gG];omega)];exact hv
end
theorem RepI.done{w wr:World}{g n:Nat}{x0 x1 x2 x3:Value}{q:Rat}(h:RepI w g x0 x1 x2 x3 n n wr)(hq:Rt wr (.agg #[x0,x1,x2,x3]) q)(hg:w.heap.size=g)(hn:n≤1099511627776):RRow wr w.heap.size (.slice (some ⟨g,0,none⟩) n n) (List.replicate n q):=by
 obtain⟨L,h1,h2,h3⟩:=h.row;rw[List.take_of_length_le (by omega)]at h3;subst h3;have hw:∀u∈kP x0 x1 x2 x3 n,noWord u:=fun u hu=>by
  obtain⟨n0,n1,n2,n3⟩:=hq.noW;exact(vW hq n).noWord u hu|>.1
 have hb:=h.below;rw[←hg]at hb;exact Part.row (g:=g) ⟨⟨_,h1,h2,hw,by rw[List.length_replicate,List.take_of_length_le (by omega)];exact vW hq n⟩,by simp,hb⟩ (by simp) (by omega) (by unfold maxLen;omega)
theorem aGn(x0 x1 x2 x3:Value)(q:Rat)(n:Nat)(b off c:Nat)(w:World)(hb:b<w.heap.size)(hc:C4 w b off x0 x1 x2 x3)(hq:Rt w (.agg #[x0,x1,x2,x3]) q)(hn:n≤1000000): Calls Tryz.prog 157 #[.slice (some ⟨b,off,none⟩) 1 c,I n] w (oS w (List.replicate n q)):=by
 have hmk:=sK n (by omega);have hnn:(n:Int)≤1099511627776:=by omega
 have HQ:=aH hq;have HG:=aH (heap_alloc_new w (.cells (madeCells mZ (n*4)) aM));obtain⟨Z,hZ⟩:∃Z:List Value,(madeCells mZ (n*4))=Z.toArray:=⟨(madeCells mZ (n*4)).toList,by simp⟩;have HZ:=aH (show Z.length=n*4 by have h:(madeCells mZ (n*4)).size=n*4:=(by simp[size_madeCells]);rw[hZ]at h;simpa using h);rw[hZ]at HG hmk;have HF:=aH (show 0*4+(kP x0 x1 x2 x3 (min 1 n)).length≤Z.length by rw[gG,HZ.out];omega);have HONE:=aH (show∀k,∀v∈kP x0 x1 x2 x3 k,v.oneCell'=true from fun k v hv=>((vW hq k).noWord v hv).2);have HSRC:=aH (aXz (x0:=x0) (x1:=x1) (x2:=x2) (x3:=x3) (o:= .cells Z.toArray aM) n hb hc);clear hZ hc hq;unfold aM bU at*;go_enter Tryz.func157,Tryz.ntmps157;go_wp2_with(first|(go_at_call 164;refine(aGp _ _ _ (by rfl) (by omega) (by omega)).mono ?_;rintro e w' ⟨rfl,rfl⟩)|(refine aDc rfl (.tmp 31) (.tmp 32) rfl (some ⟨w.heap.size,0,none⟩) (some ⟨b,off,none⟩) n n 1 c (by rfl) (by rfl) w.heap.size (0*4) Z HG.out (kP x0 x1 x2 x3 (min 1 n)) (min 1 n) (by rfl) (gG _) (fun _=>⟨rfl,_,rfl,HSRC.out⟩) HF.out (HONE.out _) w.heap.size w ((Below.refl _ _).alloc lR _) lR ?_;intro w1 hg1 hb1));have HI:RepI w w.heap.size x0 x1 x2 x3 n (0+min 1 n) w1:=aGm HZ.out (by rfl) (by omega) (by omega) hg1.out hb1;rw[Nat.zero_add]at HI;clear hg1 hb1 HG HF HSRC HZ hmk;go_loopw [8] (fun v wr=>∃m:Nat,v=I m∧RepI w w.heap.size x0 x1 x2 x3 n m wr) (fun v _=>n-(intOf v).toNat);case atStart=>exact⟨_,by go_num,HI⟩
 case round=>
  obtain⟨m,rfl,hI⟩:=hrel;have HI2:=aH hI;have h1:=hI.le;have h2:=hI.pos;clear hI;by_cases hlt:m<n
  ·have hm1:(1:Int)≤m:=by omega
   have hmn:(m:Int)<n:=by omega
   have hne:¬n=m:=by omega
   have hlo:(0:Int)≤(m:Int):=by omega
   obtain⟨L,hL1,hL2,hL3⟩:=HI2.out.row;have H1:=aH hL1;have H2:=aH hL2;have H3:=aH hL3;have H4:=aH HI2.out.below;have HF:=aH (show m*4+(kP x0 x1 x2 x3 (min m (n-m))).length≤L.length by rw[gG,H2.out];omega);clear hL1 hL2 hL3;go_wp2;go_region_law ((refine aJh rfl (.tmp 41) (.tmp 44) rfl (some ⟨w.heap.size,m*4,none⟩) (some ⟨w.heap.size,0,none⟩) (n-m) (n-m) m n (by kernel_rfl) (by kernel_rfl) w.heap.size (m*4) L H1.out (kP x0 x1 x2 x3 (min m (n-m))) (min m (n-m)) (by rfl) (gG _) (fun _=>⟨rfl,_,rfl,aYa H1.out H3.out (by omega)⟩) HF.out (HONE.out _) w.heap.size w H4.out.drew lR ?_;intro w2 hg2 hb2));have HN:RepI w w.heap.size x0 x1 x2 x3 n (m+min m (n-m)) w2:=aGm H2.out H3.out (by omega) (by omega) hg2.out hb2;clear hg2 hb2 HI HI2 H1 H2 H3 H4 HF;have hk1:(min m (n-m):Nat)≤n:=by omega
   have hk2:1≤(min m (n-m):Nat):=by omega
   generalize min m (n-m)=k at*;have hw1:IntKind.i64.wrap ((m:Int)+(k:Int))=(m:Int)+k:=IntWalk.i64_in _ (by omega);simp only[Act.put,hw1,List.getElem_toArray,List.getElem_cons_succ,List.getElem_cons_zero,List.setIfInBounds_toArray,List.set_cons_succ,List.set_cons_zero];clear hw1;go_wp2;go_roundw;case rel=>exact⟨m+k,by go_num,HN⟩
   case measure=>simp[intOf];omega
  ·obtain rfl:m=n:=by omega
   have HB:=aH HI2.out.below;have HR:=aH (HI2.out.done (HQ.out.ext HB.out) rfl (by omega));go_wp2;go_ret;exact⟨_,rfl,HR.out,HB.out⟩
theorem pV(n:Nat)(w:World)(hn:n≤1000000):Calls Tryz.prog 118 #[I n] w (oS w (List.replicate n 0)):=by
 have HC:=aH (dX 0 w (by decide) (by decide));go_enter Tryz.func118,Tryz.ntmps118;go_wp2_with fail;refine HC.out.mono ?_;rintro e w1 ⟨v,rfl,hv,hb⟩;clear HC;obtain⟨nb,A,l,c,B,m,d,rfl⟩:=hv.bools;have hz:=aC w1 (.cells #[.bool nb,.slice A l c,.bool false,.slice B m d] aM);have hB4:C4 (w1.alloc (.cells #[.bool nb,.slice A l c,.bool false,.slice B m d] aM)) w1.heap.size 0 (.bool nb) (.slice A l c) (.bool false) (.slice B m d):=by
  have h:=Blk.new w1 aM #[.bool nb,.slice A l c,.bool false,.slice B m d];exact⟨by rw[h.cell];rfl,by rw[h.cell];rfl,by rw[h.cell];rfl,by rw[h.cell];rfl⟩
 have HC:=aH (aGn _ _ _ _ 0 n w1.heap.size 0 1 _ (by simp) hB4 (hv.ext hz) hn);have HB:=aH (hb.trans (hz.mono hb.size));have HS:=aH (show w.heap.size≤(w1.alloc (.cells #[.bool nb,.slice A l c,.bool false,.slice B m d] aM)).heap.size from HB.out.size);clear hz hB4 hv hb;unfold aM at*;go_wp2_with fail;refine HC.out.mono ?_;rintro e w2 ⟨v,rfl,hr,hb⟩;have HR:=aH (hr.less HS.out);replace HB:=bT HB hb;obtain⟨A2,c2,rfl⟩:=HR.out.val;clear HC HS hr hb;generalize(List.replicate n (0:Rat)).length=ln at*;go_wp2;go_ret;exact⟨_,rfl,HR.out,HB.out⟩
theorem LM.nil(w:World)(base:Nat):LM w base (.slice none 0 0) [] []:=⟨Row.nil _ _ _ _,fun i u qs h=>by simp at h,fun i j u u' g _ h=>by simp at h⟩
theorem RRow.cutK{w:World}{base g off n c:Nat}{qs:List Rat}(h:RRow w base (.slice (some ⟨g,off,none⟩) n c) qs){k:Nat}(hk:k<n):RRow w base (.slice (some ⟨g,off+k*4,none⟩) (n-k) (c-k)) (qs.drop k):=by
 obtain⟨⟨xs,h1,h2⟩,h3⟩:=h;obtain⟨A',c',e⟩:=h1.val;injection e with _ e _;rw[←e]at h1;refine⟨⟨xs.drop (k*4),?_,h2.drop_ k⟩,fun g' o x hg=>h3 g' o x hg⟩;rw[List.length_drop,←e];have h4:=h1.cut k (by omega);obtain⟨g2,off2,cap2,cur,e2,_,_,h5,_⟩:=h1.form (by omega);injection e2 with _ _ e2;unfold sliced at h4;rw[if_neg (by omega),Option.map_some]at h4;simp only[Addr.add_lit]at h4;exact h4
def jM(n i:Nat)(m:MQ):MQ:=m.mapIdx fun a r=>if a<i then r.drop n else r
theorem aPd(n i:Nat)(m:MQ):(jM n i m).length=m.length:=List.length_mapIdx
theorem aJi(n:Nat)(m:MQ):jM n 0 m=m:=mF m _ fun a x _=>if_neg (by omega)
theorem aPe{n i:Nat}{m:MQ}(h:i<m.length):(jM n i m).getD i []=m.getD i []:=by
 unfold jM;rw[dD m _ i [] [] h,if_neg (Nat.lt_irrefl _)]
theorem aPf{n i:Nat}{m:MQ}(h:i<m.length):(jM n i m).set i ((m.getD i []).drop n)=jM n (i+1) m:=by
 apply List.ext_getElem?;intro a;unfold jM;rw[List.getElem?_set,List.getElem?_mapIdx,List.getElem?_mapIdx,List.length_mapIdx];by_cases e:i=a
 ·subst e;have hx:m.getD i []=m[i]:=by rw[gD,gE h];rfl
  rw[if_pos rfl,if_pos h,gE h,hx];simp only[Option.map_some];rw[if_pos (Nat.lt_succ_self _)]
 ·rw[if_neg e];cases m[a]? with
  |none=>rfl
  |some x=>
   simp only[Option.map_some];by_cases h:a<i
   ·rw[if_pos h,if_pos (by omega)]
   ·rw[if_neg h,if_neg (by omega)]
theorem aPg(n:Nat)(m:MQ):jM n m.length m=m.map fun r=>r.drop n:=by
 apply List.ext_getElem?;intro a;unfold jM;rw[List.getElem?_mapIdx,List.getElem?_map];by_cases h:a<m.length
 ·rw[gE h];simp only[Option.map_some];rw[if_pos h]
 ·rw[List.getElem?_eq_none (by omega)];rfl
theorem LM.dropRow{w:World}{base g off n cap i b o l c k:Nat}{vs:List Value}{m:MQ}(h:LM w base (.slice (some ⟨g,off,none⟩) n cap) vs m)(hn:m.length=n)(hi:i<n)(hu:vs[i]?=some (.slice (some ⟨b,o,none⟩) l c))(hk:k<l): LM (w.setCell ⟨g,off+i,none⟩ (.slice (some ⟨b,o+k*4,none⟩) (l-k) (c-k))) base (.slice (some ⟨g,off,none⟩) n cap) (vs.set i (.slice (some ⟨b,o+k*4,none⟩) (l-k) (c-k))) (m.set i ((m.getD i []).drop k)):=by
 have hmi:m[i]?=some (m.getD i []):=by rw[gD,gE (by omega)];rfl
 have hr:=(h.inner i _ _ hu hmi).cutK hk;refine(h.put hn hi hr fun j u' g' hj h1 h2=>?_).1;exact h.apart i j _ u' g' (Ne.symm hj) hu h1 h2
def vE(m:MQ)(n:Nat):MQ×Bool:=if(aX (dZ m n) n).2.length<n then([],false)else(yV m n,true)
def bAu(w:World)(s:MQ×Bool)(e:Ending)(w':World):Prop:=∃v vs,e= .returned (.tuple #[v,.bool s.2])∧LM w' w.heap.size v vs s.1∧Below w.heap.size w w'
theorem aUo(x:List Rat)(n k:Nat)(hx:x.length=n):(x++List.replicate n 0).set (n+k) 1=x++(List.replicate n 0).set k 1:=by
 rw[List.set_append_right _ _ (by omega),hx,show n+k-n=k by omega]
theorem uW:((1:Int):Rat)=1:=rfl
theorem aUp(m:MQ)(n:Nat)(A:Option Addr)(c:Nat)(w:World)(hm:RM w A n m)(hr:Rect m n n)(hn:n≤500)(hB:Bnd (dZ m n) n): Calls Tryz.prog 166 #[.slice A n c] w (bAu w (vE m n)):=by
 have hmk:=sL n (by omega);have HP:=aH (show∃vs,LM (w.alloc (.cells (Array.replicate n (Value.slice none 0 0)) bU)) w.heap.size (.slice (some ⟨w.heap.size,0,none⟩) n n) vs (cJ (dZ m n) [] 0 n)from⟨_,by rw[nC];exact LM.start w n (by unfold maxLen;omega)⟩);have HB:=aH (aC w (.cells (Array.replicate n (Value.slice none 0 0)) bU));have HM:=aH hm;have HR:=aH hr;have HBN:=aH hB;clear hm hr hB;unfold bU at hmk;go_enter Tryz.func166,Tryz.ntmps166;go_wp2;clear hmk;go_loopg [16] (n-0) (fun r v wr=>∃k:Nat,r=n-k∧v=I k∧k≤n∧Hid (∃vs,LM wr w.heap.size (.slice (some ⟨w.heap.size,0,none⟩) n n) vs (cJ (dZ m n) [] k n))∧Hid (Below w.heap.size w wr));case atStart=>exact⟨0,rfl,rfl,by omega,HP,HB⟩
 case round=>
  clear HP HB;obtain⟨k,rfl,rfl,hk,HP,HB⟩:=hrel;obtain⟨wa,rfl⟩:=wE wr;by_cases hlt:k<n
  ·obtain⟨x,hx⟩:∃x,m[k]?=some x:=⟨_,gE (by rw[HR.out.1];exact hlt)⟩;obtain⟨ba,oa,B,d,rfl,_,hc,hrx⟩:=(HM.out.below HB.out).at_ hlt x hx;have hxl:x.length=n:=HR.out.2 x (List.mem_of_getElem? hx);rw[hxl]at hc hrx;have HX:=aH (show(dZ m n)[k]?=some (x++(List.replicate n 0).set k 1) by unfold dZ;rw[List.getElem?_mapIdx,hx];rfl);have HXL:=aH hxl;have HRX:=aH hrx;obtain⟨vs,hLM⟩:=HP.out;have HL:=aH hLM;have HP0:=aH hLM;clear hx hrx hxl hLM HP;go_wp2_with(at_builtin;refine oV rfl _ _ rfl wa.heap.size (.slice none 0 0) [] rfl (RRow.nil _ _) B n d rfl HRX.out (by rw[List.length_nil];omega) lR ?_);intro v3 W3 hap;have hb:=hap.below (RRow.nil wa wa.heap.size) lR;have HR3:=aH hap.row;replace HL:=aH (HL.out.call hb);have HBW:=aH hb;have HZ:=aH (pV n W3 (by omega));clear hap hb hc HRX;go_wp2_with fail;refine HZ.out.mono ?_;rintro e W4 ⟨v4,rfl,hr4,hb⟩;obtain⟨A4,c4,rfl⟩:=hr4.val;rw[List.length_replicate]at hr4⊢;replace HL:=aH (HL.out.call hb);replace HR3:=aH (HR3.out.call hb);replace HBW:=bT HBW hb;have HR4:=aH hr4.rv;clear HZ hr4 hb;go_wp2_with(at_builtin;refine oV rfl _ _ rfl wa.heap.size v3 x rfl HR3.out A4 n c4 rfl HR4.out (by rw[HXL.out];omega) HBW.out.size ?_);intro v5 W5 hap;have hb:=hap.below HR3.out HBW.out.size;have HR5:=aH hap.row;have HBL:=aH (HBW.out.trans hb);have hown:=hap.own;have h1:LM W5 w.heap.size (.slice (some ⟨w.heap.size,0,none⟩) n n) vs (cJ (dZ m n) [] k n):=by
    have h0:=HP0.out.call HBL.out;exact h0
   clear hap hb HR3 HR4 hown;have hap2:=HP0.out.newer (u:=v5) (fun g hg=>(HR5.out.lt hg).1);have hfl:(cJ (dZ m n) [] k n).length=n:=mB _ (by rw[sN,HR.out.1]) hk;obtain⟨g,o9,cap,B9,c9,e9,hg1,hg2,-,hcell,hfz,-⟩:=h1.at_ (i:=k) (by omega);obtain⟨rfl,rfl⟩:=nB e9;clear e9;have h2:=h1.put (i:=k) hfl hlt (HR5.out.less HB.out.size) (fun j u' g' _=>hap2 j u' g');rw[Nat.zero_add]at h2;rw[Nat.zero_add]at hcell hfz;have hlen5:(x++List.replicate n (0:Rat)).length=n+n:=by rw[List.length_append,HXL.out,List.length_replicate]
   obtain⟨A5,c5,rfl⟩:=HR5.out.val;rw[hlen5]at*;clear hlen5;have HL5:=aH (show(x++List.replicate n (0:Rat)).length=n+n by rw[List.length_append,HXL.out,List.length_replicate]);have HB5:=aH ((HB.out.trans (HBL.out.mono HB.out.size)).setCell (p:=⟨w.heap.size,k,none⟩) lR (.slice A5 (n+n) c5));have HU:=aH (show(vs.set k (.slice A5 (n+n) c5))[k]?=some (.slice A5 (n+n) c5) by rw[List.getElem?_set_self (by rw[h1.len];omega)]);have HL6:=aH h2.1;have HGD:=aH (show((cJ (dZ m n) [] k n).set k (x++List.replicate n 0)).getD k []=x++List.replicate n 0 from gF (by omega));have HLE:=aH (show((cJ (dZ m n) [] k n).set k (x++List.replicate n 0)).length=n by rw[List.length_set];exact hfl);have HFS:=aH (show((cJ (dZ m n) [] k n).set k (x++List.replicate n 0)).set k ((((cJ (dZ m n) [] k n).set k (x++List.replicate n 0)).getD k []).set (n+k) 1)=cJ (dZ m n) [] (k+1) n by rw[HGD.out,aUo _ _ _ HXL.out,List.set_set];exact mC _ (by rw[sN,HR.out.1]) hlt HX.out);generalize(cJ (dZ m n) [] k n).set k (x++List.replicate n 0)=EX at*;generalize((cJ (dZ m n) [] k n).getD k []).length=ln at*;clear h1 h2 hap2 hfl hg1 hg2 HR5 HL HBL HBW HX HP0 HB;go_upto_region 7 with(fail)
   clear hcell hfz;generalize W5.setCell ⟨w.heap.size,k,none⟩ (.slice A5 (n+n) c5)=W6 at*;have hd:=aQ W6;replace HL6:=aH (HL6.out.call hd);replace HB5:=bT HB5 hd;clear hd;obtain⟨b5,o5,cc,nb,B1,l1,c1,B2,l2,c2,hu,hc,hE,hrt,hf5,_,_,hb5,hb5l,_⟩:=HL6.out.elem HLE.out hlt (show n+k<(EX.getD k []).length by rw[HGD.out,HL5.out];omega);rw[HU.out]at hu;injection hu with hu;injection hu with hu hu2 hu3;subst hu hu3;rw[HGD.out,HL5.out]at hc;rw[Nat.zero_add]at hc;have CE:=aH hc;have EL:=aH (show El W6.drew b5 (o5+(n+k)*4) (.bool nb) (.slice B1 l1 c1) (.bool false) (.slice B2 l2 c2)from⟨hE.c0,hE.c1,hE.c2,hE.c3,hf5 _,hf5 _,hf5 _,hf5 _⟩);clear hc hE hrt hf5 hu2;refine aI (fun w'=>w'.cell? ⟨w.heap.size,k,none⟩=some (.slice (some ⟨b5,o5,none⟩) (n+n) c5)) 9 (by kernel_rfl) ?_;generalize W6.drew=W7 at*;refine tq 0 (.slice (some ⟨w.heap.size,0,none⟩) n n) rfl ?_ CE.out ?_
   ·intro w hSw;have s0:=hSw;go_simp
   refine tq 1 (I k) rfl ?_ CE.out ?_
   ·intro w hSw;have s0:=hSw;go_simp
   refine tq 2 (.pointer (some ⟨w.heap.size,k,none⟩)) rfl ?_ CE.out ?_
   ·intro w hSw;have s0:=hSw;go_simp
   refine tq 3 (.slice (some ⟨b5,o5,none⟩) (n+n) c5) rfl ?_ CE.out ?_
   ·intro w hSw;have s0:=hSw;go_simp
   refine tq 4 (I n) rfl ?_ CE.out ?_
   ·intro w hSw;have s0:=hSw;go_simp
   refine tq 5 (I k) rfl ?_ CE.out ?_
   ·intro w hSw;have s0:=hSw;go_simp
   refine tq 6 (.int .i64 ((n:Int)+(k:Int))) rfl ?_ CE.out ?_
   ·intro w hSw;have s0:=hSw;go_simp;exact IntWalk.i64_in _ (by omega)
   refine on1 7 fun K hK=>?_;go_simp;go_at_call 64;refine(dX 1 _ (by decide) (by decide)).mono ?_;rintro e W8 ⟨v8,rfl,hv,hb⟩;replace CE:=aH (aA CE.out hb);replace EL:=aH (EL.out.below hb);replace HL6:=aH (HL6.out.call hb);replace HB5:=bT HB5 hb;clear hb;refine hK.out _ _ (fun _=>CE.out) ?_;clear hK K;rw[uW]at hv;refine tq 8 (.pointer (some ⟨b5,o5+(n+k)*4,none⟩)) rfl ?_ CE.out ?_
   ·intro w hSw;have s0:=hSw;go_simp;rw[if_pos (by omega),show((n:Int)+(k:Int)).toNat=n+k by omega]
   obtain⟨tb,T1,t1,u1,T2,t2,u2,rfl⟩:=hv.bools;obtain⟨hl,hkw2⟩:=HL6.out.putEl (k:=n+k) HLE.out hlt HU.out (by omega) hv;rw[HFS.out]at hl;have HN:=aH (show∃vs,LM (put4 W8 b5 (o5+(n+k)*4) (.bool tb) (.slice T1 t1 u1) (.bool false) (.slice T2 t2 u2)) w.heap.size (.slice (some ⟨w.heap.size,0,none⟩) n n) vs (cJ (dZ m n) [] (k+1) n)from⟨_,hl⟩);have HBN5:=aH (cS (o:=o5+(n+k)*4) HB5.out hb5 (.bool tb) (.slice T1 t1 u1) (.bool false) (.slice T2 t2 u2));unfold put4 at HN HBN5;have z0:=EL.out.c0;have y0:=EL.out.f0;have z1:=EL.out.c1;have y1:=EL.out.f1;have z2:=EL.out.c2;have y2:=EL.out.f2;have z3:=EL.out.c3;have y3:=EL.out.f3;clear hl hkw2 hv CE EL HL6 HB5 HFS HGD HLE HU;refine on1 9 fun K hK=>?_;go_simp;refine hK.out _ _ (fun h=>absurd h (by decide)) ?_;clear hK K z0 z1 z2 z3 y0 y1 y2 y3;refine aD (by kernel_rfl) ?_ _;go_wp2;go_roundg (n-(k+1));case measure=>omega
   case rel=>exact⟨k+1,rfl,by go_num,by omega,HN,HBN5⟩
  ·have hkn:k=n:=by omega
   subst hkn;obtain⟨vs0,hLM⟩:=HP.out;rw[pS _ (by rw[sN,HR.out.1])]at hLM;have HC:=aH (yG (dZ m k) k (k+k) k _ k wa hLM.rm (gR HR.out) (by omega) (by omega) (by omega) HBN.out);have HQ:=aH (dU (gR HR.out) k);clear HP hLM HM HBN;go_wp2_with fail;have hLB:=HB.out.size;refine HC.out.mono ?_;rintro e w2 ⟨v,vs,u,rfl,hLM,hN,hb⟩;clear HC;have hLM:=hLM.less hLB;replace HB:=bT HB hb;obtain⟨Au,cu,rfl⟩:=hN.val;obtain⟨A1,c1,rfl⟩:=hLM.val;clear hb hN hLB;rw[sP];have HE:=aH (show vE m k=if(aX (dZ m k) k).2.length<k then([],false)else((aX (dZ m k) k).1.map (fun r=>r.drop k),true)from rfl);have HRX:=aH HQ.out.rect;clear HQ;generalize(aX (dZ m k) k).1=X at*;generalize(aX (dZ m k) k).2.length=r at*;rw[HRX.out.1]at hLM⊢;by_cases hrk:r<k
   ·have HE2:=aH (show vE m k=([],false) by rw[HE.out,if_pos hrk]);clear HE hLM;go_wp2;go_ret2;rw[HE2.out];exact⟨_,_,rfl,LM.nil _ _,HB.out⟩
   ·have HE2:=aH (show vE m k=(X.map (fun r=>r.drop k),true) by rw[HE.out,if_neg hrk]);have HL:=aH (show∃vs,LM w2 w.heap.size (.slice A1 k c1) vs (jM k 0 X)from⟨vs,by rw[aJi];exact hLM⟩);clear HE hLM;go_wp2;go_loopg [52] (k-0) (fun mm v wr=>∃i:Nat,mm=k-i∧v=I i∧i≤k∧Hid (∃vs,LM wr w.heap.size (.slice A1 k c1) vs (jM k i X))∧Hid (Below w.heap.size w wr));case atStart=>exact⟨0,rfl,rfl,by omega,HL,HB⟩
    case round=>
     clear HL HB;obtain⟨i,rfl,rfl,hi,HL,HB⟩:=hrel;obtain⟨wb,rfl⟩:=wE wr;have hdl:(jM k i X).length=k:=by rw[aPd,HRX.out.1]
     obtain⟨vs2,hLM⟩:=HL.out;by_cases hlt:i<k
     ·obtain⟨g,off,cap0,B0,cc0,e0,hg1,hg2,hu,hc,hfz,-⟩:=hLM.at_ (i:=i) (by omega);injection e0 with e1 e2 e3;subst e1 e3;clear e2;have hgd:(jM k i X).getD i []=X.getD i []:=aPe (by rw[HRX.out.1];exact hlt);have hxl:(X.getD i []).length=k+k:=dS HRX.out hlt;rw[hgd,hxl]at hu hc;obtain⟨b5,o5,rfl⟩:∃b5 o5,B0=some ⟨b5,o5,none⟩:=by
       obtain⟨b,o,c,nb,B1,l1,c1,B2,l2,c2,h1,-⟩:=hLM.elem (k:=0) hdl hlt (by rw[hgd,hxl];omega);rw[hu]at h1;injection h1 with h1;injection h1 with h1;exact⟨_,_,h1⟩
      have hcap:k+k≤cc0:=by
       obtain⟨⟨ys,hrow,_⟩,_⟩:=hLM.inner i _ _ hu (show(jM k i X)[i]?=some ((jM k i X).getD i []) by rw[gD,gE (by omega)];rfl);obtain⟨g',off',cap',cur,e,_,_,h3,_⟩:=hrow.form (by rw[hgd,hxl];omega);injection e with _ _ e;rw[hgd,hxl]at h3;omega
      have h2:=hLM.dropRow (k:=k) hdl hlt hu (by omega);rw[hgd,aPf (by rw[HRX.out.1];exact hlt),show k+k-k=k by omega]at h2;have HN:=aH (show∃vs,LM (wb.setCell ⟨g,off+i,none⟩ (.slice (some ⟨b5,o5+k*4,none⟩) k (cc0-k))) w.heap.size (.slice (some ⟨g,off,none⟩) k c1) vs (jM k (i+1) X)from⟨_,h2⟩);have HBN2:=aH (HB.out.setCell (p:=⟨g,off+i,none⟩) hg1 (.slice (some ⟨b5,o5+k*4,none⟩) k (cc0-k)));have hcc:k+k≤cc0:=hcap;clear h2 hLM HL HB hdl hgd hxl hu hg1 hg2;go_wp2;go_roundg (k-(i+1));case measure=>omega
      case rel=>exact⟨i+1,rfl,by go_num,by omega,HN,HBN2⟩
     ·have hik:i=k:=by omega
      subst hik;have HF:=aH (show LM wb w.heap.size (.slice A1 i c1) vs2 (X.map (fun r=>r.drop i)) by rw[←aPg,HRX.out.1];exact hLM);clear hLM HL hdl;go_wp2;go_ret2;rw[HE2.out];exact⟨_,_,rfl,HF.out,HB.out⟩
end
end Go.Proofs.YtenbglfkdldheaaGreatDoor
