/- large.divWords, where the divisor has two words or more. -/
import Derived.Test.YtenbglfkdldheaaGreatDoorUB
set_option maxRecDepth 100000
set_option maxHeartbeats 40000000
namespace Go.Proofs.YtenbglfkdldheaaGreatDoor
open Go.RowKit
theorem aGj(a b:List Int)(A B:Option Addr)(ca cb:Nat)(w:World)(hA:Reads w w.heap.size 1 A a.length (a.map U))(hB:Reads w w.heap.size 1 B b.length (b.map U))(oa:Ok a)(ob:Ok b)(na:Nm a)(nb:Nm b)(hl:a.length≤1000000000)(hm:b.length≤1000000000)(hb2:2≤b.length)(hge:val b≤val a): Calls Tryz.prog 183 #[.slice A a.length ca,.slice B b.length cb] w (aAq w (val a) (val b)):=by
 have HC:=aH (qA a b A B ca cb w hA hB oa ob na nb (by omega) (by omega));have HGE:=aH hge;have hlen:b.length≤a.length:=lO ob nb (by have:=dN oa;omega);have HLOW:=aH (uV ob nb (b.length-1) (by omega));have hbpos:0<val b:=by have:=HLOW.out;have:=cY (b.length-1);omega
 have HBP:=aH hbpos;clear hge hbpos;go_enter Tryz.func183,Tryz.ntmps183;go_wp2_with fail;refine HC.out.mono ?_;rintro e W0 ⟨r,rfl,⟨hr1,hr2,hr3,hr4⟩,hb0⟩;have hr0:¬r<0:=by have:=HGE.out;omega
 have tr:decide (r<0)=false:=decide_eq_false hr0;have HA:=aH ((hA.below hb0).more hb0.size);have HB:=aH ((hB.below hb0).more hb0.size);have HB0:=aH hb0;obtain⟨bb,offb,hBe,hbb,hcb⟩:=HB.out.word (k:=b.length-1) (by omega);subst hBe;have hbt:=ob.at_ (b.length-1);have hbt1:1≤b.getD (b.length-1) 0:=by
  have hne:b≠[]:=by rintro rfl;simp at hb2
  have:=nb hne;rw[List.getLast_eq_getElem]at this;rw[gD,gE (by omega)]at hbt⊢;simp only[Option.getD_some]at*;omega
 obtain⟨bt,hbte⟩:∃x,b.getD (b.length-1) 0=x:=⟨_,rfl⟩;rw[hbte]at hcb hbt hbt1;have HBT:=aH hbte;obtain⟨hbt0,hbt2⟩:=hbt;have HLZ:=aH (aYf bt W0 hbt1 hbt2);have hl1:(((b.length-1:Nat)):Int)=(b.length:Int)-1:=by omega
 clear HC hr1 hr2 hbte hA hB hb0;go_wp2_with fail;refine HLZ.out.mono ?_;rintro e w1 ⟨s,rfl,hs,hs1,hs2,rfl⟩;rw[←HBT.out]at hs1 hs2;have HS1:=aH hs1;have HS2:=aH hs2;clear HLZ hs1 hs2;have HSA:=aH fun(W:World) (hb:Below w1.heap.size w1 W)=>sY a A ca s W ((HA.out.below hb).more hb.size) oa hl hs;have HSB:=aH fun(W:World) (hb:Below w1.heap.size w1 W)=>sY b (some ⟨bb,offb,none⟩) cb s W ((HB.out.below hb).more hb.size) ob hm hs;have HD:=aH (show Below w1.heap.size w1 w1.drew from cC (Below.refl _ _));go_upto_region 7 with(fail)
 go_cut [9,10] (fun uv vv wx=>Two w a b s uv vv wx)
 case first=>
  go_region_with (first|(go_at_call 206;(with_reducible refine(HSB.out _ HBL1.out).mono ?_);rintro e w3 ⟨o3,rfl,hw3,hv3⟩;have HT:=aH (aOz ob hb2 hs HS1.out HS2.out (Nat.ne_of_lt hlt1) (Nat.le_trans HB0.out.size (HBL1.out.size)) HB0.out.size (HW1.out.ext hw3.below) (hw3.base (HB0.out.trans (HBL1.out.mono HB0.out.size))) HV1.out hv3);clear hw3 hv3)|(go_at_call 206;(with_reducible refine(HSA.out _ HBL2.out).mono ?_);rintro e w3 ⟨o3,rfl,hw3,hv3⟩;have HT:=aH (aOz ob hb2 hs HS1.out HS2.out (Nat.ne_of_gt hlt2) HB0.out.size (Nat.le_trans HB0.out.size (HBL2.out.size)) (hw3.base (HB0.out.trans (HBL2.out.mono HB0.out.size))) (HW2.out.ext hw3.below) hv3 HV2.out);clear hw3 hv3)|(go_at_call 206;(with_reducible refine(HSA.out _ HD.out).mono ?_);rintro e w2 ⟨o2,rfl,hw2,hv2⟩;have HW1:=aH (hw2.base (HB0.out.trans (HD.out.mono HB0.out.size)));have HBL1:=aH (HD.out.trans hw2.below);have hlt1:=hw2.blk.lt;have HV1:=aH hv2;clear hw2 hv2)|(go_at_call 206;(with_reducible refine(HSB.out _ HD.out).mono ?_);rintro e w2 ⟨o2,rfl,hw2,hv2⟩;have HW2:=aH (hw2.base (HB0.out.trans (HD.out.mono HB0.out.size)));have HBL2:=aH (HD.out.trans hw2.below);have hlt2:=hw2.blk.lt;have HV2:=aH hv2;clear hw2 hv2));all_goals(go_wp2_with fail;go_meet;exact HT.out)
 case rest=>
  clear HSA HSB HD HA HB hcb;obtain⟨gu,gv,u0,v,rfl,rfl,huv,hgu,hgv,hU,hV,lv,ov,evv,htop,eu⟩:=hcut;have hmk:=iF (a.length-b.length+1) (by omega);have e1:((a.length-b.length+1:Nat):Int)=(a.length:Int)-b.length+1:=by omega
  rw[e1]at hmk;have HW:=aH (Wrd.start wc (a.length-b.length+1));have HKO:=aH (KO.start (s:=s) oa HBP.out rfl HLOW.out (by omega) hlen eu);have HAP:Hid (Apart w gu gv wc.heap.size):=aH ⟨hgu,hgv,hU.below.size,huv,Nat.ne_of_lt hU.blk.lt,Nat.ne_of_lt hV.lt⟩;have HM3:Hid (M3 w gu gv wc.heap.size a.length b.length v u0 (List.replicate (a.length-b.length+1) 0) (wc.alloc (.cells (Array.replicate (a.length-b.length+1) (U 0)) 247))):=aH ⟨hU.alloc _,hV.alloc _,HW.out.base hU.below,lv⟩;rw[←evv]at HKO;have HVP:Hid (0<val v):=aH (by rw[evv];exact Int.mul_pos HBP.out (by have:=Nat.two_pow_pos s;exact_mod_cast this));have HTOP:=aH htop;have HEV:=aH evv;have hgq:gu<wc.heap.size:=hU.blk.lt;have hgr:gv<wc.heap.size:=hV.lt;clear hU hV evv htop eu HW e1;go_wp2;clear hmk;generalize wc.heap.size=gq at*;go_loopg [12] (a.length-b.length+1) (fun r jv wr=>∃(u q:List Int),jv=I ((r:Int)-1)∧r≤a.length-b.length+1∧M3 w gu gv gq a.length b.length v u q wr∧KO (val a*2^s) (val v) r u q);case atStart=>exact⟨_,_,by congr 1;omega,Nat.le_refl _,HM3.out,HKO.out⟩
  case round=>
   clear HM3 HKO;obtain⟨u,q,rfl,hrl,hM,hK⟩:=hrel;rcases gk with _|j
   ·as_aux_lemma=>
    have e0:(((0:Nat):Int)-1)=-1:=by omega
    rw[e0];clear e0;rw[HEV.out]at hK;obtain⟨hq1,hq2⟩:=hK.fin hM.mu.ok HBP.out;obtain⟨wa,rfl⟩:=wE wr;have hmk:=iF b.length (by omega);have HW:=aH (Wrd.start wa b.length);have HQ1:=aH hq1;have HQ2:=aH hq2;have HM:=aH hM;have hqa:gq<wa.heap.size:=hM.mq.blk.lt;have hua:gu<wa.heap.size:=hM.mu.blk.lt;clear hq1 hq2 hK hM HVP HTOP;go_wp2_with fail;clear hmk;go_loopg [250] (b.length-0) (fun r iv wx=>∃(i:Nat) (o:List Int),r=b.length-i∧iv=I i∧i≤b.length∧Wrd wa wa.heap.size b.length o wx∧KR u s i o);case atStart=>exact⟨0,_,rfl,rfl,Nat.zero_le _,HW.out,⟨by rw[List.take_zero,mS,Int.emod_one];rfl⟩⟩
    case round=>
     clear HW;obtain⟨i,o,rfl,rfl,hi,hW,hR⟩:=hrel;have hBu:=HM.out.mu.blk.below hW.below hua;by_cases hlt:i<b.length
     ·have k0:=hBu.cell i;have k1:=hBu.cell (i+1);have hlu:=HM.out.mu.len;have n0:=HM.out.mu.ok.at_ i;have n1:=HM.out.mu.ok.at_ (i+1);have hN:=hR.step HM.out.mu.ok hs (by rw[hW.len];omega) rfl;rw[show(u.map U).toArray[i]?=some (U (u.getD i 0)) by simp[gE (show i<u.length by omega)]]at k0;rw[show(u.map U).toArray[i+1]?=some (U (u.getD (i+1) 0)) by simp[gE (show i+1<u.length by omega)]]at k1;obtain⟨x0,hx0⟩:∃x,u.getD i 0=x:=⟨_,rfl⟩;obtain⟨x1,hx1⟩:∃x,u.getD (i+1) 0=x:=⟨_,rfl⟩;rw[hx0]at k0 n0 hN;rw[hx1]at k1 n1 hN;obtain⟨n00,n01⟩:=n0;obtain⟨n10,n11⟩:=n1;have hor:=aIs (m:=x1) (x:=x0) ⟨n10,n11⟩ ⟨n00,n01⟩;have hf:wr.frozen? ⟨wa.heap.size,i,none⟩=false:=hW.blk.frozen _;have hco:=hW.cell hlt;have lr:=hW.blk.lt;have hul:=hBu.lt;have HN:=aH hN;have HW1:=aH hW;clear hN hR hW hBu hx0 hx1 hlu;go_wp2_with fail;go_region;go_wp2;go_roundg (b.length-(i+1));case measure=>omega
      case rel=>exact⟨i+1,_,rfl,by go_num,by omega,(HW1.out.set i (by omega) lR).drew,HN.out⟩
     ·obtain rfl:i=b.length:=by omega
      have hE:=hR.sum;have hle:=dN ob;rw[List.take_of_length_le (Nat.le_of_eq hW.len),HQ2.out,Int.emod_eq_of_lt (Int.emod_nonneg _ (by have:=HBP.out;omega)) (by have:=Int.emod_lt_of_pos (val a) HBP.out;omega)]at hE;have HE:=aH hE;have HW1:=aH hW;have hmq:=HM.out.mq.blk.below hW.below hqa;have HMQ:=aH hmq;clear hE hR hW hmq hBu hle;go_wp2;go_ret2;refine⟨_,_,_,_,q,o,aVc HM.out.mq.len HW1.out.len,?_,HW1.out.reads,HM.out.mq.ok,HW1.out.ok,HQ1.out,HE.out,⟨by rw[HM.out.mq.len];omega,by rw[HW1.out.len];omega⟩,HM.out.mq.below.trans (HW1.out.below.mono HM.out.mq.below.size)⟩;exact((HM.out.mq.reads).below HW1.out.below).more HW1.out.below.size
   ·have e0:(((j+1:Nat):Int)-1)=j:=by omega
    rw[e0];clear e0;have hj:j+b.length≤a.length:=by omega
    have HD:=aH (dig (j:=j) (bD hM.mu.ok) HVP.out hK.lt);have hT:=bBs hM.mu.ok ov (j:=j) hb2 lv hK.lt HTOP.out;have c1:=hM.mu.cell (i:=j+b.length) (by omega);have c2:=hM.mu.cell (i:=j+b.length-1) (by omega);have c3:=hM.mu.cell (i:=j+b.length-2) (by omega);have c4:=hM.cv (i:=b.length-1) (by omega);have c5:=hM.cv (i:=b.length-2) (by omega);have uh0:=hM.mu.ok.at_ (j+b.length);obtain⟨uh,huh⟩:∃x,u.getD (j+b.length) 0=x:=⟨_,rfl⟩;obtain⟨um,hum⟩:∃x,u.getD (j+b.length-1) 0=x:=⟨_,rfl⟩;obtain⟨ul,hul⟩:∃x,u.getD (j+b.length-2) 0=x:=⟨_,rfl⟩;obtain⟨vt,hvt⟩:∃x,v.getD (b.length-1) 0=x:=⟨_,rfl⟩;obtain⟨vs,hvs⟩:∃x,v.getD (b.length-2) 0=x:=⟨_,rfl⟩;rw[huh]at hT c1 uh0;rw[hum]at hT c2;rw[hul]at hT c3;rw[hvt]at hT c4;rw[hvs]at hT c5;have huv1:=hT.huh;obtain⟨um0,um1⟩:=hT.hum;obtain⟨ul0,ul1⟩:=hT.hul;obtain⟨vt0,vt1⟩:=hT.hvt;obtain⟨vs0,vs1⟩:=hT.hvs;obtain⟨uh0,uh1⟩:=uh0;have hor:=aIs (m:=uh) (x:=um) ⟨uh0,uh1⟩ ⟨um0,um1⟩;have HT:=aH hT;have HM:=aH hM;have HK:=aH hK;have i1:((j+b.length-1:Nat):Int)=(j:Int)+b.length-1:=by omega
    have i2:((j+b.length-2:Nat):Int)=(j:Int)+b.length-2:=by omega
    have i3:((b.length-2:Nat):Int)=(b.length:Int)-2:=by omega
    have lu:=hM.mu.blk.lt;have lvv:=hM.mv.lt;clear hT hM hK huh hum hul hvt hvs;obtain⟨dq,hdq⟩:∃x,val u/(val v*P32 j)=x:=⟨_,rfl⟩;rw[hdq]at HD;clear hdq;have HG:=aH (HT.out.first uh0 HD.out);obtain⟨wa,rfl⟩:=wE wr;go_upto_region 13 with(fail)
    go_quiet (fail);go_upto_region 14 with(fail)
    go_quiet (fail);go_upto_block 2 with fail
    go_cut [14,15]from 69 to 246 (fun gv _ wx=>CutG wa (val u) (val v*P32 j) dq gv wx)
    case first=>as_aux_lemma=>
     go_wp2_with fail;go_loopg [14,15] ((uh*4294967296+um)/vt).toNat (fun r gv rv wx=>∃(g rest:Int) (q:Nat),r=g.toNat∧gv= .int .u64 g∧rv= .int .u64 rest∧wx=wa.drewN q∧GI uh um vt dq g rest);case atStart=>exact⟨_,_,_,rfl,rfl,rfl,World.drewN_drewN ..,HG.out⟩
     case round=>
      obtain⟨g,rest,q2,rfl,rfl,rfl,rfl,hGI⟩:=hrel;obtain⟨g0,g1,r0,r1,geq,gle⟩:=hGI;have HGE:=aH geq;clear geq;by_cases hA:4294967296≤g
      ·as_aux_lemma=>
       have t1:decide (4294967296≤g)=true:=decide_eq_true hA;have hd:=HT.out.down HD.out.q0 HD.out.lo HD.out.qB HGE.out gle (.inl hA);have hq0:=HD.out.q0;have hg1:1≤g:=by omega
       by_cases hbr:4294967296≤rest+vt
       ·have t3:decide (4294967296≤rest+vt)=true:=decide_eq_true hbr;have hC:CutG wa (val u) (val v*P32 j) dq (.int .u64 (g-1)) (wa.drewN q2):=by
         have e2:(g-1)*vt+(rest+vt)=uh*4294967296+um:=by rw[Int.sub_mul];have:=HGE.out;omega
         obtain⟨b1,b2⟩:=HT.out.broke e2 (by omega) hbr;exact⟨g-1,_,rfl,rfl,⟨by omega,b1⟩,hd,HT.out.done e2 (by omega) b1 b2⟩
        have HC:=aH hC;clear hC hd;go_upto_region 15 with(fail)
        go_quiet (fail);go_wp2;go_meet;exact HC.out.any _
       ·have t3:decide (4294967296≤rest+vt)=false:=decide_eq_false hbr;have hN:GI uh um vt dq (g-1) (rest+vt):=⟨by omega,by omega,by omega,by omega,by rw[Int.sub_mul];have:=HGE.out;omega,hd⟩;have HN:=aH hN;clear hN hd;go_upto_region 15 with(fail)
        go_quiet (fail);go_wp2;go_roundg (g-1).toNat;case measure=>omega
        case rel=>exact⟨g-1,rest+vt,_,rfl,rfl,rfl,rfl,HN.out⟩
      ·have t1:decide (4294967296≤g)=false:=decide_eq_false hA;have hgl:g<4294967296:=by omega
       obtain⟨hmb0,hmb1⟩:=iU ⟨g0,hgl⟩ ⟨vs0,vs1⟩;have hor2:=aIs (m:=rest) (x:=ul) ⟨r0,r1⟩ ⟨ul0,ul1⟩;by_cases hB:rest*4294967296+ul<g*vs
       ·as_aux_lemma=>
        have t2:decide (rest*4294967296+ul<g*vs)=true:=decide_eq_true hB;have hd:=HT.out.down HD.out.q0 HD.out.lo HD.out.qB HGE.out gle (.inr hB);have hq0:=HD.out.q0;have hg1:1≤g:=by omega
        by_cases hbr:4294967296≤rest+vt
        ·have t3:decide (4294967296≤rest+vt)=true:=decide_eq_true hbr;have hC:CutG wa (val u) (val v*P32 j) dq (.int .u64 (g-1)) (wa.drewN q2):=by
          have e2:(g-1)*vt+(rest+vt)=uh*4294967296+um:=by rw[Int.sub_mul];have:=HGE.out;omega
          obtain⟨b1,b2⟩:=HT.out.broke e2 (by omega) hbr;exact⟨g-1,_,rfl,rfl,⟨by omega,b1⟩,hd,HT.out.done e2 (by omega) b1 b2⟩
         have HC:=aH hC;clear hC hd;go_upto_region 15 with(fail)
         go_quiet (fail);go_wp2;go_meet;exact HC.out.any _
        ·have t3:decide (4294967296≤rest+vt)=false:=decide_eq_false hbr;have hN:GI uh um vt dq (g-1) (rest+vt):=⟨by omega,by omega,by omega,by omega,by rw[Int.sub_mul];have:=HGE.out;omega,hd⟩;have HN:=aH hN;clear hN hd;go_upto_region 15 with(fail)
         go_quiet (fail);go_wp2;go_roundg (g-1).toNat;case measure=>omega
         case rel=>exact⟨g-1,rest+vt,_,rfl,rfl,rfl,rfl,HN.out⟩
       ·have t2:decide (rest*4294967296+ul<g*vs)=false:=decide_eq_false hB;have hC:CutG wa (val u) (val v*P32 j) dq (.int .u64 g) (wa.drewN q2):=⟨g,_,rfl,rfl,⟨g0,hgl⟩,gle,HT.out.done HGE.out g0 hgl (by omega)⟩;have HC:=aH hC;clear hC;go_upto_region 15 with(fail)
        go_quiet (fail);go_wp2;go_meet;exact HC.out.any _
    case rest=>
     obtain⟨g,q3,rfl,rfl,⟨g0,gB⟩,gle,gdone⟩:=hcut;have HM1:=aH (HM.out.drewN q3);have HDONE:=aH gdone;have HZ:=aH (aOy HM.out.mu.ok ov lv HK.out.lt);have HLQ:=aH HM.out.mq.len;have HLU:=aH HM.out.mu.len;clear c1 c2 c3 c4 c5 HM gdone hor HG;generalize wa.drewN q3=wb at*;go_wp2_with fail;go_loopg [16,17,143] (b.length-0) (fun r bv cv iv wx=>∃(i:Nat) (bo c:Int) (o:List Int),r=b.length-i∧bv=I bo∧cv= .int .u64 c∧iv=I i∧i≤b.length∧M3 w gu gv gq a.length b.length v o q wx∧KM u v j g i bo c o);case atStart=>exact⟨0,0,0,u,rfl,rfl,rfl,rfl,Nat.zero_le _,HM1.out,KM.start ..⟩
     case round=>
      clear HM1;obtain⟨i,bo,c,o,rfl,rfl,rfl,rfl,hi,hM,hKM⟩:=hrel;obtain⟨bo0,bo1⟩:=hKM.hb;obtain⟨c0,c1⟩:=hKM.hc;have lu:=hM.mu.blk.lt;have lvv:=hM.mv.lt;by_cases hlt:i<b.length
      ·as_aux_lemma=>
       have hco:=hM.mu.cell (i:=i+j) (by omega);have hcv:=hM.cv hlt;have hf:wr.frozen? ⟨gu,i+j,none⟩=false:=hM.mu.blk.frozen _;have hN:=hKM.step ov hM.mu.ok ⟨g0,gB⟩ (by rw[HLU.out];omega) rfl rfl;have hp:=hM.mu.ok.at_ (i+j);have hx:=ov.at_ i;obtain⟨p,hpe⟩:∃x,o.getD (i+j) 0=x:=⟨_,rfl⟩;obtain⟨x,hxe⟩:∃x,v.getD i 0=x:=⟨_,rfl⟩;rw[hpe]at hco hp hN;rw[hxe]at hcv hx hN;obtain⟨hp0,hp1⟩:=hp;obtain⟨hmb0,hmb1⟩:=iU ⟨g0,gB⟩ hx;obtain⟨hx0,hx1⟩:=hx;have hand:=aVb (c:=c+g*x) (by omega) (by omega);have hMN:=hM.setU HAP.out (i+j) (x:=(bo+(p-(c+g*x)%4294967296))%4294967296) (by omega);have HN:=aH hN;have HMN:=aH hMN;clear hN hMN hKM hM hpe hxe;go_wp2;go_roundg (b.length-(i+1));case measure=>omega
       case rel=>exact⟨i+1,_,_,_,rfl,rfl,rfl,by go_num,by omega,HMN.out,HN.out⟩
      ·obtain rfl:i=b.length:=by omega
       have hco:=hM.mu.cell (i:=j+b.length) (by omega);have hf:wr.frozen? ⟨gu,j+b.length,none⟩=false:=hM.mu.blk.frozen _;have hL:=hKM.last lv hM.mu.ok (by rw[HLU.out];omega) rfl;have hp:=hM.mu.ok.at_ (j+b.length);rw[Nat.add_comm b.length j]at hL;obtain⟨p,hpe⟩:∃x,o.getD (j+b.length) 0=x:=⟨_,rfl⟩;rw[hpe]at hco hp hL;obtain⟨hp0,hp1⟩:=hp;have hMN:=hM.setU HAP.out (j+b.length) (x:=(bo+(p-c))%4294967296) (by omega);have HL:=aH hL;have HMN:=aH hMN;have hgq2:w.heap.size≤gq:=HAP.out.hq;have lq:=hM.mq.blk.lt;have hcq:=hM.mq.cell (i:=j) (by omega);have hfq:wr.frozen? ⟨gq,j,none⟩=false:=hM.mq.blk.frozen _;by_cases hneg:bo+(p-c)<0
       ·as_aux_lemma=>
        have t4:decide (bo+(p-c)<0)=true:=decide_eq_true hneg;have hW:=HL.out.wrong (by intro k hk;exact HZ.out k (by omega)) HMN.out.mu.ok HVP.out HD.out gle HDONE.out hneg;clear hL hMN hKM hM hpe;have hg1:1≤g:=by have:=HD.out.q0;omega
        have HW:=aH hW;clear hW;go_wp2_with fail;generalize wr.setCell ⟨gu,j+b.length,none⟩ (U ((bo+(p-c))%4294967296))=wb2 at*;have hlo1:(o.set (j+b.length) ((bo+(p-c))%4294967296)).length=u.length:=HL.out.len;generalize o.set (j+b.length) ((bo+(p-c))%4294967296)=o1 at*;have HLO:=aH hlo1;have HSAME:=aH HL.out.same;clear hlo1 hco hcq hfq hf HL;go_loopg [19,204] (b.length-0) (fun r cv iv wx=>∃(i:Nat) (c:Int) (o:List Int),r=b.length-i∧cv= .int .u64 c∧iv=I i∧i≤b.length∧M3 w gu gv gq a.length b.length v o q wx∧KA o1 v j i c o);case atStart=>exact⟨0,0,o1,rfl,rfl,rfl,Nat.zero_le _,HMN.out,KA.start ..⟩
        case round=>
         clear HMN;obtain⟨i,c2,o2,rfl,rfl,rfl,hi2,hM,hKA⟩:=hrel;obtain⟨c20,c21⟩:=hKA.hc;have lu:=hM.mu.blk.lt;have lvv:=hM.mv.lt;by_cases hlt:i<b.length
         ·as_aux_lemma=>
          have hco:=hM.mu.cell (i:=i+j) (by omega);have hcv:=hM.cv hlt;have hf:wr.frozen? ⟨gu,i+j,none⟩=false:=hM.mu.blk.frozen _;have hN:=hKA.step ov hM.mu.ok (by rw[HLO.out,HLU.out];omega) rfl;have hp:=hM.mu.ok.at_ (i+j);have hx:=ov.at_ i;obtain⟨p2,hpe⟩:∃x,o2.getD (i+j) 0=x:=⟨_,rfl⟩;obtain⟨x2,hxe⟩:∃x,v.getD i 0=x:=⟨_,rfl⟩;rw[hpe]at hco hp hN;rw[hxe]at hcv hx hN;obtain⟨hp0,hp1⟩:=hp;obtain⟨hx0,hx1⟩:=hx;have HN:=aH hN;have HM2:=aH hM;clear hN hKA hM hpe hxe;go_upto_region 37 with(fail)
          go_quiet (fail);go_wp2;go_roundg (b.length-(i+1));case measure=>omega
          case rel=>exact⟨i+1,_,_,rfl,rfl,by go_num,by omega,(HM2.out.drewN _).setU HAP.out (i+j) (x:=(c2+(p2+x2))%4294967296) (by omega),HN.out⟩
         ·obtain rfl:i=b.length:=by omega
          have hco:=hM.mu.cell (i:=j+b.length) (by omega);have hf:wr.frozen? ⟨gu,j+b.length,none⟩=false:=hM.mu.blk.frozen _;have hcq:=hM.mq.cell (i:=j) (by omega);have hfq:wr.frozen? ⟨gq,j,none⟩=false:=hM.mq.blk.frozen _;have lq:=hM.mq.blk.lt;have hlo:=HD.out.lo;have hV:=hKA.last lv hM.mu.ok (by rw[HLO.out,HLU.out];omega) (by intro k hk;rw[HSAME.out k hk];exact HZ.out k hk) HW.out.2 (by omega);rw[Nat.add_comm b.length j]at hV;have hp:=hM.mu.ok.at_ (j+b.length);obtain⟨p2,hpe⟩:∃x,o2.getD (j+b.length) 0=x:=⟨_,rfl⟩;rw[hpe]at hco hp hV;obtain⟨hp0,hp1⟩:=hp;have HN:=aH (HK.out.next (by rw[HLQ.out];omega) HD.out hV);have HMQ:=aH ((hM.setU HAP.out (j+b.length) (x:=(p2+c2)%4294967296) (by omega)).setQ HAP.out j (x:=g-1) ⟨by omega,by omega⟩);have HQ:=aH HW.out.1;clear hV hKA hM hpe hlo HW;go_wp2;go_roundg j;case measure=>omega
          case rel=>exact⟨_,_,by go_num,by omega,HMQ.out,by rw[HQ.out];exact HN.out⟩
       ·as_aux_lemma=>
        have t4:decide (bo+(p-c)<0)=false:=decide_eq_false hneg;have hR:=HL.out.right HMN.out.mu.ok HVP.out HD.out gle (by omega);have HN:=aH (HK.out.next (by rw[HLQ.out];omega) HD.out hR.2);have HQ:=aH hR.1;have HMQ:=aH (HMN.out.setQ HAP.out j (x:=g) ⟨g0,gB⟩);rw[Int.emod_eq_of_lt (show 0≤bo+(p-c) by omega) (by omega)]at HMQ HN;clear hR hL hMN hKM hM hpe;go_wp2;go_roundg j;case measure=>omega
        case rel=>exact⟨_,_,by go_num,by omega,HMQ.out,by rw[HQ.out];exact HN.out⟩
end Go.Proofs.YtenbglfkdldheaaGreatDoor
