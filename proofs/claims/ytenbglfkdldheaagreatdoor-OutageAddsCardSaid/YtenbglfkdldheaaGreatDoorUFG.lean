/- large.Gcd. -/
import Derived.Test.YtenbglfkdldheaaGreatDoorUE
set_option maxRecDepth 100000
set_option maxHeartbeats 4000000
namespace Go.Proofs.YtenbglfkdldheaaGreatDoor
open Go.RowKit
structure Nn(w:World)(A:Option Addr)(c:Nat)(ws:List Int):Prop where
 reads:Reads w w.heap.size 1 A ws.length (ws.map U)
 cap:ws.length≤c∧c≤maxLen
 ok:Ok ws
 nm:Nm ws
theorem Nn.ext{w w':World}{A:Option Addr}{c:Nat}{ws:List Int}(h:Nn w A c ws)(hb:Below w.heap.size w w'):Nn w' A c ws:=⟨(h.reads.below hb).more hb.size,h.cap,h.ok,h.nm⟩
theorem Nn.big{w:World}{A:Option Addr}{c:Nat}{ws:List Int}(h:Nn w A c ws):Big w (.agg #[.bool false,.slice A ws.length c]) (val ws):=by
 have h0:=bD h.ok;refine⟨A,c,ws,?_,h.reads,h.cap,h.ok,h.nm,by omega⟩;rw[decide_eq_false (by omega)]
theorem Nn.setVar{w:World}{A:Option Addr}{c:Nat}{ws:List Int}(h:Nn w A c ws){g:Nat}{b:Bool}{A':Option Addr}{n' c':Nat}(hv:Var w g (.bool b) (.slice A' n' c'))(x y:Value):Nn ((w.setCell ⟨g,0,none⟩ x).setCell ⟨g,1,none⟩ y) A c ws:=by
 have h1:∀u∈ws.map U,u≠ .bool b:=by intro u hu;obtain⟨z,_,rfl⟩:=List.mem_map.1 hu;intro e;cases e
 have h2:∀u∈ws.map U,u≠ .slice A' n' c':=by intro u hu;obtain⟨z,_,rfl⟩:=List.mem_map.1 hu;intro e;cases e
 refine⟨?_,h.cap,h.ok,h.nm⟩;have e:((w.setCell ⟨g,0,none⟩ x).setCell ⟨g,1,none⟩ y).heap.size=w.heap.size:=by simp[World.setCell]
 rw[e];refine rW (rW h.reads hv.c0 h1 x) (old:= .slice A' n' c') ?_ h2 y;rw[World.cell?_setCell_other _ _ _ _ (by simp)];exact hv.c1
theorem Big.nn{w:World}{v:Value}{z:Int}(h:Big w v z):∃A c ws,v= .agg #[.bool (decide (z<0)),.slice A ws.length c]∧Nn w A c ws∧val ws=(z.natAbs:Int):=by
 obtain⟨A,c,ws,h1,h2,h3,h4,h5,h6⟩:=h;exact⟨A,c,ws,h1,⟨h2,h3,h4,h5⟩,h6⟩
structure GcdI(w:World)(N:Nat)(G:Nat)(x y:List Int)(Ax Ay:Option Addr)(cx cy:Nat)(wr:World):Prop where
 vx:Var wr w.heap.size (.bool false) (.slice Ax x.length cx)
 vy:Var wr (w.heap.size+1) (.bool false) (.slice Ay y.length cy)
 vr:Var wr (w.heap.size+1+1) (.bool false) (.slice none 0 0)
 nx:Nn wr Ax cx x
 ny:Nn wr Ay cy y
 fx:Fits N (val x)
 fy:Fits N (val y)
 gcd:Int.gcd (val x) (val y)=G
 below:Below w.heap.size w wr
theorem aPq{x y:Int}(hx:0≤x)(hy:0≤y):Int.gcd y (x%y)=Int.gcd x y:=by
 obtain⟨n,rfl⟩:=Int.eq_ofNat_of_zero_le hx;obtain⟨m,rfl⟩:=Int.eq_ofNat_of_zero_le hy;have e:((n:Int)%(m:Int))=((n%m:Nat):Int):=by simp
 rw[e,Int.gcd_natCast_natCast,Int.gcd_natCast_natCast,Nat.gcd_comm n m,Nat.gcd_comm m (n%m),←Nat.gcd_rec]
theorem aJa(u v:Value)(x y:Int)(w:World)(hx:Big w u x)(hy:Big w v y){N:Nat}(hN:N≤900000000)(fx:Fits N x)(fy:Fits N y):Calls Tryz.prog 147 #[u,v] w (RetBig w (Int.gcd x y)):=by
 obtain⟨A,ca,wx,rfl,hnx,hvx⟩:=hx.nn;obtain⟨B,cb,wy,rfl,hny,hvy⟩:=hy.nn;have hb1:Below w.heap.size w (((w.alloc (.cells #[.bool false,.slice A wx.length ca] aK)).alloc (.cells #[.bool false,.slice B wy.length cb] aK)).alloc (.cells #[.bool false,.slice none 0 0] aK)):=(((Below.refl _ _).alloc lR _).alloc (by simp) _).alloc (by simp;omega) _;have hX:=(((Blk.new w aK #[.bool false,.slice A wx.length ca]).alloc (.cells #[.bool false,.slice B wy.length cb] aK)).alloc (.cells #[.bool false,.slice none 0 0] aK));have hY:=((Blk.new (w.alloc (.cells #[.bool false,.slice A wx.length ca] aK)) aK #[.bool false,.slice B wy.length cb]).alloc (.cells #[.bool false,.slice none 0 0] aK));have hR:=(Blk.new ((w.alloc (.cells #[.bool false,.slice A wx.length ca] aK)).alloc (.cells #[.bool false,.slice B wy.length cb] aK)) aK #[.bool false,.slice none 0 0]);rw[World.size_alloc w]at hY;rw[World.size_alloc _,World.size_alloc w]at hR;have hI:GcdI w N (Int.gcd x y) wx wy A B ca cb (((w.alloc (.cells #[.bool false,.slice A wx.length ca] aK)).alloc (.cells #[.bool false,.slice B wy.length cb] aK)).alloc (.cells #[.bool false,.slice none 0 0] aK)):=⟨hX.var,hY.var,hR.var,hnx.ext hb1,hny.ext hb1,by unfold Fits at*;omega,by unfold Fits at*;omega,by rw[hvx,hvy];simp[Int.gcd],hb1⟩
 have HI:=aH hI;clear hI hX hY hR hb1 hnx hny hvx hvy hx hy fx fy;generalize decide (x<0)=bx at*;generalize decide (y<0)=by_ at*;generalize Int.gcd x y=G at*;unfold aK at*;go_enter Tryz.func147,Tryz.ntmps147;go_wp2_with fail;generalize((w.alloc (Obj.cells #[Value.bool false,Value.slice A wx.length ca] 120)).alloc (Obj.cells #[Value.bool false,Value.slice B wy.length cb] 120)).alloc (Obj.cells #[Value.bool false,Value.slice none 0 0] 120)=W0 at*;go_loopg [6] (val wy).toNat (fun r _ wr=>∃Ax Ay cx cy p q,r=(val q).toNat∧GcdI w N G p q Ax Ay cx cy wr);case atStart=>exact⟨_,_,_,_,_,_,rfl,HI.out⟩
 case round=>
  clear HI;obtain⟨Ax,Ay,cx,cy,p,q,rfl,hG⟩:=hrel;obtain⟨wa,rfl⟩:=wE wr;have x0:=hG.vx.c0;have x1:=hG.vx.c1;have y0:=hG.vy.c0;have y1:=hG.vy.c1;have lx:=hG.vr.lt;have hq0:=bD hG.ny.ok;have HS:=aH (uX _ _ wa hG.ny.big);have HG:=aH hG;clear hG;by_cases h0:val q=0
  ·have hsg:(val q).sign=0:=by rw[h0];rfl
   rw[hsg]at HS;go_wp2_with fail;refine HS.out.mono ?_;rintro e w1 ⟨rfl,hb1⟩;have v1:=HG.out.vx.below hb1;have v3:=HG.out.vr.below hb1;have hg:=HG.out.gcd;rw[h0,Int.gcd_zero_right]at hg;have hp0:=bD HG.out.nx.ok;have hB:=(HG.out.nx.ext hb1).big;have e:val p=(G:Int):=by omega
   rw[e]at hB;have HQ:=aH (show RetBig w G (.returned (.agg #[.bool false,.slice Ax p.length cx])) ((w1.setCell ⟨w.heap.size+1+1,0,none⟩ (.bool false)).setCell ⟨w.heap.size+1+1,1,none⟩ (.slice Ax p.length cx))from⟨_,rfl,hB.setVar v3 _ _,((HG.out.below.trans (hb1.mono HG.out.below.size)).setCell (by simp only;omega) _).setCell (by simp only;omega) _⟩);have HR:=aH (v3.set (.bool false) (.slice Ax p.length cx));have a0:=v1.c0;have a1:=v1.c1;have b0:=v3.c0;have b1:=v3.c1;have c0:=v3.f0;have c1:=v3.f1;clear v1 v3 hg hB e hb1 HS h0 hsg x0 x1 y0 y1;go_wp2;have z0:=HR.out.c0;have z1:=HR.out.c1;generalize(w1.setCell ⟨w.heap.size+1+1,0,none⟩ (.bool false)).setCell ⟨w.heap.size+1+1,1,none⟩ (.slice Ax p.length cx)=W at*;exact bodyPost_ret (v:= .agg #[.bool false,.slice Ax p.length cx]) (by simp[results,Tryz.results147,go_sem,z0,z1]) rfl HQ.out
  ·have hsg:(val q).sign=1:=Int.sign_eq_one_of_pos (by omega);rw[hsg]at HS;go_wp2_with fail;refine HS.out.mono ?_;rintro e w1 ⟨rfl,hb1⟩;have hG1:GcdI w N G p q Ax Ay cx cy w1:=⟨HG.out.vx.below hb1,HG.out.vy.below hb1,HG.out.vr.below hb1,HG.out.nx.ext hb1,HG.out.ny.ext hb1,HG.out.fx,HG.out.fy,HG.out.gcd,HG.out.below.trans (hb1.mono HG.out.below.size)⟩;have lp:=lO hG1.nx.ok hG1.nx.nm (k:=N) (by have:=hG1.fx;unfold Fits at this;omega);have lq:=lO hG1.ny.ok hG1.ny.nm (k:=N) (by have:=hG1.fy;unfold Fits at this;omega);have HD:=aH (aDa p q Ax Ay cx cy w1 hG1.nx.reads hG1.ny.reads hG1.nx.ok hG1.ny.ok hG1.nx.nm hG1.ny.nm (by omega) (by omega) (by omega));have a0:=hG1.vx.c0;have a1:=hG1.vx.c1;have b0:=hG1.vy.c0;have b1:=hG1.vy.c1;have HG1:=aH hG1;have hqp:0<val q:=by omega
   clear hG1 HG hb1 HS h0 hsg x0 x1 y0 y1;go_wp2_with fail;refine HD.out.mono ?_;rintro e w2 ⟨Aq,cq,Ar,cr,qq,r,rfl,-,hrr,-,orr,-,vr,⟨-,lr⟩,hb2⟩;have HVX:=aH (HG1.out.vx.below hb2);have HVY:=aH (HG1.out.vy.below hb2);have HVR:=aH (HG1.out.vr.below hb2);have HNY:=aH (HG1.out.ny.ext hb2);have HB2:=aH (HG1.out.below.trans (hb2.mono HG1.out.below.size));have HRR:=aH hrr;have HVR2:=aH vr;have l2:=HVR.out.lt;clear HD hb2 hrr vr a0 a1 b0 b1;go_upto_region 4 with(fail)
   refine aJ (fun w'=>w'.cell? ⟨w.heap.size+1,0,none⟩=some (.bool false)∧w'.cell? ⟨w.heap.size+1,1,none⟩=some (.slice Ay q.length cy)) 5 (by kernel_rfl) ?_;refine eA (i:=0) (oi:=_) (v:= .agg #[.bool false,.slice Ay q.length cy]) rfl (by kernel_rfl) (by kernel_rfl) (by kernel_rfl) (by kernel_rfl) (by kernel_rfl) (by kernel_rfl) (fun _ _ _ h=>h) (Or.inl ⟨by rfl,?_⟩) ⟨HVY.out.drew.c0,HVY.out.drew.c1⟩ ?_
   ·rintro w ⟨s0,s1⟩;go_simp
   simp only[Act.put,List.setIfInBounds_toArray];refine eA (i:=1) (oi:=_) (v:= .slice Ar r.length cr) rfl (by kernel_rfl) (by kernel_rfl) (by kernel_rfl) (by kernel_rfl) (by kernel_rfl) (by kernel_rfl) (fun _ _ _ h=>h) (Or.inl ⟨by rfl,?_⟩) ⟨HVY.out.drew.c0,HVY.out.drew.c1⟩ ?_
   ·intro w hSw;go_simp
   simp only[Act.put];refine on1 2 fun K hK=>?_;go_simp;go_at_call 184;refine(rX r Ar cr _ HRR.out.drew lr).mono ?_;rintro e w3 ⟨A3,c3,rfl,hr3,⟨hc3,hm3⟩,hb3⟩;have HVX3:=aH (HVX.out.drew.below hb3);have HVY3:=aH (HVY.out.drew.below hb3);have HVR3:=aH (HVR.out.drew.below hb3);have HNY3:=aH (HNY.out.ext (cC hb3));have HB3:=aH (HB2.out.trans ((cC hb3).mono HB2.out.size));have HNM:=aH (fH false r A3 c3 w3 hr3 hc3 hm3 orr);refine hK.out _ _ (fun _=>⟨HVY3.out.c0,HVY3.out.c1⟩) ?_;clear hK K hb3 hr3;refine on1 3 fun K hK=>?_;go_simp;go_at_call 168;refine HNM.out.mono ?_;rintro e w4 ⟨v4,rfl,hv4,hb4⟩;obtain⟨A4,c4,r4,rfl,hn4,hv4'⟩:=hv4.nn;have hr0:=bD orr;have HE4:=aH (show val r4=val p%val q by rw[hv4',tW false hr0];exact HVR2.out);have e4:sgn false (val r)=val r:=rfl;rw[e4,decide_eq_false (show¬val r<0 by omega)]at*;have HVX4:=aH (HVX3.out.below hb4);have HVY4:=aH (HVY3.out.below hb4);have HVR4:=aH (HVR3.out.below hb4);have HNY4:=aH (HNY3.out.ext hb4);have HB4:=aH (HB3.out.trans (hb4.mono HB3.out.size));have HN4:=aH hn4;refine hK.out _ _ (fun _=>⟨HVY4.out.c0,HVY4.out.c1⟩) ?_;clear hK K hb4 hn4 hv4 hv4' e4;have t1:=HVX4.out.c0;have t2:=HVX4.out.c1;have t3:=HVX4.out.f0;have t4:=HVX4.out.f1;have hne:w.heap.size≠w.heap.size+1:=by omega
   have e5:=HVY4.out.far hne (.bool false) (.slice Ay q.length cy);refine on1 4 fun K hK=>?_;go_simp;refine hK.out _ _ (fun _=>⟨e5.c0,e5.c1⟩) ?_;clear hK K t1 t2 t3 t4;have t5:=e5.c0;have t6:=e5.c1;have t7:=e5.f0;have t8:=e5.f1;refine on1 5 fun K hK=>?_;go_simp;refine hK.out _ _ (fun h=>absurd h (by decide)) ?_;clear hK K t5 t6 t7 t8;refine aG (by kernel_rfl) ?_ _;have hmod:=Int.emod_lt_of_pos (val p) hqp;have hmod0:=Int.emod_nonneg (val p) (show val q≠0 by omega);have HF:Hid (GcdI w N G q r4 Ay A4 cy c4 ((((w4.setCell ⟨w.heap.size,0,none⟩ (.bool false)).setCell ⟨w.heap.size,1,none⟩ (.slice Ay q.length cy)).setCell ⟨w.heap.size+1,0,none⟩ (.bool false)).setCell ⟨w.heap.size+1,1,none⟩ (.slice A4 r4.length c4))):=aH ⟨(HVX4.out.set _ _).far (by omega) _ _,e5.set _ _,(HVR4.out.far (by omega) _ _).far (by omega) _ _,(HNY4.out.setVar HVX4.out _ _).setVar e5 _ _,(HN4.out.setVar HVX4.out _ _).setVar e5 _ _,HG1.out.fy,by rw[HE4.out];exact HG1.out.fy.mod hqp,by rw[HE4.out,aPq (bD HG1.out.nx.ok) (bD HG1.out.ny.ok)];exact HG1.out.gcd,(((HB4.out.setCell (by simp only;omega) _).setCell (by simp only;omega) _).setCell (by simp only;omega) _).setCell (by simp only;omega) _⟩
   have hE4:=HE4.out;go_wp2;go_roundg (val r4).toNat;case measure=>omega
   case rel=>exact⟨_,_,_,_,_,_,rfl,HF.out⟩
theorem gF(N:Nat)(h:1≤N)(k:Int)(h0:-4294967296<k)(h1:k<4294967296):Fits N k:=by
 refine Fits.mono (n:=1) ?_ h;unfold Fits;have e:P32 1=4294967296:=by decide
 omega
theorem Big.flag{w:World}{b:Bool}{A:Option Addr}{n c:Nat}{z:Int}(h:Big w (.agg #[.bool b,.slice A n c]) z):b=decide (z<0):=by
 obtain⟨A',c',ws,e,_⟩:=h;injection e with e;have:=congrArg (fun a:Array Value=>a[0]?) e;simpa using this
end Go.Proofs.YtenbglfkdldheaaGreatDoor
