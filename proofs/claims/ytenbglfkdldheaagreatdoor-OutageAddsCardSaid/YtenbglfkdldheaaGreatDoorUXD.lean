/- shift.Between. The transfer factors: plain. shift.without: a network without one branch. slices.Insert at numbers: one number. -/
import Derived.Test.YtenbglfkdldheaaGreatDoorUXB
import Derived.Lib.AppendZerosOnto
import Derived.Lib.Overlaps
set_option maxRecDepth 100000
set_option maxHeartbeats 16000000
namespace Go.Proofs.YtenbglfkdldheaaGreatDoor
open Go.RowKit
theorem tM(x:ByteArray):∀(zs:List ByteArray) (i:Nat),Lib.idxFromS zs x i=-1∨((i:Int)≤Lib.idxFromS zs x i∧Lib.idxFromS zs x i<(i:Int)+zs.length)
 |[],i=> .inl rfl
 |z::zs,i=>by
  rw[Lib.idxFromS];have ih:=tM x zs (i+1);simp only[List.length_cons];split<;>omega
theorem aKu(zs:List ByteArray)(x:ByteArray):Lib.idxOfS zs x=-1∨(0≤Lib.idxOfS zs x∧Lib.idxOfS zs x<zs.length):=by
 have:=tM x zs 0;simpa[Lib.idxOfS]using this
def grN(n:NetD)(u v:Nat):List Rat:=grK (bB n) (toL n) (bLQ n) (thN n (gr0 u v (nbN n))) n.branches.length
theorem oP(n:NetD)(u v:Nat):(grN n u v).length=n.branches.length:=aJc _ _ _ _ _
theorem aKv{u v nb:Nat}:FitL 4000 (gr0 u v nb):=fun i=>by
 have h:∀j,(List.replicate nb (0:Rat)).getD j 0=0:=fun j=>by
  rw[gD,List.getElem?_replicate];split<;>rfl
 have f0:FitR 1 (0:Rat):=eN;have f1:FitR 1 (1:Rat):=nB;have g1:∀j,FitR 10 (((List.replicate nb (0:Rat)).set u ((List.replicate nb (0:Rat)).getD u 0+1)).getD j 0):=fun j=>by
  rw[eL,h,h];split
  ·exact(eK f0 f1).mono (by omega)
  ·exact f0.mono (by omega)
 unfold gr0;rw[eL];split
 ·exact(fK (g1 v) (f1.mono (show 1≤2 by omega))).mono (by omega)
 ·exact(g1 i).mono (by omega)
theorem aCo{n:NetD}(h:VNet n){base g:Nat}{w:World}(hm:MF w base g n){u v:Nat}(hu:u<nbN n)(hv:v<nbN n): Calls Tryz.prog 63 #[.pointer (some ⟨g,0,none⟩),I u,I v] w (mQ w (grN n u v)):=by
 obtain⟨rs,qs,iv,vs,hS,hL⟩:=hm;change LM w base iv vs (tR (fwM n) (aF n).length).1 at hL;rw[aPn h]at hL;have hl:=iK h;have hn:=aJd h;have hb:=h.hb;exact aPw base g rs _ qs _ iv (mO n) vs (nbN n) (nfN n) n.branches.length u v w hS hL rfl (by unfold nbN;omega) rfl (by omega) (qM n) oC (N:=200000) (by decide) (by simp[isO,bB]) (by simp[isO,toL]) (by simp[tsO,bLQ]) (by omega) (aGt h) (aGu h) (vK h) hu hv (fun k hk=>aGs h aKv hk) (uB h aKv)
def tS(n:NetD)(a b:ByteArray):List Rat×Int:=if aX n≠0 then([],aX n)else if Lib.idxOfS n.nodes a<0∨Lib.idxOfS n.nodes b<0 then([],6)else if at_ (aC n) (aP n a)≠at_ (aC n) (aP n b)then([],15)
 else if(grN n (aP n a).toNat (aP n b).toNat).all bK=true then(grN n (aP n a).toNat (aP n b).toNat,0)else([],2)
def rK(w:World)(r:List Rat×Int)(e:Ending)(w':World):Prop:=∃v,e= .returned (.tuple #[v,I r.2])∧(r.2=0→r.1.all bK=true∧Row w' w.heap.size 51 1 v r.1.length ((mkS (r.1.map aQ)).map Sv))∧(r.2≠0→v= .slice none 0 0)∧Below w.heap.size w w'
theorem dL{w w':World}{r:List Rat×Int}{c:Int}(h:r=([],c))(hc:c≠0)(hb:Below w.heap.size w w'):rK w r (.returned (.tuple #[.slice none 0 0,I c])) w':=by
 rw[h];exact⟨_,rfl,fun k=>absurd k hc,fun _=>rfl,hb⟩
theorem sQ{w w0:World}{l:List Rat}{e:Ending}{w':World}(h:aYa w l e w')(hb:Below w0.heap.size w0 w):rK w0 (if l.all bK=true then(l,0)else([],2)) e w':=by
 obtain⟨v,h1,h2,h3,h4⟩:=h;cases hf:l.all bK with
 |true=>
  rw[aCl hf]at h1;rw[if_pos rfl];exact⟨v,h1,fun _=>⟨hf,(h2 hf).less hb.size⟩,fun k=>absurd rfl k,hb.trans (h4.mono hb.size)⟩
 |false=>
  rw[txV,if_neg (by rw[hf];decide)]at h1;rw[if_neg (by decide)];exact⟨v,h1,fun k=>absurd k (by decide),fun _=>h3 hf,hb.trans (h4.mono hb.size)⟩
theorem aFr(n:NetD)(v:NetV)(a b:ByteArray)(w:World)(hN:Net w n v)(htab:Tab w):Calls Tryz.prog 46 #[v.val n,.string a,.string b] w (rK w (tS n a b)):=by
 have hz:=aD w (Obj.cells (v.parts n) 29);have HN:=aH (hN.below hz);have HG:=aH (Blk.new w 29 (v.parts n));have HB:=aH hz;have HTB:=aH htab;clear hz hN htab;obtain⟨na,nc,sa,sc,bra,brc,ga,gc,la,lc,ta,tc⟩:=v;unfold NetV.val NetV.parts at*;simp only at HG HB HN⊢;go_enter Tryz.func46,Tryz.ntmps46;go_upto_region 1 with(fail)
 generalize w.alloc (Obj.cells #[.slice na n.nodes.length nc,.slice sa n.switches.length sc,.slice bra n.branches.length brc,.slice ga n.gens.length gc,.slice la n.loads.length lc,.slice ta n.stores.length tc] 29)=w0 at*;have x0:=HG.out.cell 0;have x1:=HG.out.cell 1;have x2:=HG.out.cell 2;have x3:=HG.out.cell 3;have x4:=HG.out.cell 4;have x5:=HG.out.cell 5;have HC:=aH (iR n _ w0 HN.out);unfold NetV.val NetV.parts at HC;simp only at HC;go_wp2_with fail;refine HC.out.mono ?_;rintro e w1 ⟨rfl,hb⟩;clear HC;clear x0 x1 x2 x3 x4 x5;have hbs:=HB.out.size;replace HB:=aH (HB.out.trans (hb.mono hbs));clear hbs;replace HN:=aH (HN.out.below hb);replace HG:=bL HG hb;clear hb;by_cases hc:aX n=0
 ·have HV:=aH (iH hc);have HC0:=aH hc;rw[hc];clear hc;go_upto_region 4 with(fail)
  have hb:=aT w1;have hbs:=HB.out.size;replace HB:=aH (HB.out.trans (hb.mono hbs));clear hbs;replace HN:=aH (HN.out.below hb);replace HG:=bL HG hb;clear hb;refine aJ (fun w'=>w'.cell? ⟨w.heap.size,0,none⟩=some (.slice na n.nodes.length nc)) 7 (by kernel_rfl) ?_;generalize w1.drew=w2 at*;refine tq 0 (.pointer (some ⟨w.heap.size,0,none⟩)) rfl ?_ (HG.out.cell 0) ?_
  ·intro w hSw;have s0:=hSw;go_simp
  refine tq 1 (.slice na n.nodes.length nc) rfl ?_ (HG.out.cell 0) ?_
  ·intro w hSw;have s0:=hSw;go_simp
  refine tq 2 (.string a) rfl ?_ (HG.out.cell 0) ?_
  ·intro w hSw;have s0:=hSw;go_simp
  refine tq 4 (.pointer (some ⟨w.heap.size,0,none⟩)) rfl ?_ (HG.out.cell 0) ?_
  ·intro w hSw;have s0:=hSw;go_simp
  refine tq 5 (.slice na n.nodes.length nc) rfl ?_ (HG.out.cell 0) ?_
  ·intro w hSw;have s0:=hSw;go_simp
  refine tq 6 (.string b) rfl ?_ (HG.out.cell 0) ?_
  ·intro w hSw;have s0:=hSw;go_simp
  refine on1 3 fun K hK=>?_;go_simp;go_at_call 18;refine(kV n.nodes n.nodes.length na nc a w2 _ rfl HN.out.net.nodes (by have:=HV.out.hn;omega)).mono ?_;rintro e w' ⟨rfl,rfl⟩;refine hK.out _ _ (fun _=>(HG.out.cell 0)) ?_;clear hK K;refine on1 7 fun K hK=>?_;go_simp;go_at_call 18;refine(kV n.nodes n.nodes.length na nc b w2 _ rfl HN.out.net.nodes (by have:=HV.out.hn;omega)).mono ?_;rintro e w' ⟨rfl,rfl⟩;refine hK.out _ _ (fun _=>(HG.out.cell 0)) ?_;clear hK K;refine on1 8 fun K hK=>?_;go_simp;refine hK.out _ _ (fun _=>(HG.out.cell 0)) ?_;clear hK K;refine on1 9 fun K hK=>?_;go_simp;refine hK.out _ _ (fun h=>absurd h (by decide)) ?_;clear hK K;refine aG (by kernel_rfl) ?_ _;generalize hia:Lib.idxOfS n.nodes a=ia at*;generalize hib:Lib.idxOfS n.nodes b=ib at*;by_cases ha:ia<0
  ·have t0:decide (ia<0)=true:=decide_eq_true ha;have HZ:=aH (show tS n a b=([],6) by rw[tS,if_neg (fun k=>k HC0.out),if_pos (.inl (by rw[hia];exact ha))]);clear hia hib;go_wp2;go_ret2;exact dL HZ.out (by decide) HB.out
  ·have t0:decide (ia<0)=false:=decide_eq_false ha;by_cases hb0:ib<0
   ·have t1:decide (ib<0)=true:=decide_eq_true hb0;have HZ:=aH (show tS n a b=([],6) by rw[tS,if_neg (fun k=>k HC0.out),if_pos (.inr (by rw[hib];exact hb0))]);clear hia hib;go_wp2;go_ret2;exact dL HZ.out (by decide) HB.out
   ·have t1:decide (ib<0)=false:=decide_eq_false hb0;have x0:=HG.out.cell 0;have x1:=HG.out.cell 1;have x2:=HG.out.cell 2;have x3:=HG.out.cell 3;have x4:=HG.out.cell 4;have x5:=HG.out.cell 5;have HC:=aH (jG n _ w2 HN.out.net HV.out);unfold NetV.val NetV.parts at HC;simp only at HC;go_wp2_with fail;refine HC.out.mono ?_;rintro e w2 ⟨base,g,rfl,hbs,hMF,hb⟩;clear HC;clear x0 x1 x2 x3 x4 x5;clear t0 t1;have hbs:=HB.out.size;replace HB:=aH (HB.out.trans (hb.mono hbs));clear hbs;replace HN:=aH (HN.out.below hb);replace HG:=bL HG hb;clear hb;have HMF:=aH hMF;clear hMF hbs;have hja:∃j:Nat,ia=j:=Int.eq_ofNat_of_zero_le (by omega);have hjb:∃j:Nat,ib=j:=Int.eq_ofNat_of_zero_le (by omega);obtain⟨ja,rfl⟩:=hja;obtain⟨jb,rfl⟩:=hjb;have hra:=aKu n.nodes a;have hrb:=aKu n.nodes b;rw[hia]at hra;rw[hib]at hrb;have hla:ja<n.nodes.length:=by omega
    have hlb:jb<n.nodes.length:=by omega
    go_upto_region 8 with(fail)
    obtain⟨rs,qs,iv,vs,hS,_⟩:=HMF.out;have HS:=aH hS;clear hS;obtain⟨b0,o0,k0,e0,_,ca⟩:=HS.out.intAt (j:=0) (by decide) (k:=ja) (by rw[show(isO (aI n) (aC n) (bB n) (toL n) (aF n) 0).length=n.nodes.length from cE HV.out];exact hla);obtain⟨b1,o1,k1,e1,_,cb⟩:=HS.out.intAt (j:=0) (by decide) (k:=jb) (by rw[show(isO (aI n) (aC n) (bB n) (toL n) (aF n) 0).length=n.nodes.length from cE HV.out];exact hlb);rw[show(isO (aI n) (aC n) (bB n) (toL n) (aF n) 0).length=n.nodes.length from cE HV.out]at e0 e1;have e2:=e0.symm.trans e1;injection e2 with e2;injection e2 with e2;injection e2 with e2 e3 _;subst e2 e3;have d0:w2.cell? ⟨g,0,none⟩=some (.slice (some ⟨b0,o0,none⟩) n.nodes.length k0):=by rw[←e0];exact HS.out.cellI (j:=0) (by decide)
    change _=some (I ((aI n).getD ja 0))at ca;change _=some (I ((aI n).getD jb 0))at cb;have hua:(aI n).getD ja 0=aP n a:=by rw[aP,at_,hia,Int.toNat_natCast]
    have hub:(aI n).getD jb 0=aP n b:=by rw[aP,at_,hib,Int.toNat_natCast]
    rw[hua]at ca;rw[hub]at cb;have hba:=nC HV.out (aP n a) (by rw[←hua];exact bH (by rw[cE HV.out];exact hla));have hbb:=nC HV.out (aP n b) (by rw[←hub];exact bH (by rw[cE HV.out];exact hlb));have hja2:(ja:Int)<(n.nodes.length:Int):=by omega
    have hjb2:(jb:Int)<(n.nodes.length:Int):=by omega
    clear hua hub e0 e1 hra hrb hla hlb;obtain⟨u,hu⟩:∃u:Nat,aP n a=u:=Int.eq_ofNat_of_zero_le hba.1;obtain⟨x,hx⟩:∃x:Nat,aP n b=x:=Int.eq_ofNat_of_zero_le hbb.1;rw[hu]at ca hba;rw[hx]at cb hbb;go_quiet (fail);go_upto_region 9 with(fail)
    have hb:=fW w2 nq;have HS2:=aH (HS.out.call hb);replace HMF:=aH (cM HMF.out hb);have hbs:=HB.out.size;replace HB:=aH (HB.out.trans (hb.mono hbs));clear hbs;replace HN:=aH (HN.out.below hb);replace HG:=bL HG hb;clear hb;clear HS ca cb d0;generalize w2.drewN nq=w9 at*;obtain⟨b0,o0,k0,e0,_,ca⟩:=HS2.out.intAt (j:=1) (by decide) (k:=u) (by show u<(aC n).length;have:=hba.2;unfold nbN at this;omega);obtain⟨b1,o1,k1,e1,_,cb⟩:=HS2.out.intAt (j:=1) (by decide) (k:=x) (by show x<(aC n).length;have:=hbb.2;unfold nbN at this;omega);have e2:=e0.symm.trans e1;injection e2 with e2;injection e2 with e2;injection e2 with e2 e3 _;subst e2 e3;have d0:w9.cell? ⟨g,1,none⟩=some (.slice (some ⟨b0,o0,none⟩) (nbN n) k0):=by
     refine Eq.trans (HS2.out.cellI (j:=1) (by decide)) ?_;rw[e0];rfl
    change _=some (I ((aC n).getD u 0))at ca;change _=some (I ((aC n).getD x 0))at cb;have hul:(u:Int)<(nbN n:Int):=hba.2;have hxl:(x:Int)<(nbN n:Int):=hbb.2;clear HS2 e0 e1 hba hbb;have hia2:at_ (aC n) (aP n a)=(aC n).getD u 0:=by rw[hu,at_,Int.toNat_natCast]
    have hib2:at_ (aC n) (aP n b)=(aC n).getD x 0:=by rw[hx,at_,Int.toNat_natCast]
    generalize(aC n).getD u 0=iu at*;generalize(aC n).getD x 0=ix at*;by_cases hi:iu=ix
    ·have te:(iu !=ix)=false:=by rw[hi];simp
     have HQ:=aH (show tS n a b=if(grN n u x).all bK=true then(grN n u x,0)else([],2) by
     rw[tS,if_neg (fun k=>k HC0.out),if_neg (by rw[hia,hib];omega),if_neg (fun k=>k (by rw[hia2,hib2,hi])),hu,hx];simp only[Int.toNat_natCast])
     clear hi hia hib hia2 hib2 hu hx;go_quiet (fail);go_upto_region 11 with(fail)
     have hb:=fW w9 nq;replace HMF:=aH (cM HMF.out hb);have hbs:=HB.out.size;replace HB:=aH (HB.out.trans (hb.mono hbs));clear hbs;replace HN:=aH (HN.out.below hb);replace HG:=bL HG hb;clear hb;clear te ca cb d0;generalize w9.drewN nq=wb at*;have HC:=aH (aCo HV.out HMF.out (u:=u) (v:=x) (by omega) (by omega));go_wp2_with fail;refine HC.out.mono ?_;rintro e w3 ⟨v5,rfl,hr5,hb⟩;clear HC;have hbs:=HB.out.size;replace HB:=aH (HB.out.trans (hb.mono hbs));clear hbs;replace HN:=aH (HN.out.below hb);replace HG:=bL HG hb;clear hb;obtain⟨A5,c5,rfl⟩:=hr5.val;rw[oP]at hr5⊢;have HC:=aH (fX (grN n u x) n.branches.length A5 c5 w3 hr5.rv (by have:=HV.out.hb;omega) (aO HTB.out HB.out));go_wp2_with fail;refine HC.out.mono ?_;rintro e w4 ⟨v6,rfl,h1,h2,hb⟩;clear HC;have HR:=aH (sQ ⟨v6,rfl,h1,h2,hb⟩ HB.out);rw[←HQ.out]at HR;clear h1 h2 hb hr5 HQ;go_wp2;go_ret2;exact HR.out
    ·have te:(iu !=ix)=true:=bne_iff_ne.2 hi;have HZ:=aH (show tS n a b=([],15) by rw[tS,if_neg (fun k=>k HC0.out),if_neg (by rw[hia,hib];omega),if_pos (by rw[hia2,hib2];exact hi)]);clear hia hib hia2 hib2 hi;go_quiet (fail);have hb:=fW w9 nq;have hbs:=HB.out.size;replace HB:=aH (HB.out.trans (hb.mono hbs));clear hbs;replace HN:=aH (HN.out.below hb);replace HG:=bL HG hb;clear hb;go_wp2;go_ret2;exact dL HZ.out (by decide) HB.out
 ·have tc0:(aX n !=0)=true:=bne_iff_ne.2 hc;have HZ:=aH (show tS n a b=([],aX n) by rw[tS,if_pos hc]);go_wp2;go_ret2;exact dL HZ.out (hc) HB.out
theorem rL(x:Int):∀(zs:List Int) (i:Nat),x∈zs→(i:Int)≤Lib.idxFrom zs x i∧Lib.idxFrom zs x i<(i:Int)+zs.length∧zs[(Lib.idxFrom zs x i-i).toNat]?=some x
 |[],i,h=>by cases h
 |z::zs,i,h=>by
  rw[Lib.idxFrom];by_cases e:z=x
  ·rw[if_pos e];refine⟨by omega,by simp only[List.length_cons];omega,?_⟩;rw[Int.sub_self];simp[e]
  ·rw[if_neg e];have hm:x∈zs:=by
    rcases List.mem_cons.1 h with h|h
    ·exact absurd h.symm e
    ·exact h
   obtain⟨h1,h2,h3⟩:=rL x zs (i+1) hm;refine⟨by omega,by simp only[List.length_cons];omega,?_⟩;rw[show(Lib.idxFrom zs x (i+1)-(i:Int)).toNat=(Lib.idxFrom zs x (i+1)-((i+1:Nat):Int)).toNat+1 by omega,List.getElem?_cons_succ];exact h3
theorem aTs{zs:List Int}{x:Int}(h:x∈zs):0≤Lib.idxOf zs x∧Lib.idxOf zs x<zs.length∧zs[(Lib.idxOf zs x).toNat]?=some x:=by
 have:=rL x zs 0 h;simpa[Lib.idxOf]using this
def aCp(n:NetD)(b:Nat):Nat:=(Lib.idxOf (aC n) ((aC n).getD b 0)).toNat
def xO(M:List (List Rat))(b:Nat)(gr:List Rat):Nat→List (List Rat)
 |0=>M
 |j+1=>(xO M b gr j).set j (((xO M b gr j).getD j []).set b (gr.getD j 0))
def nX(n:NetD):Nat→List (List Rat)
 |0=>List.replicate n.branches.length (List.replicate (nbN n) 0)
 |j+1=>xO (nX n j) ((aF n).getD j 0).toNat (grN n ((aF n).getD j 0).toNat (aCp n ((aF n).getD j 0).toNat)) n.branches.length
def aNy(n:NetD):List (List Rat):=nX n (nfN n)
def aIe(n:NetD):MT×Int:=if aX n≠0 then([],aX n)else txM (aNy n)
theorem aNz{M:List (List Rat)}{n k:Nat}(h:Rect M n k)(i b:Nat)(x:Rat):Rect (M.set i ((M.getD i []).set b x)) n k:=by
 refine⟨by rw[List.length_set];exact h.len,fun r hr=>?_⟩;by_cases hi:i<M.length
 ·rcases List.mem_or_eq_of_mem_set hr with h1|h1
  ·exact h.row r h1
  ·rw[h1,List.length_set];exact h.rowlen (by rw[←h.len];exact hi)
 ·rw[List.set_eq_of_length_le (by omega)]at hr;exact h.row r hr
theorem sR{M:List (List Rat)}{n k:Nat}(h:Rect M n k)(b:Nat)(gr:List Rat):∀j,Rect (xO M b gr j) n k
 |0=>h
 |j+1=>aNz (sR h b gr j) j b _
theorem sS(n:NetD):∀j,Rect (nX n j) n.branches.length (nbN n)
 |0=>⟨by simp[nX],fun r hr=>by rw[nX]at hr;rw[(List.mem_replicate.1 hr).2];simp⟩
 |j+1=>sR (sS n j) _ _ _
def bI(n:NetD)(k:Nat):NetD:={n with branches:=n.branches.eraseIdx k}
theorem jF{n:NetD}(h:aX n=0)(k:Nat):aX (bI n k)=0:=aIa h uO k
theorem aTt(n:NetD)(v:NetV)(k:Nat)(w:World)(hN:NetIn w n v)(hB:NetBy n)(hk:k<n.branches.length)(hl:n.branches.length≤1000): Calls Tryz.prog 60 #[v.val n,I k] w fun e w'=>∃v':NetV,e= .returned (v'.val (bI n k))∧NetIn w' (bI n k) v'∧Below w.heap.size w w':=by
 have hb0:=gX w (Obj.cells (v.parts n) 29) (Obj.cells pR 29);have HB1:=aH hb0;have HBX1:=aH ((Blk.new w 29 (v.parts n)).alloc (Obj.cells pR 29));have HRX1:Hid (Blk ((w.alloc (Obj.cells (v.parts n) 29)).alloc (Obj.cells pR 29)) (w.heap.size+1) 29 pR):=by
  have:=Blk.new (w.alloc (Obj.cells (v.parts n) 29)) 29 pR;rw[World.size_alloc w]at this;exact this
 have HCP:=aH (aEs n v _ (hN.below hb0) hB);have hz1:w.heap.size+1+1≤((w.alloc (Obj.cells (v.parts n) 29)).alloc (Obj.cells pR 29)).heap.size:=by simp
 clear hb0 hN;unfold NetV.val NetV.parts at*;go_enter Tryz.func60,Tryz.ntmps60;go_upto_region 1 with(fail)
 generalize(w.alloc (Obj.cells #[.slice v.na n.nodes.length v.nc,.slice v.sa n.switches.length v.sc,.slice v.ba n.branches.length v.bc,.slice v.ga n.gens.length v.gc,.slice v.la n.loads.length v.lc,.slice v.ta n.stores.length v.tc] 29)).alloc (Obj.cells pR 29)=w1 at*;have f0:=HRX1.out.frozen 0;have f1:=HRX1.out.frozen 1;have f2:=HRX1.out.frozen 2;have f3:=HRX1.out.frozen 3;have f4:=HRX1.out.frozen 4;have f5:=HRX1.out.frozen 5;have x0:=HBX1.out.cell 0;have x1:=HBX1.out.cell 1;have x2:=HBX1.out.cell 2;have x3:=HBX1.out.cell 3;have x4:=HBX1.out.cell 4;have x5:=HBX1.out.cell 5;go_wp2_with fail;refine HCP.out.mono ?_;rintro e w2 ⟨v2,rfl,hin,hrows,hb2⟩;have hz2:=hb2.size;have HRX2:=aH (HRX1.out.below hb2 HRX1.out.lt);have HB2:=aH (HB1.out.trans (hb2.mono HB1.out.size));unfold NetV.val NetV.parts;clear hin hb2 HCP x0 x1 x2 x3 x4 x5 f0 f1 f2 f3 f4 f5;have ha:Below w2.heap.size w2 (w2.alloc (Obj.cells #[Value.slice v2.na n.nodes.length v2.nc,Value.slice v2.sa n.switches.length v2.sc,Value.slice v2.ba n.branches.length v2.bc,Value.slice v2.ga n.gens.length v2.gc,Value.slice v2.la n.loads.length v2.lc,Value.slice v2.ta n.stores.length v2.tc] 29)):=(Below.refl _ w2).alloc lR _;have hrows2:=hrows.keep (w':=w2.alloc (Obj.cells #[Value.slice v2.na n.nodes.length v2.nc,Value.slice v2.sa n.switches.length v2.sc,Value.slice v2.ba n.branches.length v2.bc,Value.slice v2.ga n.gens.length v2.gc,Value.slice v2.la n.loads.length v2.lc,Value.slice v2.ta n.stores.length v2.tc] 29)) (fun g _ hg=>ha.block g hg);have HP0:=aH (hrows.r2 (by omega));have HDE:=aH (pG v2.ba n.branches.length v2.bc k _ _ w1.heap.size (hrows2.r2 (by omega)) (sI _) hk (by omega) (by simp;omega));have HROWS:=aH hrows2;have HBOX:=aH (Blk.new w2 29 #[Value.slice v2.na n.nodes.length v2.nc,Value.slice v2.sa n.switches.length v2.sc,Value.slice v2.ba n.branches.length v2.bc,Value.slice v2.ga n.gens.length v2.gc,Value.slice v2.la n.loads.length v2.lc,Value.slice v2.ta n.stores.length v2.tc]);have HRX2a:=aH (HRX2.out.below ha (by have:=HRX2.out.lt;omega));have HB2a:=aH (HB2.out.trans (ha.mono (by have:=HB2.out.size;omega)));have hk9:(k:Int)+1≤1000000:=by omega
 clear hrows hrows2 ha;go_wp2_with fail;refine HDE.out.mono ?_;rintro e w3 ⟨rfl,hd,hb3,hk3,hz3⟩;have HBOX3:Hid (Blk w3 w2.heap.size 29 #[Value.slice v2.na n.nodes.length v2.nc,Value.slice v2.sa n.switches.length v2.sc,Value.slice v2.ba n.branches.length v2.bc,Value.slice v2.ga n.gens.length v2.gc,Value.slice v2.la n.loads.length v2.lc,Value.slice v2.ta n.stores.length v2.tc]):=aH ((hk3 _ (HP0.out.blk_lt (by omega) lR)).trans HBOX.out);have HRX3:=aH (HRX2a.out.below (hb3.mono (by omega)) (by omega));have HB3:=aH (HB2a.out.trans (hb3.mono (by omega)));have HROWS3:=aH (aKs HROWS.out hk hd hk3);have hs3:w2.heap.size+1=w3.heap.size:=by rw[hz3];simp
 clear hd hb3 hk3 hz3 HBOX HRX2 HRX2a HB2 HB2a HROWS HDE;have g1:w2.heap.size<w3.heap.size:=by omega
 have g3:¬w2.heap.size=w.heap.size+1:=by omega
 have g4:w.heap.size+1<w3.heap.size:=by omega
 have g6:¬w.heap.size+1=w2.heap.size:=by omega
 have b0:=HBOX3.out.cell 0;have b1:=HBOX3.out.cell 1;have b2:=HBOX3.out.cell 2;have b3:=HBOX3.out.cell 3;have b4:=HBOX3.out.cell 4;have b5:=HBOX3.out.cell 5;have fb:=HBOX3.out.frozen 2;have f0:=HRX3.out.frozen 0;have f1:=HRX3.out.frozen 1;have f2:=HRX3.out.frozen 2;have f3:=HRX3.out.frozen 3;have f4:=HRX3.out.frozen 4;have f5:=HRX3.out.frozen 5;have y0:=HRX3.out.cell 0;have y1:=HRX3.out.cell 1;have y2:=HRX3.out.cell 2;have y3:=HRX3.out.cell 3;have y4:=HRX3.out.cell 4;have y5:=HRX3.out.cell 5;go_wp2;rw[←wT];have hR4:=HRX3.out.far (p:=⟨w2.heap.size,2,none⟩) g6 (Value.slice v2.ba (n.branches.length-1) v2.bc);have hB4:=aEr hR4 rfl (Value.slice v2.na n.nodes.length v2.nc) (Value.slice v2.sa n.switches.length v2.sc) (Value.slice v2.ba (n.branches.length-1) v2.bc) (Value.slice v2.ga n.gens.length v2.gc) (Value.slice v2.la n.loads.length v2.lc) (Value.slice v2.ta n.stores.length v2.tc);have hrw:=(HROWS3.out.setNet HBOX3.out 2 (Value.slice v2.ba (n.branches.length-1) v2.bc)).keep (w':=set6 (w3.setCell ⟨w2.heap.size,2,none⟩ (Value.slice v2.ba (n.branches.length-1) v2.bc)) (w.heap.size+1) (Value.slice v2.na n.nodes.length v2.nc) (Value.slice v2.sa n.switches.length v2.sc) (Value.slice v2.ba (n.branches.length-1) v2.bc) (Value.slice v2.ga n.gens.length v2.gc) (Value.slice v2.la n.loads.length v2.lc) (Value.slice v2.ta n.stores.length v2.tc)) (fun g hg _=>sJ _ _ _ _ _ _ _ _ g (by omega));have hbe:=(HB3.out.setCell (p:=⟨w2.heap.size,2,none⟩) (by simp;omega) (Value.slice v2.ba (n.branches.length-1) v2.bc)).trans (wS _ (w.heap.size+1) w.heap.size (Value.slice v2.na n.nodes.length v2.nc) (Value.slice v2.sa n.switches.length v2.sc) (Value.slice v2.ba (n.branches.length-1) v2.bc) (Value.slice v2.ga n.gens.length v2.gc) (Value.slice v2.la n.loads.length v2.lc) (Value.slice v2.ta n.stores.length v2.tc) (by omega));generalize set6 (w3.setCell ⟨w2.heap.size,2,none⟩ (Value.slice v2.ba (n.branches.length-1) v2.bc)) (w.heap.size+1) (Value.slice v2.na n.nodes.length v2.nc) (Value.slice v2.sa n.switches.length v2.sc) (Value.slice v2.ba (n.branches.length-1) v2.bc) (Value.slice v2.ga n.gens.length v2.gc) (Value.slice v2.la n.loads.length v2.lc) (Value.slice v2.ta n.stores.length v2.tc)=W at*;have z0:=hB4.cell 0;have z1:=hB4.cell 1;have z2:=hB4.cell 2;have z3:=hB4.cell 3;have z4:=hB4.cell 4;have z5:=hB4.cell 5;refine bodyPost_ret (v:= .agg #[Value.slice v2.na n.nodes.length v2.nc,Value.slice v2.sa n.switches.length v2.sc,Value.slice v2.ba (n.branches.length-1) v2.bc,Value.slice v2.ga n.gens.length v2.gc,Value.slice v2.la n.loads.length v2.lc,Value.slice v2.ta n.stores.length v2.tc]) (by simp[results,Tryz.results60,go_sem,z0,z1,z2,z3,z4,z5]) rfl ?_;refine⟨v2,?_,hrw.netIn,hbe⟩;rw[show bI n k={n with branches:=n.branches.eraseIdx k}from rfl];simp only[List.length_eraseIdx_of_lt hk]
theorem oQ{α:Type}(L:List α)(o:Nat)(cs:List α)(h:o+cs.length≤L.length)(j:Nat):(splice L o cs)[j]?=if o≤j∧j<o+cs.length then cs[j-o]? else L[j]?:=by
 unfold splice;have hl:(L.take o).length=o:=by rw[List.length_take];omega
 by_cases h1:j<o
 ·rw[if_neg (by omega),List.getElem?_append_left (by omega),List.getElem?_take,if_pos h1]
 ·rw[List.getElem?_append_right (by omega),hl];by_cases h2:j<o+cs.length
  ·rw[if_pos ⟨by omega,h2⟩,List.getElem?_append_left (by omega)]
  ·rw[if_neg (by omega),List.getElem?_append_right (by omega),List.getElem?_drop];congr 1;omega
theorem aAk{α:Type}{L a y d:List α}{off p q m:Nat}(ha:(L.drop off).take p=a)(hal:a.length=p)(hy:y.length=q)(hd:d.length=m)(hfit:off+p+q+m≤L.length): ((splice (splice L (off+p+q) d) (off+p) y).drop off).take (p+q+m)=a++(y++d)∧((splice (splice L (off+p) y) (off+p+q) d).drop off).take (p+q+m)=a++(y++d):=by
 have h0:∀j,j<p→L[off+j]?=a[j]?:=fun j hj=>by
  rw[←ha,List.getElem?_take,if_pos hj,List.getElem?_drop]
 have hR:∀j,(a++(y++d))[j]?=if j<p then a[j]? else if j<p+q then y[j-p]? else d[j-p-q]?:=fun j=>by
  by_cases h1:j<p
  ·rw[List.getElem?_append_left (by omega),if_pos h1]
  ·rw[List.getElem?_append_right (by omega),hal,if_neg h1];by_cases h2:j<p+q
   ·rw[List.getElem?_append_left (by omega),if_pos h2]
   ·rw[List.getElem?_append_right (by omega),hy,if_neg h2]
 have hz:∀j,¬j<p+q+m→d[j-p-q]?=none:=fun j hj=>List.getElem?_eq_none (by omega);constructor
 ·refine List.ext_getElem? fun j=>?_;rw[hR,List.getElem?_take,List.getElem?_drop,oQ _ _ _ (by rw[length_splice _ _ _ (by omega)];omega),oQ _ _ _ (by omega)];by_cases h1:j<p
  ·rw[if_pos (by omega),if_neg (by omega),if_neg (by omega),if_pos h1,h0 j h1]
  ·by_cases h2:j<p+q
   ·rw[if_pos (by omega),if_pos (by omega),if_neg h1,if_pos h2,show off+j-(off+p)=j-p by omega]
   ·by_cases h3:j<p+q+m
    ·rw[if_pos h3,if_neg (by omega),if_pos (by omega),if_neg h1,if_neg h2,show off+j-(off+p+q)=j-p-q by omega]
    ·rw[if_neg h3,if_neg h1,if_neg h2,hz j h3]
 ·refine List.ext_getElem? fun j=>?_;rw[hR,List.getElem?_take,List.getElem?_drop,oQ _ _ _ (by rw[length_splice _ _ _ (by omega)];omega),oQ _ _ _ (by omega)];by_cases h1:j<p
  ·rw[if_pos (by omega),if_neg (by omega),if_neg (by omega),if_pos h1,h0 j h1]
  ·by_cases h2:j<p+q
   ·rw[if_pos (by omega),if_neg (by omega),if_pos (by omega),if_neg h1,if_pos h2,show off+j-(off+p)=j-p by omega]
   ·by_cases h3:j<p+q+m
    ·rw[if_pos h3,if_pos (by omega),if_neg h1,if_neg h2,show off+j-(off+p+q)=j-p-q by omega]
    ·rw[if_neg h3,if_neg h1,if_neg h2,hz j h3]
theorem mJ{α:Type}{L cs:List α}{o:Nat}{u:α}(h:u∈splice L o cs):u∈L∨u∈cs:=by
 unfold splice at h;rw[List.mem_append,List.mem_append]at h;rcases h with h|h|h
 ·exact .inl (List.mem_of_mem_take h)
 ·exact .inr h
 ·exact .inl (List.mem_of_mem_drop h)
theorem aZs{w W:World}{g:Nat}{t:TypeId}{cur:Array Value}(hg:Blk w g t cur)(hn:∀u∈cur.toList,noWord u)(hz:W.heap.size=w.heap.size)(hk:∀b,b≠g→W.heap[b]?=w.heap[b]?):Kw w W:=by
 refine⟨by omega,fun p n e=>?_⟩;have hpb:p.block≠g:=fun h=>by
  cases p with
  |mk pb po ps=>
   simp only at h;subst h;cases ps with
   |none=>exact eI hg hn po n e
   |some s=>
    unfold Blk at hg;simp[World.cell?,hg]at e
 rw[World.cell?_of_block (a:=p) (hk _ hpb)];exact e
theorem aFs{W:World}{base g off n c:Nat}{cur ys:List Value}{qs:List Rat}(hB:Blk W g aM cur.toArray)(hbg:base≤g)(ht:(cur.drop off).take (n*4)=ys)(hq:RtL W ys qs)(hn:n=qs.length)(hnc:n≤c)(hc:c≤maxLen)(hs:off+c*4≤cur.length)(hw:∀u∈cur,noWord u): RRow W base (.slice (some ⟨g,off,none⟩) n c) qs:=by
 refine⟨⟨ys,⟨?_,.inr ⟨g,off,c,cur.toArray,by rw[hn],hbg,hB,by omega,hc,by simpa using hs,by rw[←hn];simpa using ht⟩⟩,hq⟩,fun g' o x hg'=>?_⟩
 ·exact hq.len
 ·have e:g=g':=by simpa[Value.ownBlock]using hg'
  subst e;exact eI hB (by simpa using hw) o x
theorem rM{w:World}{ops:Array Oper}{rest:List Oper}{o:Oper}{a:Act}{Q:Exit→Act→World→Prop}(hgd:o.guard=none)(d s:Operand) (ho:o.op= .call {callee:= .builtin .copy,args:=#[d,s],argTypes:=#[bW,bW]})
  (ad:Addr)(dLen dCap sLen sCap g off:Nat)(hd:a.eval d= .slice (some ⟨g,off,none⟩) dLen dCap)(hs:a.eval s= .slice (some ad) sLen sCap)
  (cur:List Value)(hg:w.heap[g]?=some (.cells cur.toArray aM (0,0)))(cs:List Value)(n:Nat)(hn:n=Nat.min sLen dLen)(hcs:cs.length=n*4)
  (hsrc:∀j v,cs[j]?=some v→w.cell? (ad.add j)=some v)(hfit:off+cs.length≤cur.length)(h1:∀v∈cs,v.oneCell'=true)
  (h:∀w',Hid (w'=w.setRow g (splice cur off cs).toArray)→wpList Tryz.prog ops Q rest (a.put o.dst (goInt n)) w'):wpList Tryz.prog ops Q (o::rest) a w:=by
 refine wpList_plain hgd fun K hK=>?_;have hrun:=nU (P:=Tryz.prog) w bW bW o.type aM g off dLen dCap ad sLen sCap cur.toArray aM cs 4 n Tryz.underlying111 rF hg hn hcs hsrc (by simpa using hfit) h1;unfold Oper.wp;simp only[execOp,ho,resolve,invoke,builtin,Sem.run_bind,Sem.run_pure,Result.andThen_ok,List.map_toArray,List.map_cons,List.map_nil,hd,hs,hrun];exact hK _ _ (h _ (aH (by unfold splice;simp)))
theorem xP{w:World}{ops:Array Oper}{o:Oper}{a:Act}{K:Act→World→Prop}{Q:Exit→Act→World→Prop}{E:Prop}(hgd:o.guard=none)(d s:Operand) (ho:o.op= .call {callee:= .builtin .copy,args:=#[d,s],argTypes:=#[bW,bW]})
  (ad:Addr)(dLen dCap sLen sCap g off:Nat)(hd:a.eval d= .slice (some ⟨g,off,none⟩) dLen dCap)(hs:a.eval s= .slice (some ad) sLen sCap)
  (cur:List Value)(hg:w.heap[g]?=some (.cells cur.toArray aM (0,0)))(cs:List Value)(n:Nat)(hn:n=Nat.min sLen dLen)(hcs:cs.length=n*4)
  (hsrc:∀j v,cs[j]?=some v→w.cell? (ad.add j)=some v)(hfit:off+cs.length≤cur.length)(h1:∀v∈cs,v.oneCell'=true)
  (h:∀w',Hid (w'=w.setRow g (splice cur off cs).toArray)→K (a.put o.dst (goInt n)) w'):if Region.wanted o (yielded ops a.tmps)=true then Oper.wp Tryz.prog o a w K Q else E:=by
 have hw:Region.wanted o (yielded ops a.tmps)=true:=by simp[Region.wanted,hgd]
 rw[if_pos hw];have hrun:=nU (P:=Tryz.prog) w bW bW o.type aM g off dLen dCap ad sLen sCap cur.toArray aM cs 4 n Tryz.underlying111 rF hg hn hcs hsrc (by simpa using hfit) h1;unfold Oper.wp;simp only[execOp,ho,resolve,invoke,builtin,Sem.run_bind,Sem.run_pure,Result.andThen_ok,List.map_toArray,List.map_cons,List.map_nil,hd,hs,hrun];exact h _ (aH (by unfold splice;simp))
theorem aIf(base:Nat)(v:Value)(qs:List Rat)(vb:Nat)(x0 x1 x2 x3:Value)(q:Rat)(w:World)(hr:RRow w base v qs)(hX:Blk w vb aM #[x0,x1,x2,x3])(hq:Rt w (.agg #[x0,x1,x2,x3]) q)(hl:qs.length≤1000000)(hb:base≤w.heap.size): Calls Tryz.prog 62 #[v,I qs.length,.slice (some ⟨vb,0,none⟩) 1 1] w fun e w'=>∃v',e= .returned v'∧RRow w' base v' (qs++[q])∧Below base w w':=by
 have HR:=aH hr;have HX:=aH hX;have HQ:=aH hq;obtain⟨A,c,rfl⟩:=hr.val;obtain⟨⟨xs,hrow,-⟩,-⟩:=id hr;have hnc:qs.length≤c:=by
  rcases hrow.2 with⟨e,h0⟩|⟨g,off,cap,cur,e,-,-,hnc,-⟩
  ·omega
  ·injection e with _ _ e;omega
 have hA:A=none→qs.length=0:=by
  rintro rfl;rcases hrow.2 with⟨e,h0⟩|⟨g,off,cap,cur,e,-⟩
  ·exact h0
  ·cases e
 clear hrow hr hX hq;generalize hn:qs.length=n at*;go_enter Tryz.func62,Tryz.ntmps62;cases A with
 |none=>
  go_wp2_with(at_builtin;refine nV (by rfl) _ _ (by rfl) base _ qs (by rfl) HR.out vb (by rfl) HX.out HQ.out (by omega) hb ?_;intro v' w' hap);all_goals(go_ret;exact⟨_,rfl,hap.row,hap.below HR.out hb⟩)
 |some a=>
  obtain⟨ab,ao,asp⟩:=a;go_wp2_with(at_builtin;refine nV (by rfl) _ _ (by rfl) base _ qs (by rfl) HR.out vb (by rfl) HX.out HQ.out (by omega) hb ?_;intro v' w' hap);all_goals(go_ret;exact⟨_,rfl,hap.row,hap.below HR.out hb⟩)
theorem RtL.take_{w:World}:∀{qs:List Rat} {xs:List Value} (k:Nat),RtL w xs qs→RtL w (xs.take (k*4)) (qs.take k)
 |[],xs,k,h=>by rw[h.nil_iff];simp[RtL]
 |q::qs,xs,0,h=>by simp[RtL]
 |q::qs,xs,k+1,h=>by
  obtain⟨x0,x1,x2,x3,ys,rfl,h1,h2⟩:=h.cons;rw[show(k+1)*4=k*4+4 by omega];exact .mk h1 (RtL.take_ k h2)
structure InsI(w:World)(base g off cap n i vb:Nat)(cur xs:List Value)(qs:List Rat)(x0 x1 x2 x3:Value)(q:Rat):Prop where
 hg:Blk w g aM cur.toArray
 hbg:base≤g
 ht:(cur.drop off).take (n*4)=xs
 hx:RtL w xs qs
 hn:qs.length=n
 hi:i<n
 hnc:n≤cap
 hc:cap≤maxLen
 hs:off+cap*4≤cur.length
 hw:∀u∈cur,noWord u
 hX:Blk w vb aM #[x0,x1,x2,x3]
 hq:Rt w (.agg #[x0,x1,x2,x3]) q
 hne:vb≠g
section
variable {w:World} {base g off cap n i vb:Nat} {cur xs:List Value} {qs:List Rat} {x0 x1 x2 x3:Value} {q:Rat}
theorem InsI.len(h:InsI w base g off cap n i vb cur xs qs x0 x1 x2 x3 q):xs.length=n*4:=by have:=h.hx.len;rw[h.hn]at this;exact this
theorem InsI.xat(h:InsI w base g off cap n i vb cur xs qs x0 x1 x2 x3 q)(j:Nat)(u:Value)(hu:xs[j]?=some u):w.cell? ⟨g,off+j,none⟩=some u:=by
 rw[h.hg.cell,List.getElem?_toArray];rw[←h.ht,List.getElem?_take]at hu;split at hu
 ·rwa [List.getElem?_drop]at hu
 ·cases hu
theorem InsI.vat(h:InsI w base g off cap n i vb cur xs qs x0 x1 x2 x3 q)(j:Nat)(u:Value)(hu:[x0,x1,x2,x3][j]?=some u):w.cell? ⟨vb,j,none⟩=some u:=by
 rw[h.hX.cell];simpa using hu
theorem InsI.one(h:InsI w base g off cap n i vb cur xs qs x0 x1 x2 x3 q):(∀u∈xs.drop (i*4),u.oneCell'=true)∧(∀u∈[x0,x1,x2,x3],u.oneCell'=true)∧(∀u∈xs,noWord u)∧∀u∈[x0,x1,x2,x3],noWord u:=⟨fun u hu=>(h.hx.noWord u (List.mem_of_mem_drop hu)).2,fun u hu=>((RtL.one h.hq).noWord u hu).2,fun u hu=>(h.hx.noWord u hu).1,fun u hu=>((RtL.one h.hq).noWord u hu).1⟩
theorem InsI.rt{W:World}(h:InsI w base g off cap n i vb cur xs qs x0 x1 x2 x3 q)(k:Kw w W):RtL W (xs.take (i*4)++([x0,x1,x2,x3]++xs.drop (i*4))) (qs.take i++q::qs.drop i):=by
 have h1:RtL W (xs.take (i*4)) (qs.take i):=by
  have:=h.hx.take_ i;exact this.kw k
 exact h1.append ((RtL.one (h.hq.kw k)).append ((h.hx.drop_ i).kw k))
theorem InsI.place{W:World}(h:InsI w base g off cap n i vb cur xs qs x0 x1 x2 x3 q)(hroom:n+1≤cap) (hB:Blk W g aM (splice (splice cur (off+(i+1)*4) (xs.drop (i*4))) (off+i*4) [x0,x1,x2,x3]).toArray)(hz:W.heap.size=w.heap.size)(hk:∀b,b≠g→W.heap[b]?=w.heap[b]?):
  RRow W base (.slice (some ⟨g,off,none⟩) (n+1) cap) (qs.take i++q::qs.drop i):=by
 have hl:=h.len;have hi:=h.hi;have hs:=h.hs;obtain⟨-,-,w1,w2⟩:=h.one;have hkw:=aZs h.hg (by simpa using h.hw) hz hk;have hcc:=(aAk (L:=cur) (a:=xs.take (i*4)) (y:=[x0,x1,x2,x3]) (d:=xs.drop (i*4)) (off:=off) (p:=i*4) (q:=4) (m:=(n-i)*4) (by rw[←h.ht,List.take_take,show min (i*4) (n*4)=i*4 by omega]) (by rw[List.length_take];omega) rfl (by rw[List.length_drop];omega) (by omega)).1;rw[show off+i*4+4=off+(i+1)*4 by omega,show i*4+4+(n-i)*4=(n+1)*4 by omega]at hcc;refine aFs hB h.hbg hcc (h.rt hkw) (by rw[List.length_append,List.length_cons,List.length_take,List.length_drop,h.hn];omega) hroom h.hc ?_ fun u hu=>?_
 ·rw[length_splice,length_splice]
  ·exact hs
  ·rw[List.length_drop];omega
  ·rw[length_splice]
   ·simp;omega
   ·rw[List.length_drop];omega
 ·rcases mJ hu with hu|hu
  ·rcases mJ hu with hu|hu
   ·exact h.hw u hu
   ·exact w1 u (List.mem_of_mem_drop hu)
  ·exact w2 u hu
end
theorem insRoom_any(base g off c n i vb:Nat)(cur xs:List Value)(qs:List Rat)(x0 x1 x2 x3:Value)(q:Rat)(w:World)(h:InsI w base g off c n i vb cur xs qs x0 x1 x2 x3 q)(hroom:n+1≤c)(_hb:base≤w.heap.size): Calls Tryz.prog 62 #[.slice (some ⟨g,off,none⟩) n c,I i,.slice (some ⟨vb,0,none⟩) 1 1] w fun e w'=>∃v',e= .returned v'∧RRow w' base v' (qs.take i++q::qs.drop i)∧Below base w w':=by
 have HI:=aH h;have hi:=h.hi;have hnc:=h.hnc;have hl:=h.len;have hs:=h.hs;have hc:c≤9223372036854775807:=by have:=h.hc;unfold maxLen at this;omega
 obtain⟨o1,o2,-,-⟩:=h.one;have hov:∀lb cb,(callFunc 133 #[.slice (some ⟨vb,0,none⟩) 1 1,.slice (some ⟨g,off+(i+1)*4,none⟩) lb cb]).run Tryz.prog w= .ok (.value (.bool false)) w:=fun lb cb=>by
  rw[run_callFunc_extern Tryz.func133 (by kernel_rfl) (by kernel_rfl) (by kernel_rfl) (e:=Extern.SlicesOverlaps.overlaps #[bW,bW] #[4]) (by kernel_rfl),Lib.run_overlaps_apart w bW 4 aM Tryz.underlying111 4 Tryz.sizeOf122 ⟨vb,0,none⟩ ⟨g,off+(i+1)*4,none⟩ 1 1 lb cb h.hne aM aM 4 cur.length (by have:=h.hX;unfold Blk at this;simp[World.shape?,this]) (by have:=h.hg;unfold Blk at this;simp[World.shape?,this]) (by omega) (h.hX.frozen 0) (h.hX.frozen 4)]
  rfl
 have H1:=aH (show w.drew.heap[g]?=some (.cells cur.toArray aM (0,0))from h.hg);have S1:=aH (show∀j u,(xs.drop (i*4))[j]?=some u→w.drew.cell? ((⟨g,off+i*4,none⟩:Addr).add j)=some u from fun j u hu=>by
  rw[Addr.add_lit,Nat.add_assoc];exact h.xat (i*4+j) u (by rwa [List.getElem?_drop]at hu))
 have L1:=aH (show(xs.drop (i*4)).length=(n-i)*4 by rw[List.length_drop];omega);have F1:=aH (show off+(i+1)*4+(xs.drop (i*4)).length≤cur.length by rw[L1.out];omega);have O1:=aH o1;have O2:=aH o2;have F2:=aH (show off+i*4+[x0,x1,x2,x3].length≤(splice cur (off+(i+1)*4) (xs.drop (i*4))).length by rw[length_splice _ _ _ F1.out];simp;omega);clear h hl hs o1 o2;have hz2:¬((i:Int)=(n:Int)):=by omega
 have hz3:¬((c:Int)<(n:Int)+1):=by omega
 have hw1:IntKind.i64.wrap ((i:Int)+1)=(i:Int)+1:=by rw[IntKind.wrap_i64];omega
 have hw2:IntKind.i64.wrap ((n:Int)+1)=(n:Int)+1:=by rw[IntKind.wrap_i64];omega
 have hb1:(0:Int)≤(i:Int)+1:=by omega
 have hin:i≤n:=by omega
 have htn:((i:Int)+1).toNat=i+1:=by omega
 have htm:((n:Int)+1).toNat=n+1:=by omega
 have hb2:¬(c=i+1):=by omega
 have hb3:(i:Int)≤(n:Int)+1:=by omega
 have hb4:¬(c=i):=by omega
 have hb5:(i:Int)+1≤(n:Int)+1:=by omega
 unfold bW aM at*;go_enter Tryz.func62,Tryz.ntmps62;go_wp2_with(simp only[hov]);go_region_law ((refine xP rfl (.tmp 73) (.tmp 76) rfl ⟨g,off+i*4,none⟩ (n+1-(i+1)) (c-(i+1)) (n+1-i) (c-i) g (off+(i+1)*4) (by simp[Act.eval,Act.put]) (by simp[Act.eval,Act.put]) cur H1.out (xs.drop (i*4)) (n-i) (by simp only[Nat.min_def];split<;>omega) L1.out S1.out F1.out O1.out ?_;intro w1 hw1));have E1:=hw1;clear hw1 hov;have hB1:w1.heap[g]?=some (.cells (splice cur (off+(i+1)*4) (xs.drop (i*4))).toArray aM (0,0)):=by rw[E1.out];exact setRow_heap w.drew g _ _ _ _ H1.out
 have hk1:∀b,b≠g→w1.heap[b]?=w.heap[b]?:=fun b hbg=>by rw[E1.out];exact setRow_other w.drew g b _ hbg
 have hz1:w1.heap.size=w.heap.size:=by rw[E1.out,size_setRow];rfl
 have hbb:Below base w w1:=by rw[E1.out];exact below_setRow (Below.refl base w).drew HI.out.hbg _
 have HBB:=aH hbb;have HB1:=aH hB1;have HK1:=aH hk1;have HZ1:=aH hz1;have S2:=aH (show∀j u,[x0,x1,x2,x3][j]?=some u→w1.cell? ((⟨vb,0,none⟩:Addr).add j)=some u from fun j u hu=>by
  rw[Addr.add_lit,Nat.zero_add,World.cell?_of_block (a:=⟨vb,j,none⟩) (hk1 _ HI.out.hne)];exact HI.out.vat j u hu)
 clear hB1 hk1 hz1 E1 hbb;unfold aM at*;have HM:=aH (show(1:Nat)=Nat.min 1 (n+1-i) by simp only[Nat.min_def];split<;>omega);go_wp2_with(refine rM rfl (.tmp 80) (.tmp 81) rfl ⟨vb,0,none⟩ (n+1-i) (c-i) 1 1 g (off+i*4) (by rfl) (by rfl) _ HB1.out [x0,x1,x2,x3] 1 HM.out rfl S2.out F2.out O2.out ?_;intro w2 hw2);have hB2:w2.heap[g]?=some (.cells (splice (splice cur (off+(i+1)*4) (xs.drop (i*4))) (off+i*4) [x0,x1,x2,x3]).toArray aM (0,0)):=by rw[hw2.out];exact setRow_heap w1 g _ _ _ _ HB1.out
 have hk2:∀b,b≠g→w2.heap[b]?=w.heap[b]?:=fun b hbg=>by rw[hw2.out,setRow_other w1 g b _ hbg,HK1.out b hbg]
 have hz2:w2.heap.size=w.heap.size:=by rw[hw2.out,size_setRow,HZ1.out]
 have HE:=aH (HI.out.place hroom hB2 hz2 hk2);have HB:=aH (show Below base w w2 by rw[hw2.out];exact below_setRow HBB.out HI.out.hbg _);clear hB2 hk2 hz2 hw2;go_wp2;go_ret;exact⟨_,rfl,HE.out,HB.out⟩
theorem aFt{w:World}{ops:Array Oper}{rest:List Oper}{o:Oper}{a:Act}{Q:Exit→Act→World→Prop}(hgd:o.guard=none)(s x:Operand)(t tn:TypeId) (ho:o.op= .call {callee:= .builtin .append,args:=#[s,x],argTypes:=#[t,tn]})(vs vx:Value)(hs:a.eval s=vs)(hx:a.eval x=vx)
  (v':Value)(w':World)(hr:(Builtin.append_ #[t,tn] o.type #[vs,vx]).run Tryz.prog w= .ok v' w')(h:∀W,Hid (W=w')→wpList Tryz.prog ops Q rest (a.put o.dst v') W):wpList Tryz.prog ops Q (o::rest) a w:=Lib.wpList_append_run w hgd s x t tn ho vs vx hs hx v' w' hr (h _ (aH rfl))
theorem aFu(base g off c n i vb:Nat)(cur xs:List Value)(qs:List Rat)(x0 x1 x2 x3:Value)(q:Rat)(w:World)(h:InsI w base g off c n i vb cur xs qs x0 x1 x2 x3 q)(hroom:c<n+1)(hb:base≤w.heap.size)(hl1:n≤1000000): Calls Tryz.prog 62 #[.slice (some ⟨g,off,none⟩) n c,I i,.slice (some ⟨vb,0,none⟩) 1 1] w fun e w'=>∃v',e= .returned v'∧RRow w' base v' (qs.take i++q::qs.drop i)∧Below base w w':=by
 have HI:=aH h;have hi:=h.hi;have hnc:=h.hnc;have hl:=h.len;obtain⟨o1,o2,k1,k2⟩:=h.one;obtain⟨i0,hi0,hz0,hzs,hzb⟩:=info_parts lD;have hold:(Builtin.firstCells i0.size i (.slice (some ⟨g,off,none⟩) i c)).run Tryz.prog w.drew= .ok (xs.take (i*4)).toArray w.drew:=by
  rw[hzs];exact run_firstCells_some w.drew 4 i ⟨g,off,none⟩ i c (xs.take (i*4)) (by rw[List.length_take];omega) (fun j u hj=>by
   rw[Addr.add_lit];rw[List.getElem?_take]at hj;split at hj
   ·exact h.xat j u hj
   ·cases hj)
 have hrz:∀ty,(Builtin.append_ #[bW,3] ty #[.slice (some ⟨g,off,none⟩) i c,.int .i64 ((n:Int)+1-(i:Int))]).run Tryz.prog w= .ok (.slice (some ⟨w.heap.size,0,none⟩) (n+1) (grownCap w (n+1) c aM)) (w.drew.alloc (.cells ((xs.take (i*4)).toArray++Builtin.zeroCells mC (n+1-i)++Builtin.zeroCells mC (grownCap w (n+1) c aM-(n+1))) aM)):=fun ty=>by
  have h:=Lib.run_append_grow_zeros w bW 3 ty aM i0 _ .i64 .i64 Tryz.underlying111 Tryz.underlying3 hi0 hz0 (some ⟨g,off,none⟩) i c (xs.take (i*4)) hold (n+1-i) (by omega) (by omega) (by omega) (by omega) (by rw[hzb];omega) (by rw[hzb,show i+(n+1-i)=n+1 by omega];exact growslice_fits hroom (by omega));rw[show i+(n+1-i)=n+1 by omega]at h;rw[show(n:Int)+1-(i:Int)=((n+1-i:Nat):Int) by omega];exact h
 have hge:=grownCap_ge w (n+1) c aM;have hgm:=grownCap_le_maxLen w (n+1) c aM (by unfold maxLen;omega);generalize grownCap w (n+1) c aM=G at*;have hG63:G≤9223372036854775807:=by unfold maxLen at hgm;omega
 obtain⟨R,hR⟩:∃R:List Value,(xs.take (i*4)).toArray++Builtin.zeroCells mC (n+1-i)++Builtin.zeroCells mC (G-(n+1))=R.toArray:=⟨_,(Array.toArray_toList).symm⟩;have hRl:R.length=G*4:=by
  have:=congrArg Array.size hR;simp only[Array.size_append,size_zeroCells,List.size_toArray,List.length_take,List.length_cons,List.length_nil]at this;omega
 have hR2:R=xs.take (i*4)++((Builtin.zeroCells mC (n+1-i)).toList++(Builtin.zeroCells mC (G-(n+1))).toList):=by
  have:=congrArg Array.toList hR;simpa using this.symm
 have hRt:(R.drop 0).take (i*4)=xs.take (i*4):=by
  rw[hR2,List.drop_zero,List.take_append_of_le_length (by rw[List.length_take];omega),List.take_take,Nat.min_self]
 have hRw:∀u∈R,noWord u:=fun u hu=>by
  rw[hR2,List.mem_append,List.mem_append]at hu;rcases hu with hu|hu|hu
  ·exact k1 u (List.mem_of_mem_take hu)
  ·exact kE _ u hu
  ·exact kE _ u hu
 rw[hR]at hrz;have RL:=aH hRl;have RT:=aH hRt;have RW:=aH hRw;clear hR hR2 hRl hRt hRw hold;have L1:=aH (show(xs.drop (i*4)).length=(n-i)*4 by rw[List.length_drop];omega);have F1:=aH (show i*4+[x0,x1,x2,x3].length≤R.length by rw[RL.out];simp;omega);have F2:=aH (show(i+1)*4+(xs.drop (i*4)).length≤(splice R (i*4) [x0,x1,x2,x3]).length by rw[length_splice _ _ _ F1.out,RL.out,L1.out];omega);have O1:=aH o1;have O2:=aH o2;have K1:=aH k1;have K2:=aH k2;have hgw:=h.hg.lt;have hvw:=h.hX.lt;clear h hl o1 o2 k1 k2 hzs hzb hi0 hz0;have hz2:¬((i:Int)=(n:Int)):=by omega
 have hz3:(c:Int)<(n:Int)+1:=by omega
 have hw1:IntKind.i64.wrap ((i:Int)+1)=(i:Int)+1:=by rw[IntKind.wrap_i64];omega
 have hb1:(0:Int)≤(i:Int)+1:=by omega
 have hin:i≤n:=by omega
 have htn:((i:Int)+1).toNat=i+1:=by omega
 have hGi:¬(G=i):=by omega
 have hGim:¬(G=i+1):=by omega
 have hci:¬(c=i):=by omega
 have hb3:(i:Int)≤(n:Int):=by omega
 unfold bW aM at*;go_enter Tryz.func62,Tryz.ntmps62;go_upto_region 10 with(at_builtin;refine aFt rfl _ _ _ _ rfl _ _ rfl rfl _ _ (hrz _) ?_;intro w1 hw1)
 clear hrz;have HA:=aH (show Blk w1 w.heap.size aM R.toArray by rw[hw1.out];exact heap_alloc_new w.drew _);have HB:=aH (show Below w.heap.size w w1 by rw[hw1.out];exact(Below.refl _ w).drew.alloc lR _);clear hw1;generalize hGS:w.heap.size=gs at*;have S1:=aH (show∀j u,[x0,x1,x2,x3][j]?=some u→w1.cell? ((⟨vb,0,none⟩:Addr).add j)=some u from fun j u hu=>by
  rw[Addr.add_lit,Nat.zero_add,HB.out.cell (p:=⟨vb,j,none⟩) hvw];exact HI.out.vat j u hu)
 have HM:=aH (show(1:Nat)=Nat.min 1 (n+1-i) by simp only[Nat.min_def];split<;>omega);go_upto_region 11 with(refine rM rfl (.tmp 43) (.tmp 44) rfl ⟨vb,0,none⟩ (n+1-i) (G-i) 1 1 gs (i*4) (by rfl) (by rfl) R HA.out [x0,x1,x2,x3] 1 HM.out rfl S1.out F1.out O2.out ?_;intro w2 hw2)
 have HA2:=aH (show Blk w2.drew gs aM (splice R (i*4) [x0,x1,x2,x3]).toArray by rw[hw2.out];exact setRow_heap w1 gs _ _ _ _ HA.out);have HB2:=aH (show Below gs w w2.drew by rw[hw2.out];exact(below_setRow HB.out lR _).drew);clear hw2 S1 HA HB;have S2:=aH (show∀j u,(xs.drop (i*4))[j]?=some u→w2.drew.cell? ((⟨g,off+i*4,none⟩:Addr).add j)=some u from fun j u hu=>by
  rw[Addr.add_lit,Nat.add_assoc,HB2.out.cell (p:=⟨g,_,none⟩) hgw];exact HI.out.xat (i*4+j) u (by rwa [List.getElem?_drop]at hu))
 go_region_law ((refine xP rfl (.tmp 50) (.tmp 53) rfl ⟨g,off+i*4,none⟩ (n+1-(i+1)) (G-(i+1)) (n-i) (c-i) gs ((i+1)*4) (by simp[Act.eval,Act.put]) (by simp[Act.eval,Act.put]) _ HA2.out (xs.drop (i*4)) (n-i) (by simp only[Nat.min_def];split<;>omega) L1.out S2.out F2.out O1.out ?_;intro w3 hw3));have hB3:Blk w3 gs aM (splice (splice R (i*4) [x0,x1,x2,x3]) ((i+1)*4) (xs.drop (i*4))).toArray:=by rw[hw3.out];exact setRow_heap w2.drew gs _ _ _ _ HA2.out
 have hBL:Below gs w w3:=by rw[hw3.out];exact below_setRow HB2.out lR _
 subst hGS;have hcc:=(aAk (L:=R) (a:=xs.take (i*4)) (y:=[x0,x1,x2,x3]) (d:=xs.drop (i*4)) (off:=0) (p:=i*4) (q:=4) (m:=(n-i)*4) RT.out (by rw[List.length_take,HI.out.len];omega) rfl L1.out (by rw[RL.out];omega)).2;rw[show 0+i*4=i*4 by omega,show i*4+4=(i+1)*4 by omega,show(i+1)*4+(n-i)*4=(n+1)*4 by omega]at hcc;have HE:=aH (aFs (base:=base) (c:=G) (qs:=qs.take i++q::qs.drop i) hB3 hb hcc (HI.out.rt (jQ hBL)) (by rw[List.length_append,List.length_cons,List.length_take,List.length_drop,HI.out.hn];omega) hge hgm (by rw[length_splice _ _ _ F2.out,length_splice _ _ _ F1.out,RL.out];omega) (fun u hu=>by
  rcases mJ hu with hu|hu
  ·rcases mJ hu with hu|hu
   ·exact RW.out u hu
   ·exact K2.out u hu
  ·exact K1.out u (List.mem_of_mem_drop hu)))
 have HZ:=aH (show Below base w w3 from hBL.mono hb);clear hcc hB3 hBL hw3 HA2 HB2 S2;go_wp2;go_ret;exact⟨_,rfl,HE.out,HZ.out⟩
theorem xQ(base:Nat)(v:Value)(qs:List Rat)(i vb:Nat)(x0 x1 x2 x3:Value)(q:Rat)(w:World)(hr:RRow w base v qs)(hi:i≤qs.length)(hX:Blk w vb aM #[x0,x1,x2,x3])(hq:Rt w (.agg #[x0,x1,x2,x3]) q)(hne:v.ownBlock≠some vb) (hl:qs.length≤1000000)(hb:base≤w.heap.size):
  Calls Tryz.prog 62 #[v,I i,.slice (some ⟨vb,0,none⟩) 1 1] w fun e w'=>∃v',e= .returned v'∧RRow w' base v' (qs.take i++q::qs.drop i)∧Below base w w':=by
 by_cases he:i=qs.length
 ·subst he;rw[List.take_of_length_le lR,List.drop_of_length_le lR];exact aIf base v qs vb x0 x1 x2 x3 q w hr hX hq hl hb
 ·obtain⟨⟨xs,hrow,hx⟩,hnw⟩:=id hr;rcases hrow.2 with⟨_,h0⟩|⟨g,off,cap,cur,rfl,hbg,hg,hnc,hcm,hcs,htake⟩
  ·omega
  ·have hI:InsI w base g off cap qs.length i vb cur.toList xs qs x0 x1 x2 x3 q:=⟨by simpa using hg,hbg,htake,hx,rfl,by omega,hnc,hcm,by simpa using hcs,oK hg (fun o n=>hnw g o n rfl),hX,hq,fun e=>hne (by rw[e];rfl)⟩
   by_cases hroom:qs.length+1≤cap
   ·exact insRoom_any base g off cap qs.length i vb _ xs qs x0 x1 x2 x3 q w hI hroom hb
   ·exact aFu base g off cap qs.length i vb _ xs qs x0 x1 x2 x3 q w hI (by omega) hb hl
end Go.Proofs.YtenbglfkdldheaaGreatDoor
