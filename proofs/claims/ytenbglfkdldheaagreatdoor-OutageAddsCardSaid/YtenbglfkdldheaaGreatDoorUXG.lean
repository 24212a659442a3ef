/- The flows are those without injections, and the factors times the injections: the plain law of ShiftAdds. ShiftAdds: plain facts, and flow.Solve with its slices named. A network without branches: balances, the only angles; the flows after an outage. Plain facts. outage.Left: the flows of a network without some branches. outage.Over: the branches that carry more than their limits. -/
import Derived.Test.YtenbglfkdldheaaGreatDoorUXF
set_option maxRecDepth 100000
set_option maxHeartbeats 40000000
namespace Go.Proofs.YtenbglfkdldheaaGreatDoor
section
theorem addQ1_len{a b:List Rat}(hl:a.length=b.length):(mL a b).length=a.length:=by simp[mL,hl]
end
section
open Go.RowKit
theorem aOd(n:NetD)(v:NetV)(inj:List Int)(m:Nat)(A:Option Addr)(c:Nat)(w:World)(hN:Net w n v)(hj:Reads w w.heap.size 1 A m (inj.map I))(hm:m≤9223372036854775807)(htab:Tab w):Calls Tryz.prog 36 #[v.val n,.slice A m c] w fun e w'=>
  ∃SA la ca SB lb cb,e= .returned (.tuple #[.agg #[.slice SA la ca,.slice SB lb cb],I (gG n inj)])∧(gG n inj=0→lb=n.branches.length∧Row w' w.heap.size oU 1 (.slice SB lb cb) lb ((mkS ((dH n inj).map aQ)).map Sv))∧Below w.heap.size w w':=(aLw n v inj m A c w hN hj hm htab).mono fun e w' hh=>by
  obtain⟨a,b,h1,h2,h3,_,h5⟩:=hh;by_cases hc:gG n inj=0
  ·obtain⟨ha,hb⟩:=h2 hc;obtain⟨SA,ca,rfl⟩:=ha.val;obtain⟨SB,cb,rfl⟩:=hb.val;rw[dE]at hb h1;exact⟨_,_,_,_,_,_,h1,fun _=>⟨rfl,hb⟩,h5⟩
  ·obtain⟨rfl,rfl⟩:=h3 hc;exact⟨_,_,_,_,_,_,h1,fun h=>absurd h hc,h5⟩
end
section
def aAm(n:NetD)(b:BranchD):kQ:=((aP n b.src).toNat,(aP n b.dst).toNat,bQ b)
theorem aIh(n:NetD):esN n=n.branches.map (aAm n):=by
 refine List.ext_getElem (by simp[esN,esL]) fun i h1 h2=>?_;have hi:i<n.branches.length:=by simpa using h2
 simp[esN,esL,aAm,bB,toL,bLQ,hi]
def shE(n:NetD)(v:Nat):List BranchD→Rat
 |[]=>0
 |b::bs=>(if(aP n b.src).toNat=v then-cQ b else 0)+(if(aP n b.dst).toNat=v then cQ b else 0)+shE n v bs
theorem aKw(n:NetD)(v:Nat)(cs:List BranchD):∀bs,shE n v (bs++cs)=shE n v bs+shE n v cs
 |[]=>by rw[List.nil_append,shE];grind
 |b::bs=>by
  rw[List.cons_append,shE,shE,aKw n v cs bs];grind
theorem aZy{l:List Rat}{v:Nat}(hv:v<l.length)(u w:Nat)(c:Rat):(shQ u w c l).getD v 0=l.getD v 0+((if u=v then-c else 0)+(if w=v then c else 0)):=by
 unfold shQ;rw[eL,List.length_set,eL,eL];by_cases e:w=v
 ·subst e;rw[if_pos ⟨rfl,hv⟩,if_pos rfl];by_cases e2:u=w
  ·subst e2;rw[if_pos ⟨rfl,hv⟩,if_pos rfl];grind
  ·rw[if_neg (fun h=>e2 h.1),if_neg e2];grind
 ·rw[if_neg (fun h=>e h.1),if_neg e];by_cases e2:u=v
  ·subst e2;rw[if_pos ⟨rfl,hv⟩,if_pos rfl];grind
  ·rw[if_neg (fun h=>e2 h.1),if_neg e2];grind
theorem aYc{n:NetD}{r:List Rat}{v:Nat}(hv:v<r.length):(shN n r).getD v 0=r.getD v 0+shE n v n.branches:=by
 have key:∀k,k≤n.branches.length→(shK (bB n) (toL n) (cLQ n) r k).getD v 0=r.getD v 0+shE n v (n.branches.take k):=by
  intro k;induction k with
  |zero=>intro _;rw[shK,List.take_zero,shE];grind
  |succ k ih=>
   intro hk;have hk':k<n.branches.length:=by omega
   rw[shK,aZy (by rw[aBc];exact hv),ih (by omega),List.take_succ_eq_append_getElem hk',aKw];have e1:(bB n).getD k 0=aP n n.branches[k].src:=by simp[bB,hk']
   have e2:(toL n).getD k 0=aP n n.branches[k].dst:=by simp[toL,hk']
   have e3:(cLQ n).getD k 0=cQ n.branches[k]:=by simp[cLQ,hk']
   rw[e1,e2,e3,shE,shE];grind
 have h:=key _ lR;rw[List.take_length]at h;exact h
def flB(n:NetD)(x:Nat→Rat)(b:BranchD):Rat:=bQ b*(x (aP n b.src).toNat-x (aP n b.dst).toNat)+cQ b
def foE(n:NetD)(x:Nat→Rat)(v:Nat):List BranchD→Rat
 |[]=>0
 |b::bs=>(if(aP n b.src).toNat=v then flB n x b else 0)+(if(aP n b.dst).toNat=v then-flB n x b else 0)+foE n x v bs
theorem xS(n:NetD)(x:Nat→Rat)(v:Nat):∀bs,foE n x v bs=oT x v (bs.map (aAm n))-shE n v bs
 |[]=>by simp only[foE,List.map_nil,oT,shE];grind
 |b::bs=>by
  rw[foE,List.map_cons,oT,shE,xS n x v bs,flB];simp only[aAm];split<;>split<;>grind
theorem aFy(n:NetD)(x:Nat→Rat)(v:Nat):∀(bs:List BranchD) (k:Nat) (b:BranchD),bs[k]?=some b→ foE n x v bs=foE n x v (bs.eraseIdx k)+((if(aP n b.src).toNat=v then flB n x b else 0)+(if(aP n b.dst).toNat=v then-flB n x b else 0))
 |[],k,b,h=>by simp at h
 |c::bs,0,b,h=>by
  obtain rfl:c=b:=by simpa using h
  rw[foE,List.eraseIdx_cons_zero];grind
 |c::bs,k+1,b,h=>by
  rw[foE,List.eraseIdx_cons_succ,foE,aFy n x v bs k b (by simpa using h)];grind
theorem aTz(n:NetD)(k:Nat)(x:Nat→Rat)(v:Nat):∀bs,foE (bI n k) x v bs=foE n x v bs
 |[]=>rfl
 |b::bs=>by
  rw[foE,foE,aTz n k x v bs];rfl
theorem aZz(n:NetD)(x y:Nat→Rat)(c:Rat)(v:Nat)(bs:List BranchD):foE n (fun u=>x u+c*y u) v bs=foE n x v bs+c*oT y v (bs.map (aAm n)):=by
 rw[xS,xS,show(fun u=>x u+c*y u)=fun u=>1*x u+c*y u from funext fun u=>by rw[Rat.one_mul],aDm];grind
theorem aCq{n:NetD}{v:Nat}(h:(v:Int)∈aF n):v<nbN n:=by
 have:=oC (n:=n) _ h;omega
theorem bAa{n:NetD}(h:VNet n){r:List Rat}(hr:r.length=nbN n){v:Nat}(hv:(v:Int)∈aF n):foE n (fun u=>(thN n (shN n r)).getD u 0) v n.branches=r.getD v 0:=by
 rw[xS,←aIh,aQe h _ hv,aYc (by rw[hr];exact aCq hv)];grind
theorem aXn{n:NetD}(h:VNet n){r:List Rat}(hr:r.length=nbN n){x:Nat→Rat}(h0:∀v:Nat,(v:Int)∉aF n→x v=0)(hb:∀v:Nat,(v:Int)∈aF n→foE n x v n.branches=r.getD v 0):∀v,x v=(thN n (shN n r)).getD v 0:=by
 refine aVm h h0 fun v hv=>?_;have h1:=hb v hv;rw[xS,←aIh]at h1;rw[aYc (by rw[hr];exact aCq hv),←h1];grind
theorem aIi{n:NetD}(th:List Rat){j:Nat}{b:BranchD}(hj:n.branches[j]?=some b):(flN n th).getD j 0=flB n (fun u=>th.getD u 0) b:=by
 obtain⟨h1,rfl⟩:=List.getElem?_eq_some_iff.1 hj;rw[flN,aYv h1];simp[aGr,flB,bB,toL,bLQ,cLQ,h1]
theorem bAb{n:NetD}{u v:Nat}{j:Nat}{b:BranchD}(hj:n.branches[j]?=some b):(grN n u v).getD j 0=bQ b*((thN n (gr0 u v (nbN n))).getD (aP n b.src).toNat 0-(thN n (gr0 u v (nbN n))).getD (aP n b.dst).toNat 0):=by
 obtain⟨h1,rfl⟩:=List.getElem?_eq_some_iff.1 hj;rw[grN,aZv h1];simp[aLu,bB,toL,bLQ,h1]
theorem aKx{n:NetD}(hc:aX n=0){k:Nat}(hk:k<n.branches.length)(he:at_ (aC (bI n k)) ((bB n).getD k 0)=at_ (aC (bI n k)) ((toL n).getD k 0)):aC (bI n k)=aC n:=by
 have hV:=iH hc;have hl:(aS n).length=n.branches.length:=by simp[aS]
 have hv:=fA hV;have hd:bM (aS n) (k:Int)=((bB n).getD k 0,(toL n).getD k 0):=by rw[←aTy hk];simp[bM]
 have hx:=zF hv (k:=(k:Int)) (by omega) (by omega);rw[aOc hc hk]at he⊢;rw[hd]at hx;have hcn:=(lU (wo:=(k:Int)) hv ⟨hx.1,hx.2.1⟩ ⟨hx.2.2.1,hx.2.2.2⟩).1 he;rw[vU hV];refine vT hv hv fun u v=>⟨fun h=>h.mono fun j hj=>⟨hj.1,hj.2.1,by have:=hj.1;omega⟩,fun h=>h.lift fun j hj=>?_⟩;by_cases e:j=k
 ·rw[e,hd];exact hcn
 ·exact Conn.ends ⟨hj.1,hj.2.1,e⟩
theorem aAn{n:NetD}{k:Nat}(hi:aC (bI n k)=aC n):aF (bI n k)=aF n:=by unfold aF;rw[hi]
theorem aIj{n:NetD}{k:Nat}(hi:aC (bI n k)=aC n):nbN (bI n k)=nbN n:=by unfold nbN;rw[hi]
theorem aIk{n:NetD}{k:Nat}(hi:aC (bI n k)=aC n)(inj:List Int):smN (bI n k) inj=smN n inj:=by
 show smQ (aI n) inj (nbN (bI n k)) n.nodes.length=_;rw[aIj hi];rfl
theorem bAc{n:NetD}(h:VNet n){b:BranchD}(hb:b∈n.branches):(aP n b.src).toNat<nbN n∧(aP n b.dst).toNat<nbN n:=by
 obtain⟨k,hk,rfl⟩:=List.getElem_of_mem hb;obtain⟨h1,h2⟩:=rO h hk;have e1:(bB n).getD k 0=aP n n.branches[k].src:=by simp[bB,hk]
 have e2:(toL n).getD k 0=aP n n.branches[k].dst:=by simp[toL,hk]
 rw[e1]at h1;rw[e2]at h2;have:=nC h _ h1;have:=nC h _ h2;omega
theorem bAd{n:NetD}(hc:aX n=0){k:Nat}{b:BranchD}(hb:n.branches[k]?=some b)(hi:aC (bI n k)=aC n){r:List Rat}(hr:r.length=nbN n)(v:Nat): (thN (bI n k) (shN (bI n k) r)).getD v 0=(thN n (shN n r)).getD v 0+flB n (fun u=>(thN n (shN n r)).getD u 0) b*(thN (bI n k) (gr0 (aP n b.src).toNat (aP n b.dst).toNat (nbN n))).getD v 0:=by
 have hV:=iH hc;have hW:=iH (jF hc k);obtain⟨hu,hw⟩:=bAc hV (List.mem_of_getElem? hb);symm;refine aXn hW (r:=r) (x:=fun v=>(thN n (shN n r)).getD v 0+flB n (fun u=>(thN n (shN n r)).getD u 0) b*(thN (bI n k) (gr0 (aP n b.src).toNat (aP n b.dst).toNat (nbN n))).getD v 0) (by rw[aIj hi];exact hr) (fun v hv=>?_) (fun v hv=>?_) v
 ·rw[aDo (bI n k) _ hv];rw[aAn hi]at hv;rw[aDo n _ hv];grind
 ·have hg:=aQe hW (gr0 (aP n b.src).toNat (aP n b.dst).toNat (nbN n)) hv;rw[aIh]at hg;have hv2:(v:Int)∈aF n:=by rw[←aAn hi];exact hv
  have h1:=bAa hV hr hv2;rw[aFy n _ v n.branches k b hb]at h1;rw[aTw (aCq hv2) hu hw]at hg;rw[aTz,show(bI n k).branches=n.branches.eraseIdx k from rfl,aZz];change oT _ v ((n.branches.eraseIdx k).map (aAm n))=_ at hg;rw[hg];grind
def xT(l:List Rat)(k:Nat)(x:Rat):List Rat:=l.take k++x::l.drop k
theorem uQ{l:List Rat}{k:Nat}(hk:k≤l.length)(x:Rat):(xT l k x).length=l.length+1:=by
 rw[xT,List.length_append,List.length_cons,List.length_take,List.length_drop];omega
theorem aUa{l:List Rat}{k:Nat}(hk:k≤l.length)(x:Rat)(j:Nat):(xT l k x).getD j 0=if j<k then l.getD j 0 else if j=k then x else l.getD (j-1) 0:=by
 unfold xT;rw[gD];by_cases h:j<k
 ·rw[if_pos h,List.getElem?_append_left (by rw[List.length_take];omega),List.getElem?_take_of_lt h,gD]
 ·rw[if_neg h,List.getElem?_append_right (by rw[List.length_take];omega),List.length_take,Nat.min_eq_left hk];by_cases e:j=k
  ·subst e;rw[if_pos rfl,Nat.sub_self];rfl
  ·rw[if_neg e,show j-k=(j-k-1)+1 by omega,List.getElem?_cons_succ,List.getElem?_drop,gD,show k+(j-k-1)=j-1 by omega]
theorem bAe{n:NetD}{k j:Nat}{b:BranchD}(hj:n.branches[j]?=some b)(hne:j≠k):(bI n k).branches[if j<k then j else j-1]?=some b:=by
 show(n.branches.eraseIdx k)[_]?=_;rw[List.getElem?_eraseIdx];by_cases h:j<k
 ·rw[if_pos h,if_pos h];exact hj
 ·rw[if_neg h,if_neg (by omega),show j-1+1=j by omega];exact hj
def rP(n:NetD)(inj:List Int)(k:Nat):List Rat:=xT (dH (bI n k) inj) k 0
theorem aXo{n:NetD}(hc:aX n=0){k:Nat}(hk:k<n.branches.length)(he:at_ (aC (bI n k)) ((bB n).getD k 0)=at_ (aC (bI n k)) ((toL n).getD k 0))(inj:List Int): rP n inj k=mL (dH n inj) (mR ((dH n inj).getD k 0) (lnQ n k)):=by
 have hi:=aKx hc hk he;have hcl:=oR hk;have hbk:n.branches[k]?=some n.branches[k]:=gE hk;have hl1:(dH (bI n k) inj).length=n.branches.length-1:=by rw[dE];omega
 have hl2:(grN (bI n k) ((bB n).getD k 0).toNat ((toL n).getD k 0).toNat).length=n.branches.length-1:=by rw[oP];omega
 have hll:(dH n inj).length=(mR ((dH n inj).getD k 0) (lnQ n k)).length:=by rw[dE,mR,List.length_map,rN hk]
 refine aQk (by rw[addQ1_len hll,rP,uQ (by omega),hl1,dE];omega) fun j hj=>?_;rw[rP,uQ (by omega),hl1]at hj;have hj2:j<n.branches.length:=by omega
 have hbj:n.branches[j]?=some n.branches[j]:=gE hj2;have hln:lnQ n k=xT (grN (bI n k) ((bB n).getD k 0).toNat ((toL n).getD k 0).toNat) k ((-1:Int):Rat):=rfl;rw[aQj hll,aXi,hln,aUa (by omega),rP,aUa (by omega)];have e1:(bB n).getD k 0=aP n n.branches[k].src:=by simp[bB,hk]
 have e2:(toL n).getD k 0=aP n n.branches[k].dst:=by simp[toL,hk]
 have hF:∀(i:Nat) (b:BranchD),n.branches[i]?=some b→(dH n inj).getD i 0=flB n (fun u=>(thN n (shN n (smN n inj))).getD u 0) b:=fun i b h=>aIi _ h;have hG:∀(i:Nat) (b:BranchD),(bI n k).branches[i]?=some b→(dH (bI n k) inj).getD i 0=flB n (fun u=>(thN (bI n k) (shN (bI n k) (smN n inj))).getD u 0) b:=fun i b h=>by
  have:=aIi (n:=bI n k) (aLv (bI n k) (smN (bI n k) inj)) h;rw[aIk hi]at this;rw[dH,yE,aIk hi];exact this
 have hP:j≠k→∀i,i=(if j<k then j else j-1)→(dH (bI n k) inj).getD i 0=(dH n inj).getD j 0+(dH n inj).getD k 0*(grN (bI n k) ((bB n).getD k 0).toNat ((toL n).getD k 0).toNat).getD i 0:=fun hne i ei=>by
  have hcb:=bAe hbj hne;rw[←ei]at hcb;rw[hG i _ hcb,hF j _ hbj,hF k _ hbk,bAb hcb,e1,e2,aIj hi];show bQ _*_+cQ _=_;simp only[bAd hc hbk hi (aJf n inj)];unfold flB;show _=_+_*(bQ n.branches[j]*(_-_));simp only[show∀x,aP (bI n k) x=aP n x from fun _=>rfl];grind
 by_cases h:j<k
 ·rw[if_pos h,if_pos h];exact hP (by omega) j (by rw[if_pos h])
 ·rw[if_neg h,if_neg h];by_cases e:j=k
  ·rw[if_pos e,if_pos e,e];show(0:Rat)=_;rw[show(((-1:Int)):Rat)=-1 from rfl];grind
  ·rw[if_neg e,if_neg e];exact hP e (j-1) (by rw[if_neg h])
end
section
open Go.RowKit
def dD(n:NetD)(gone:List Nat):NetD:={n with branches:=gone.foldr (fun k l=>l.eraseIdx k) n.branches}
theorem sU(n:NetD)(k:Nat)(g:List Nat):dD n (k::g)=bI (dD n g) k:=rfl
theorem mK{n:NetD}(h:aX n=0):∀g,aX (dD n g)=0
 |[]=>h
 |k::g=>by rw[sU];exact jF (mK h g) k
theorem aOe{n:NetD}{gone:List Nat}{j k:Nat}(h:gone[j]?=some k):dD n (gone.drop j)=bI (dD n (gone.drop (j+1))) k:=by
 obtain⟨hj,e⟩:=List.getElem?_eq_some_iff.1 h;rw[List.drop_eq_getElem_cons hj,e,sU]
def IncG(gone:List Nat)(nb:Nat):Prop:=∀j k,gone[j]?=some k→k+gone.length<nb+j+1
theorem IncG.tail{k nb:Nat}{g:List Nat}(h:IncG (k::g) nb):IncG g nb:=fun j x hx=>by
 have:=h (j+1) x (by simpa using hx);rw[List.length_cons]at this;omega
theorem IncG.drop{nb:Nat}:∀{g:List Nat},IncG g nb→∀j,IncG (g.drop j) nb
 |_,h,0=>h
 |[],h,_+1=>h
 |_::_,h,j+1=>IncG.drop h.tail j
theorem rQ{n:NetD}:∀{g:List Nat},IncG g n.branches.length→(dD n g).branches.length+g.length=n.branches.length
 |[],_=>rfl
 |k::g,h=>by
  have h1:=rQ h.tail;have h2:=h 0 k rfl;rw[List.length_cons]at h2⊢;rw[sU];have h3:=oR (n:=dD n g) (k:=k) (by omega);omega
theorem aCr{gone:List Nat}{j k:Nat}(h:gone[j]?=some k):(gone.map fun(k:Nat)=>(k:Int)).getD j 0=k:=by
 rw[gD,List.getElem?_map,h];rfl
def rR(l:List Rat)(gone:List Nat):Nat→List Rat
 |0=>l
 |i+1=>xT (rR l gone i) (gone.getD i 0) 0
theorem xU{l:List Rat}{gone:List Nat}{nb:Nat}(h:IncG gone nb)(hl:l.length+gone.length=nb):∀i,i≤gone.length→(rR l gone i).length=l.length+i
 |0,_=>rfl
 |i+1,hi=>by
  have h1:=xU h hl i (by omega);have h2:=h i (gone.getD i 0) (by rw[gD,gE (by omega)];rfl);rw[rR,uQ (by omega),h1];omega
def gA(n:NetD)(inj:List Int)(gone:List Nat):List Rat:=rR (dH (dD n gone) inj) gone gone.length
theorem sV{n:NetD}{gone:List Nat}(h:IncG gone n.branches.length)(inj:List Int):(gA n inj gone).length=n.branches.length:=by
 have h1:=rQ h;rw[gA,xU h (by rw[dE];exact h1) _ lR,dE];exact h1
def aOf(n:NetD)(gone:List Nat)(k:Nat):Bool:=decide (at_ (aC (dD n gone)) ((bB n).getD k 0)=at_ (aC (dD n gone)) ((toL n).getD k 0))
def rS(n:NetD)(gone:List Nat):Bool:=gone.all (aOf n gone)
def aUb(w:World)(n:NetD)(inj:List Int)(gone:List Nat)(e:Ending)(w':World):Prop:=∃v,e= .returned (.tuple #[v,.bool (rS n gone)])∧(rS n gone=true→RRow w' w.heap.size v (gA n inj gone))∧(rS n gone=false→v= .slice none 0 0)∧Below w.heap.size w w'
theorem aXp{n:NetD}{gone:List Nat}(h:VNet n)(hc:VNet (dD n gone)){k:Nat}(hk:k<n.branches.length): (0≤(bB n).getD k 0∧(bB n).getD k 0<nbN (dD n gone))∧0≤(toL n).getD k 0∧(toL n).getD k 0<nbN (dD n gone):=by
 obtain⟨h1,h2⟩:=rO h hk;exact⟨nC hc _ h1,nC hc _ h2⟩
theorem aUc{gone:List Nat}{P:Nat→Bool}{j k:Nat}(h:gone[j]?=some k)(hp:P k=false):gone.all P=false:=by
 rw[Bool.eq_false_iff];intro h1;have:=List.all_eq_true.1 h1 k (List.mem_of_getElem? h);rw[hp]at this;cases this
theorem aOg{l:List Rat}{gone:List Nat}{i k:Nat}(h:gone[i]?=some k):rR l gone (i+1)=(rR l gone i).take k++((0:Int):Rat)::(rR l gone i).drop k:=by
 rw[rR,gD,h];rfl
theorem xV(n:NetD)(v:NetV)(inj:List Int)(gone:List Nat)(A:Option Addr)(c:Nat)(G:Option Addr)(kg gc:Nat)(w:World)(hN:NetIn w n v)(hj:Reads w w.heap.size 1 A n.nodes.length (inj.map I))(hg:Reads w w.heap.size 1 G kg ((gone.map fun(k:Nat)=>(k:Int)).map I))(hc:aX n=0)(hi:∀i,-100000≤inj.getD i 0∧inj.getD i 0≤100000)(hG:IncG gone n.branches.length): Calls Tryz.prog 67 #[v.val n,.slice A n.nodes.length c,.slice G kg gc] w (aUb w n inj gone):=by
 have hkl:gone.length=kg:=by have:=hg.1;simpa using this
 have HKL:=aH hkl;have hz:=aD w (Obj.cells (v.parts n) 29);have HN:=aH (hN.below hz);have HG:=aH (Blk.new w 29 (v.parts n));have HB:=aH hz;have HJ:=aH ((hj.below hz).more hz.size);have HGO:=aH ((hg.below hz).more hz.size);have HG0:=aH hg;have HV:=aH (iH hc);have HV2:=aH (iH (mK hc gone));have HCK:=aH hc;have HI:=aH hi;have HIG:=aH hG;have hbl:=(iH hc).hb;have hcl:=rQ hG;have hkg:kg≤24:=by omega
 clear hz hN hj hg hc hi hG hkl;obtain⟨na,nc,sa,sc,bra,brc,ga,gac,la,lc,ta,tc⟩:=v;unfold NetV.val NetV.parts at*;simp only at HG HB HN HJ HGO⊢;go_enter Tryz.func67,Tryz.ntmps67;go_upto_region 1 with(fail)
 generalize w.alloc (Obj.cells #[.slice na n.nodes.length nc,.slice sa n.switches.length sc,.slice bra n.branches.length brc,.slice ga n.gens.length gac,.slice la n.loads.length lc,.slice ta n.stores.length tc] 29)=w0 at*;have x0:=HG.out.cell 0;have x1:=HG.out.cell 1;have x2:=HG.out.cell 2;have x3:=HG.out.cell 3;have x4:=HG.out.cell 4;have x5:=HG.out.cell 5;have HC:=aH (jG n _ w0 HN.out HV.out);unfold NetV.val NetV.parts at HC;simp only at HC;go_wp2_with fail;refine HC.out.mono ?_;rintro e w1 ⟨base1,g1,rfl,hbs1,hM1,hb⟩;clear HC;clear x0 x1 x2 x3 x4 x5;have hbs:=HB.out.size;replace HB:=aH (HB.out.trans (hb.mono hbs));clear hbs;replace HN:=aH (HN.out.below hb);replace HG:=bL HG hb;replace HJ:=aH ((HJ.out.below hb).more hb.size);replace HGO:=aH ((HGO.out.below hb).more hb.size);clear hb;have HM1:=aH hM1;clear hM1 hbs1;have x0:=HG.out.cell 0;have x1:=HG.out.cell 1;have x2:=HG.out.cell 2;have x3:=HG.out.cell 3;have x4:=HG.out.cell 4;have x5:=HG.out.cell 5;have HC:=aH (aEs n _ w1 HN.out (aFw HV.out));unfold NetV.val NetV.parts at HC;simp only at HC;go_wp2_with fail;refine HC.out.mono ?_;rintro e w2 ⟨v2,rfl,hin,hrows,hb⟩;clear HC;clear x0 x1 x2 x3 x4 x5;unfold NetV.val NetV.parts;clear hin;have HBW:=aH hb;have HSZ:=aH hb.size;have HROWS:=aH hrows;have HNE:=aH (fun(h0:0<n.branches.length)=>(hrows.r2 h0).blk_lt h0 (Nat.le_refl w2.heap.size));have HB1:=HB;clear HB hrows hb HN HG;have ha:=aD w2 (Obj.cells #[.slice v2.na n.nodes.length v2.nc,.slice v2.sa n.switches.length v2.sc,.slice v2.ba n.branches.length v2.bc,.slice v2.ga n.gens.length v2.gc,.slice v2.la n.loads.length v2.lc,.slice v2.ta n.stores.length v2.tc] 29);have HBOX:=aH (Blk.new w2 29 #[.slice v2.na n.nodes.length v2.nc,.slice v2.sa n.switches.length v2.sc,.slice v2.ba n.branches.length v2.bc,.slice v2.ga n.gens.length v2.gc,.slice v2.la n.loads.length v2.lc,.slice v2.ta n.stores.length v2.tc]);replace HROWS:=aH (HROWS.out.keep (w':=w2.alloc (Obj.cells #[.slice v2.na n.nodes.length v2.nc,.slice v2.sa n.switches.length v2.sc,.slice v2.ba n.branches.length v2.bc,.slice v2.ga n.gens.length v2.gc,.slice v2.la n.loads.length v2.lc,.slice v2.ta n.stores.length v2.tc] 29)) (fun g _ hg=>ha.block g hg));replace HBW:=bT HBW ha;clear ha;skip;go_upto_region 3 with(fail)
 have hs2:w1.heap.size≤w2.heap.size∧w2.heap.size<(w2.alloc (Obj.cells #[.slice v2.na n.nodes.length v2.nc,.slice v2.sa n.switches.length v2.sc,.slice v2.ba n.branches.length v2.bc,.slice v2.ga n.gens.length v2.gc,.slice v2.la n.loads.length v2.lc,.slice v2.ta n.stores.length v2.tc] 29)).heap.size:=by
  have h1:=HBOX.out.lt;exact⟨HSZ.out,h1⟩
 generalize w2.alloc (Obj.cells #[.slice v2.na n.nodes.length v2.nc,.slice v2.sa n.switches.length v2.sc,.slice v2.ba n.branches.length v2.bc,.slice v2.ga n.gens.length v2.gc,.slice v2.la n.loads.length v2.lc,.slice v2.ta n.stores.length v2.tc] 29)=w3 at*;generalize w2.heap.size=b2 at*;obtain⟨hs2a,hs2b⟩:=hs2;have HST:=aH (show Blk w3 b2 29 #[.slice v2.na n.nodes.length v2.nc,.slice v2.sa n.switches.length v2.sc,.slice v2.ba (dD n (gone.drop kg)).branches.length v2.bc,.slice v2.ga n.gens.length v2.gc,.slice v2.la n.loads.length v2.lc,.slice v2.ta n.stores.length v2.tc] by
  rw[List.drop_of_length_le (by rw[HKL.out];exact Nat.le_refl _)];exact HBOX.out)
 have HSR:=aH (show NetRows w3 w1.heap.size (dD n (gone.drop kg)) v2 by
  rw[List.drop_of_length_le (by rw[HKL.out];exact Nat.le_refl _)];exact HROWS.out)
 clear HBOX HROWS;go_wp2;go_loopg [10] (2*kg) (fun r lv wr=>∃j:Nat,r=2*j∧lv=I ((j:Int)-1)∧j≤kg∧Hid (Blk wr b2 29 #[.slice v2.na n.nodes.length v2.nc,.slice v2.sa n.switches.length v2.sc,.slice v2.ba (dD n (gone.drop j)).branches.length v2.bc,.slice v2.ga n.gens.length v2.gc,.slice v2.la n.loads.length v2.lc,.slice v2.ta n.stores.length v2.tc])∧Hid (NetRows wr w1.heap.size (dD n (gone.drop j)) v2)∧Hid (Below w1.heap.size w1 wr));case atStart=>exact⟨kg,rfl,rfl,Nat.le_refl _,HST,HSR,HBW⟩
 case round=>
  clear HST HSR HBW;obtain⟨j,rfl,rfl,hj,HBOX,HROWS,HBW⟩:=hrel;obtain⟨wa,rfl⟩:=wE wr;by_cases hj0:0<j
  ·obtain⟨i,rfl⟩:∃i,j=i+1:=⟨j-1,by omega⟩;obtain⟨k,hk⟩:∃k,gone[i]?=some k:=⟨_,gE (by rw[HKL.out];omega)⟩;have hkk:=HIG.out i k hk;have hdl:=rQ (HIG.out.drop (i+1));rw[List.length_drop,HKL.out]at hdl;rw[HKL.out]at hkk;have hck:=aOe (n:=n) hk;obtain⟨NX,hNX⟩:∃N,dD n (gone.drop (i+1))=N:=⟨_,rfl⟩;rw[hNX]at HBOX HROWS hdl hck;have hkl:k<NX.branches.length:=by omega
   have HNX:=aH (show NX.nodes=n.nodes∧NX.switches=n.switches∧NX.gens=n.gens∧NX.loads=n.loads∧NX.stores=n.stores by rw[←hNX];exact⟨rfl,rfl,rfl,rfl,rfl⟩);have HCK2:=aH hck;clear hNX hck;obtain⟨NL,hNL⟩:∃m,NX.branches.length=m:=⟨_,rfl⟩;have HNL:=aH hNL;rw[hNL]at HBOX hdl hkl;clear hNL;have e1:decide ((0:Int)≤((i+1:Nat):Int)-1)=true:=decide_eq_true (by omega);have e2:((i+1:Nat):Int)-1=(i:Int):=by omega
   skip;obtain⟨bg,og,eg,_,hgc⟩:=HGO.out.int_at (k:=i) (by omega);subst eg;rw[aCr hk]at hgc;have e1:decide ((0:Int)≤(i:Int))=true:=decide_eq_true (by omega);have HIK:=aH hk;clear hk hj0;go_upto_region 6 with(fail)
   clear e1;have HBD:=aH HBOX.out.drew;have HRD:=aH (HROWS.out.keep (w':=wa.drew) (fun _ _ _=>rfl));have HWD:=aH HBW.out.drew;clear HBOX HROWS HBW;have hi24:(i:Int)<kg:=by omega
   have hik:(k:Int)≤24:=by omega
   refine aJ (fun w'=>w'.cell? ⟨b2,2,none⟩=some (.slice v2.ba NL v2.bc)∧w'.cell? ⟨bg,og+i,none⟩=some (I k)) 13 (by kernel_rfl) ?_;generalize wa.drew=wz at*;refine tkS ⟨HBD.out.cell 2,aA hgc HWD.out⟩ fun hSS=>?_;refine aZ 0 (.pointer (some ⟨b2,2,none⟩)) rfl hSS ?_;refine aZ 1 (.slice v2.ba NL v2.bc) rfl hSS ?_;refine aZ 2 (.slice (some ⟨bg,og,none⟩) kg gc) rfl hSS ?_;refine aZ 3 (I i) rfl hSS ?_;refine aZ 4 (.pointer (some ⟨bg,og+i,none⟩)) rfl hSS ?_;refine aZ 5 (I k) rfl hSS ?_;refine aZ 6 (.slice (some ⟨bg,og,none⟩) kg gc) rfl hSS ?_;refine aZ 7 (I i) rfl hSS ?_;refine aZ 8 (.pointer (some ⟨bg,og+i,none⟩)) rfl hSS ?_;refine aZ 9 (I k) rfl hSS ?_;refine tq 10 (I ((k+1:Nat):Int)) rfl ?_ hSS ?_
   ·rintro w ⟨s0,s1⟩;go_simp;exact IntWalk.i64_in ((k:Int)+1) (by omega)
   have hne:=HNE.out (by omega);have hrr:=HRD.out.r2 (by rw[HNL.out];omega);rw[HNL.out]at hrr;have HDE:=aH (pG v2.ba NL v2.bc k _ wz w1.heap.size hrr (sI _) hkl (by omega) (by have:=HWD.out.size;omega));clear hrr;refine on1 11 fun K hK=>?_;go_simp;go_at_call 81;refine HDE.out.mono ?_;rintro e wb ⟨rfl,hd,hb3,hk3,hz3⟩;clear HDE;replace HBD:=aH (show Blk wb b2 29 #[.slice v2.na n.nodes.length v2.nc,.slice v2.sa n.switches.length v2.sc,.slice v2.ba NL v2.bc,.slice v2.ga n.gens.length v2.gc,.slice v2.la n.loads.length v2.lc,.slice v2.ta n.stores.length v2.tc]from(hk3 b2 hne).trans HBD.out);have hd2:=hd;rw[←HNL.out]at hd2;have hro:=aKs HRD.out (by rw[HNL.out];exact hkl) hd2 hk3;replace HRD:=aH (show NetRows wb w1.heap.size (bI NX k) v2 from hro);replace HWD:=aH (HWD.out.trans hb3);clear hd hd2 hro hb3 hk3 hz3 hne;refine hK.out _ _ (fun _=>⟨HBD.out.cell 2,aA hgc HWD.out⟩) ?_;clear hK K;refine aZ 12 (.pointer (some ⟨b2,2,none⟩)) rfl ⟨HBD.out.cell 2,aA hgc HWD.out⟩ ?_;have z2:=HBD.out.cell 2;have y2:=HBD.out.frozen 2;have HB4:=aH (HBD.out.set_ 2 (.slice v2.ba (NL-1) v2.bc));have HR4:=aH (HRD.out.setNet HBD.out 2 (.slice v2.ba (NL-1) v2.bc));have HW4:=aH (HWD.out.setCell (p:=⟨b2,2,none⟩) hs2a (.slice v2.ba (NL-1) v2.bc));simp only[List.setIfInBounds_toArray,List.set_cons_zero,List.set_cons_succ]at HB4;refine on1 13 fun K hK=>?_;go_simp;refine hK.out _ _ (fun h=>absurd h (by decide)) ?_;clear hK K;refine aG (by kernel_rfl) ?_ _;clear z2 y2 HBD HRD HWD;generalize wb.setCell ⟨b2,2,none⟩ (.slice v2.ba (NL-1) v2.bc)=wc at*;have HBF:=aH (show Blk wc b2 29 #[.slice v2.na n.nodes.length v2.nc,.slice v2.sa n.switches.length v2.sc,.slice v2.ba (dD n (gone.drop i)).branches.length v2.bc,.slice v2.ga n.gens.length v2.gc,.slice v2.la n.loads.length v2.lc,.slice v2.ta n.stores.length v2.tc] by
    rw[HCK2.out,show(bI NX k).branches.length=NL-1 by rw[←HNL.out];exact List.length_eraseIdx_of_lt (by rw[HNL.out];exact hkl)];exact HB4.out)
   have HRF:=aH (show NetRows wc w1.heap.size (dD n (gone.drop i)) v2 by rw[HCK2.out];exact HR4.out);clear HB4 HR4 HCK2 HNX hgc;go_wp2;go_roundg (2*i);case measure=>omega
   case rel=>exact⟨i,rfl,by go_num,by omega,HBF,HRF,HW4⟩
  ·obtain rfl:j=0:=by omega
   have e1:decide ((0:Int)≤((0:Nat):Int)-1)=false:=by decide
   have HBN:=aH (show Blk wa b2 29 #[.slice v2.na n.nodes.length v2.nc,.slice v2.sa n.switches.length v2.sc,.slice v2.ba (dD n gone).branches.length v2.bc,.slice v2.ga n.gens.length v2.gc,.slice v2.la n.loads.length v2.lc,.slice v2.ta n.stores.length v2.tc]from HBOX.out);have HRN:=aH (show NetRows wa w1.heap.size (dD n gone) v2 from HROWS.out);clear HBOX HROWS hj0 hj;obtain⟨nb2,hnb2⟩:∃m,(dD n gone).branches.length=m:=⟨_,rfl⟩;rw[hnb2]at HBN hcl;have HNB2:=aH hnb2;clear hnb2;replace HM1:=aH (cM HM1.out HBW.out);replace HJ:=aH ((HJ.out.below HBW.out).more HBW.out.size);replace HGO:=aH ((HGO.out.below HBW.out).more HBW.out.size);have HB:=aH (HB1.out.trans (HBW.out.mono HB1.out.size));clear HB1 HBW;have x0:=HBN.out.cell 0;have x1:=HBN.out.cell 1;have x2:=HBN.out.cell 2;have x3:=HBN.out.cell 3;have x4:=HBN.out.cell 4;have x5:=HBN.out.cell 5;have hni:=HRN.out.netIn;have HC:=aH (jG (dD n gone) v2 wa hni HV2.out);unfold NetV.val NetV.parts at HC;rw[HNB2.out]at HC;clear hni HRN HBN;go_wp2_with fail;refine HC.out.mono ?_;rintro e w4 ⟨base2,g2,rfl,hbs2,hM2,hb⟩;clear HC x0 x1 x2 x3 x4 x5 e1;replace HM1:=aH (cM HM1.out hb);have hbs:=HB.out.size;replace HB:=aH (HB.out.trans (hb.mono hbs));clear hbs;replace HJ:=aH ((HJ.out.below hb).more hb.size);replace HGO:=aH ((HGO.out.below hb).more hb.size);clear hb;have HM2:=aH hM2;clear hM2 hbs2;have HB0:=aH (Below.refl w4.heap.size w4);go_wp2;go_loopg [45] (kg-0) (fun r lv wr=>∃j:Nat,r=kg-j∧lv=I j∧j≤kg∧Hid (∀i k:Nat,i<j→gone[i]?=some k→aOf n gone k=true)∧Hid (Below w4.heap.size w4 wr));case atStart=>exact⟨0,rfl,rfl,Nat.zero_le _,aH (fun i k h _=>absurd h (by omega)),HB0⟩
   case round=>
    clear HB0;obtain⟨j,rfl,rfl,hj,HAL,HB0⟩:=hrel;obtain⟨wd,rfl⟩:=wE wr;by_cases hlt:j<kg
    ·obtain⟨k,hk⟩:∃k,gone[j]?=some k:=⟨_,gE (by rw[HKL.out];exact hlt)⟩;have hkk:=HIG.out j k hk;rw[HKL.out]at hkk;have hkn:k<n.branches.length:=by omega
     obtain⟨bg,og,eg,_,hgc⟩:=(HGO.out.below HB0.out).int_at hlt;subst eg;rw[aCr hk]at hgc;have HM1x:=cM HM1.out HB0.out;have HM2x:=cM HM2.out HB0.out;obtain⟨rs,qs,iv,vs,hS,_⟩:=HM1x;obtain⟨rs2,qs2,iv2,vs2,hS2,_⟩:=HM2x;obtain⟨ba,oa,ka,ea,_,ca⟩:=hS.intAt (j:=2) (by decide) (k:=k) (by rw[show(isO (aI n) (aC n) (bB n) (toL n) (aF n) 2).length=n.branches.length by simp[isO,bB]];exact hkn);rw[show(isO (aI n) (aC n) (bB n) (toL n) (aF n) 2).length=n.branches.length by simp[isO,bB]]at ea;have da:wd.cell? ⟨g1,2,none⟩=some (.slice (some ⟨ba,oa,none⟩) n.branches.length ka):=by rw[←ea];exact hS.cellI (j:=2) (by decide)
     change _=some (I ((bB n).getD k 0))at ca;obtain⟨bb,ob,kb,eb,_,cb⟩:=hS.intAt (j:=3) (by decide) (k:=k) (by rw[show(isO (aI n) (aC n) (bB n) (toL n) (aF n) 3).length=n.branches.length by simp[isO,toL]];exact hkn);rw[show(isO (aI n) (aC n) (bB n) (toL n) (aF n) 3).length=n.branches.length by simp[isO,toL]]at eb;have db:wd.cell? ⟨g1,3,none⟩=some (.slice (some ⟨bb,ob,none⟩) n.branches.length kb):=by rw[←eb];exact hS.cellI (j:=3) (by decide)
     change _=some (I ((toL n).getD k 0))at cb;obtain⟨hra,hrb⟩:=aXp HV.out HV2.out hkn;clear ea eb hS;obtain⟨u,hu⟩:∃u:Nat,(bB n).getD k 0=u:=Int.eq_ofNat_of_zero_le hra.1;obtain⟨x,hx⟩:∃x:Nat,(toL n).getD k 0=x:=Int.eq_ofNat_of_zero_le hrb.1;rw[hu]at ca hra;rw[hx]at cb hrb;obtain⟨b5,o5,k5,e5,_,cu⟩:=hS2.intAt (j:=1) (by decide) (k:=u) (by show u<(aC (dD n gone)).length;have:=hra.2;unfold nbN at this;omega);obtain⟨b6,o6,k6,e6,_,cx⟩:=hS2.intAt (j:=1) (by decide) (k:=x) (by show x<(aC (dD n gone)).length;have:=hrb.2;unfold nbN at this;omega);have e7:=e5.symm.trans e6;injection e7 with e7;injection e7 with e7;injection e7 with e7 e8 _;subst e7 e8;have du:wd.cell? ⟨g2,1,none⟩=some (.slice (some ⟨b5,o5,none⟩) (nbN (dD n gone)) k5):=by
      refine Eq.trans (hS2.cellI (j:=1) (by decide)) ?_;rw[e5];rfl
     change _=some (I ((aC (dD n gone)).getD u 0))at cu;change _=some (I ((aC (dD n gone)).getD x 0))at cx;have hul:(u:Int)<(nbN (dD n gone):Int):=hra.2;have hxl:(x:Int)<(nbN (dD n gone):Int):=hrb.2;have HEN:=aH (show aOf n gone k=decide ((aC (dD n gone)).getD u 0=(aC (dD n gone)).getD x 0) by rw[aOf,hu,hx,at_,at_,Int.toNat_natCast,Int.toNat_natCast]);clear e5 e6 hS2 hu hx hra hrb;generalize(aC (dD n gone)).getD u 0=iu at*;generalize(aC (dD n gone)).getD x 0=ix at*;obtain⟨m2,hm2⟩:∃m,nbN (dD n gone)=m:=⟨_,rfl⟩;rw[hm2]at du hul hxl;clear hm2;have hki:(k:Int)<(n.branches.length:Int):=by omega
     have hjk:(j:Int)<(kg:Int):=by omega
     have HIK:=aH hk;clear hk hkk;go_upto_region 11 with(fail)
     clear hgc;replace du:wd.drew.cell? ⟨g2,1,none⟩=some (.slice (some ⟨b5,o5,none⟩) m2 k5):=du;replace da:wd.drew.cell? ⟨g1,2,none⟩=some (.slice (some ⟨ba,oa,none⟩) n.branches.length ka):=da;replace db:wd.drew.cell? ⟨g1,3,none⟩=some (.slice (some ⟨bb,ob,none⟩) n.branches.length kb):=db;replace ca:wd.drew.cell? ⟨ba,oa+k,none⟩=some (I u):=ca;replace cb:wd.drew.cell? ⟨bb,ob+k,none⟩=some (I x):=cb;replace cu:wd.drew.cell? ⟨b5,o5+u,none⟩=some (I iu):=cu;replace cx:wd.drew.cell? ⟨b5,o5+x,none⟩=some (I ix):=cx;refine aJ (fun w'=>w'.cell? ⟨g2,1,none⟩=some (.slice (some ⟨b5,o5,none⟩) m2 k5)∧w'.cell? ⟨g1,2,none⟩=some (.slice (some ⟨ba,oa,none⟩) n.branches.length ka)∧w'.cell? ⟨g1,3,none⟩=some (.slice (some ⟨bb,ob,none⟩) n.branches.length kb)∧w'.cell? ⟨ba,oa+k,none⟩=some (I u)∧w'.cell? ⟨bb,ob+k,none⟩=some (I x)∧w'.cell? ⟨b5,o5+u,none⟩=some (I iu)∧w'.cell? ⟨b5,o5+x,none⟩=some (I ix)) 28 (by kernel_rfl) ?_;have HBY:=aH HB0.out.drew;clear HB0;generalize wd.drew=we at*;refine tkS ⟨du,da,db,ca,cb,cu,cx⟩ fun hSS=>?_;refine aZ 0 (.pointer (some ⟨g2,0,none⟩)) rfl hSS ?_;refine aZ 1 (.pointer (some ⟨g2,0,none⟩)) rfl hSS ?_;refine aZ 2 (.pointer (some ⟨g2,0,none⟩)) rfl hSS ?_;refine aZ 3 (.pointer (some ⟨g2,1,none⟩)) rfl hSS ?_;refine aZ 4 (.slice (some ⟨b5,o5,none⟩) m2 k5) rfl hSS ?_;refine aZ 5 (.pointer (some ⟨g1,0,none⟩)) rfl hSS ?_;refine aZ 6 (.pointer (some ⟨g1,0,none⟩)) rfl hSS ?_;refine aZ 7 (.pointer (some ⟨g1,2,none⟩)) rfl hSS ?_;refine aZ 8 (.slice (some ⟨ba,oa,none⟩) n.branches.length ka) rfl hSS ?_;refine aZ 9 (I k) rfl hSS ?_;refine aZ 10 (.pointer (some ⟨ba,oa+k,none⟩)) rfl hSS ?_;refine aZ 11 (I u) rfl hSS ?_;refine aZ 12 (.pointer (some ⟨b5,o5+u,none⟩)) rfl hSS ?_;refine aZ 13 (I iu) rfl hSS ?_;refine aZ 14 (.pointer (some ⟨g2,0,none⟩)) rfl hSS ?_;refine aZ 15 (.pointer (some ⟨g2,0,none⟩)) rfl hSS ?_;refine aZ 16 (.pointer (some ⟨g2,0,none⟩)) rfl hSS ?_;refine aZ 17 (.pointer (some ⟨g2,1,none⟩)) rfl hSS ?_;refine aZ 18 (.slice (some ⟨b5,o5,none⟩) m2 k5) rfl hSS ?_;refine aZ 19 (.pointer (some ⟨g1,0,none⟩)) rfl hSS ?_;refine aZ 20 (.pointer (some ⟨g1,0,none⟩)) rfl hSS ?_;refine aZ 21 (.pointer (some ⟨g1,3,none⟩)) rfl hSS ?_;refine aZ 22 (.slice (some ⟨bb,ob,none⟩) n.branches.length kb) rfl hSS ?_;refine aZ 23 (I k) rfl hSS ?_;refine aZ 24 (.pointer (some ⟨bb,ob+k,none⟩)) rfl hSS ?_;refine aZ 25 (I x) rfl hSS ?_;refine aZ 26 (.pointer (some ⟨b5,o5+x,none⟩)) rfl hSS ?_;refine aZ 27 (I ix) rfl hSS ?_;by_cases hii:iu=ix
     ·have tii:(iu !=ix)=false:=by rw[hii];simp
      refine on1 28 fun K hK=>?_;go_simp;refine hK.out _ _ (fun h=>absurd h (by decide)) ?_;clear hK K;refine aG (by kernel_rfl) ?_ _;clear du da db ca cb cu cx;have HAN:=aH (show∀i k:Nat,i<j+1→gone[i]?=some k→aOf n gone k=true from fun i q h1 h2=>by
       by_cases h3:i=j
       ·subst h3;have h4:k=q:=Option.some.inj (HIK.out.symm.trans h2);rw[←h4,HEN.out];exact decide_eq_true hii
       ·exact HAL.out i q (by omega) h2)
      clear HAL HEN;go_wp2;go_roundg (kg-(j+1));case measure=>omega
      case rel=>exact⟨j+1,rfl,by go_num,by omega,HAN,HBY⟩
     ·have tii:(iu !=ix)=true:=bne_iff_ne.2 hii;refine on1 28 fun K hK=>?_;go_simp;refine hK.out _ _ (fun h=>absurd h (by decide)) ?_;clear hK K;refine aG (by kernel_rfl) ?_ _;clear du da db ca cb cu cx;have HF:=aH (show rS n gone=false from aUc HIK.out (by rw[HEN.out];exact decide_eq_false hii));have HEND:=aH (show aUb w n inj gone (.returned (.tuple #[.slice none 0 0,.bool false])) we from⟨_,by rw[HF.out],fun h=>absurd (HF.out.symm.trans h) (by decide),fun _=>rfl,HB.out.trans (HBY.out.mono HB.out.size)⟩);clear HAL HEN HF;go_wp2;go_ret2;exact HEND.out
    ·obtain rfl:kg=j:=by omega
     have HTR:=aH (show rS n gone=true from List.all_eq_true.2 fun k hk=>by
      obtain⟨i,hi,rfl⟩:=List.mem_iff_getElem.1 hk;exact HAL.out i _ (by rw[←HKL.out];exact hi) (gE hi))
     have hb:=HB0.out;clear HAL HB0 hlt hj;replace HM1:=aH (cM HM1.out hb);replace HM2:=aH (cM HM2.out hb);have hbs:=HB.out.size;replace HB:=aH (HB.out.trans (hb.mono hbs));clear hbs;replace HJ:=aH ((HJ.out.below hb).more hb.size);replace HGO:=aH ((HGO.out.below hb).more hb.size);clear hb;have HFS:=aH (uD HV2.out HI.out);have HC:=aH (aJe HV2.out HM2.out (inj:=inj) (A:=A) (c:=c) HJ.out HI.out);go_wp2_with fail;refine HC.out.mono ?_;rintro e w3 ⟨v5,rfl,hr5,hb⟩;clear HC;skip;replace HM1:=aH (cM HM1.out hb);replace HM2:=aH (cM HM2.out hb);have hbs:=HB.out.size;replace HB:=aH (HB.out.trans (hb.mono hbs));clear hbs;replace HJ:=aH ((HJ.out.below hb).more hb.size);replace HGO:=aH ((HGO.out.below hb).more hb.size);clear hb;have HR5:=aH hr5;obtain⟨A5,c5,e5⟩:=hr5.val;rw[show(smN (dD n gone) inj).length=nbN (dD n gone) by rw[smN,smQ,List.length_map,qL]]at e5;subst e5;clear hr5;have HC:=aH (zD HV2.out HM2.out (r:=smN (dD n gone) inj) (A:=A5) (c:=c5) HR5.out.rv HFS.out);go_wp2_with fail;refine HC.out.mono ?_;rintro e w4 ⟨v6,rfl,hr6,hb⟩;clear HC;replace HM1:=aH (cM HM1.out hb);replace HM2:=aH (cM HM2.out hb);have hbs:=HB.out.size;replace HB:=aH (HB.out.trans (hb.mono hbs));clear hbs;replace HJ:=aH ((HJ.out.below hb).more hb.size);replace HGO:=aH ((HGO.out.below hb).more hb.size);clear hb;clear HR5;have HR6:=aH hr6;obtain⟨A6,c6,e6⟩:=hr6.val;rw[aDj]at e6;subst e6;clear hr6;have HC:=aH (aDi HV2.out HM2.out (th:=aLv (dD n gone) (smN (dD n gone) inj)) (A:=A6) (c:=c6) HR6.out.rv (uB HV2.out (aBe HV2.out HFS.out)));go_wp2_with fail;refine HC.out.mono ?_;rintro e w5 ⟨v7,rfl,hr7,hb⟩;clear HC;have hsz7:=HB.out.size;replace HM1:=aH (cM HM1.out hb);replace HM2:=aH (cM HM2.out hb);have hbs:=HB.out.size;replace HB:=aH (HB.out.trans (hb.mono hbs));clear hbs;replace HJ:=aH ((HJ.out.below hb).more hb.size);replace HGO:=aH ((HGO.out.below hb).more hb.size);clear hb;clear HR6 HM1 HM2 HFS;have HR7:=aH (show RRow w5 w.heap.size v7 (rR (dH (dD n gone) inj) gone 0)from hr7.less (by omega));clear hr7 hsz7;clear HGO;go_wp2;go_loopg [14,88] (kg-0) (fun r o lv wr=>∃j:Nat,∃vo:Value,o=vo∧r=kg-j∧lv=I j∧j≤kg∧Hid (RRow wr w.heap.size vo (rR (dH (dD n gone) inj) gone j))∧Hid (Below w.heap.size w wr));case atStart=>exact⟨0,_,rfl,rfl,rfl,Nat.zero_le _,HR7,HB⟩
     case round=>
      clear HR7 HB;obtain⟨j,vo,hvo,rfl,rfl,hj,HR7,HB⟩:=hrel;replace hvo:=hvo.symm;subst hvo;obtain⟨wf,rfl⟩:=wE wr;by_cases hlt:j<kg
      ·obtain⟨k,hk⟩:∃k,gone[j]?=some k:=⟨_,gE (by rw[HKL.out];exact hlt)⟩;have hkk:=HIG.out j k hk;rw[HKL.out]at hkk;obtain⟨bg,og,eg,_,hgc⟩:=(HG0.out.below HB.out).int_at hlt;subst eg;rw[aCr hk]at hgc;have hlen:=xU HIG.out (l:=dH (dD n gone) inj) (by rw[dE,HNB2.out];exact hcl) j (by rw[HKL.out];exact hj);rw[dE,HNB2.out]at hlen;have HSU:=aH (aOg (l:=dH (dD n gone) inj) hk);generalize rR (dH (dD n gone) inj) gone j=Q at*;have hkl9:=HKL.out;clear hk;have HC:=aH (eJ 0 wf (by decide) (by decide));go_wp2_with fail;refine HC.out.mono ?_;rintro e wg ⟨v8,rfl,hv8,hb⟩;clear HC hgc;replace HR7:=aH (HR7.out.call hb);have hw6:=hb.size;replace HB:=bT HB hb;clear hb;obtain⟨nb,A8,l8,c8,B8,m8,d8,rfl⟩:=hv8.bools;have HV8:=aH hv8;clear hv8;have hne:vo.ownBlock≠some wg.heap.size:=fun e=>by
        have:=(HR7.out.lt e).2;omega
       have HNE2:=aH hne;clear hne;have hb:=aD wg (.cells #[.bool nb,.slice A8 l8 c8,.bool false,.slice B8 m8 d8] 122);have hx:=Blk.new wg 122 #[.bool nb,.slice A8 l8 c8,.bool false,.slice B8 m8 d8];replace HR7:=aH (HR7.out.call hb);replace HV8:=aH (HV8.out.ext hb);replace HB:=bT HB hb;clear hb;have HX:=aH hx;clear hx;have hbs:=HB.out.size;have HC:=aH (xQ w.heap.size vo Q k wg.heap.size _ _ _ _ _ (wg.alloc (.cells #[.bool nb,.slice A8 l8 c8,.bool false,.slice B8 m8 d8] 122)) HR7.out (by omega) HX.out HV8.out HNE2.out (by omega) hbs);unfold aM at HC;go_wp2_with fail;refine HC.out.mono ?_;rintro e wh ⟨v9,rfl,hr9,hb⟩;clear HC HR7 HV8 HX HNE2;have HRN:=aH (show RRow wh w.heap.size v9 (rR (dH (dD n gone) inj) gone (j+1)) by rw[HSU.out];exact hr9);have HBN:=aH (HB.out.trans hb);clear hr9 hb HB HSU;go_wp2;go_roundg (kg-(j+1));case measure=>omega
       case rel=>exact⟨j+1,_,rfl,rfl,by go_num,by omega,HRN,HBN⟩
      ·obtain rfl:kg=j:=by omega
       obtain⟨A9,l9,c9,rfl⟩:=dB HR7.out.val;have HEND:=aH (show aUb w n inj gone (.returned (.tuple #[.slice A9 l9 c9,.bool true])) wf from⟨_,by rw[HTR.out],fun _=>by rw[gA,HKL.out];exact HR7.out,fun h=>absurd (HTR.out.symm.trans h) (by decide),HB.out⟩);clear HR7;go_wp2;go_ret2;exact HEND.out
def pY(q:Rat):Rat:=if q.num<0 then-q else q
theorem aUd{N:Nat}{q:Rat}(h:FitR N q):FitR N (pY q):=by
 unfold pY;split
 ·exact⟨by have:=h.1;unfold Fits at*;rw[Rat.neg_num,Int.natAbs_neg];exact this,by rw[Rat.neg_den];exact h.2⟩
 ·exact h
theorem aUe{x y:Rat}:decide (0<(x.num*(y.den:Int)-y.num*(x.den:Int)).sign)=decide (y<x):=by
 change decide (0<yG x y)=_;rcases aHc x y with h|h|h
 ·rw[h];have:=(aWa _ _).1 h;exact(decide_eq_false (by decide)).trans (decide_eq_false fun k=>absurd this (Rat.not_lt.2 (Rat.le_of_lt k))).symm
 ·rw[h];have:=(aWb _ _).1 h;exact(decide_eq_false (by decide)).trans (decide_eq_false fun k=>by rw[this]at k;exact absurd k (Rat.not_lt.2 Rat.le_refl)).symm
 ·rw[h];exact(decide_eq_true (by decide)).trans (decide_eq_true ((aWc _ _).1 h)).symm
theorem aUf(u:Value)(q:Rat)(w:World)(hu:Rt w u q):Calls Tryz.prog 114 #[u] w (RetRt w (pY q)):=by
 obtain⟨nb,A,l,c,B,m,d,rfl⟩:=hu.bools;obtain⟨hv1,hv2,hb⟩:=aBv w (.bool nb) (.slice A l c) (.bool false) (.slice B m d) (.bool false) (.slice none 0 0) (.bool false) (.slice none 0 0);have HU:=aH (hu.ext hb);have HB:=aH hb;have V1:=aH hv1;have V2:=aH hv2;unfold aM at V1 V2 HU HB;clear hu hb hv1 hv2;go_enter Tryz.func114,Tryz.ntmps114;go_upto_region 1 with(fail)
 generalize(w.alloc (.cells #[.bool nb,.slice A l c,.bool false,.slice B m d] 122)).alloc (.cells #[.bool false,.slice none 0 0,.bool false,.slice none 0 0] 122)=w1 at*;have HS:=aH (jD _ q w1 HU.out);have c0:=V1.out.c0;have c1:=V1.out.c1;have c2:=V1.out.c2;have c3:=V1.out.c3;go_wp2_with fail;refine HS.out.mono ?_;rintro e w2 ⟨rfl,hb⟩;clear HS c0 c1 c2 c3;replace HU:=aH (HU.out.ext hb);replace V1:=aH (V1.out.below hb);replace V2:=aH (V2.out.below hb);replace HB:=bT HB hb;clear hb;have c0:=V1.out.c0;have c1:=V1.out.c1;have c2:=V1.out.c2;have c3:=V1.out.c3;have hgw:w.heap.size≤w.heap.size+1:=by omega
 by_cases hn:q.num<0
 ·have hs:q.num.sign=-1:=Int.sign_eq_neg_one_of_neg hn;rw[hs];have HQ:=aH (show pY q=-q by rw[pY,if_pos hn]);clear hn hs;have HC:=aH (aEt _ q w2 HU.out);go_wp2_with fail;refine HC.out.mono ?_;rintro e w3 ⟨v,rfl,hv,hb⟩;clear HC c0 c1 c2 c3;replace V2:=aH (V2.out.below hb);replace HB:=bT HB hb;clear hb HU V1;obtain⟨nb2,A2,l2,d2,B2,m2,e2,rfl⟩:=hv.bools;have HF:=aH (show RetRt w (pY q) _ _ by rw[HQ.out];exact bP HB.out hgw V2.out hv);have z0:=V2.out.c0;have y0:=V2.out.f0;have z1:=V2.out.c1;have y1:=V2.out.f1;have z2:=V2.out.c2;have y2:=V2.out.f2;have z3:=V2.out.c3;have y3:=V2.out.f3;have HZ:=aH (V2.out.set (.bool nb2) (.slice A2 l2 d2) (.bool false) (.slice B2 m2 e2));unfold set4 at HF HZ;clear hv HB V2;go_wp2;clear z0 z1 z2 z3 y0 y1 y2 y3;have z0:=HZ.out.c0;have z1:=HZ.out.c1;have z2:=HZ.out.c2;have z3:=HZ.out.c3;generalize((((w3.setCell ⟨w.heap.size+1,0,none⟩ (.bool nb2)).setCell ⟨w.heap.size+1,1,none⟩ (.slice A2 l2 d2)).setCell ⟨w.heap.size+1,2,none⟩ (.bool false)).setCell ⟨w.heap.size+1,3,none⟩ (.slice B2 m2 e2))=W at*;exact bodyPost_ret (v:= .agg #[(.bool nb2),(.slice A2 l2 d2),(.bool false),(.slice B2 m2 e2)]) (by simp[results,Tryz.results114,go_sem,z0,z1,z2,z3]) rfl HF.out
 ·have hs:¬q.num.sign<0:=by rw[Int.sign_neg_iff];exact hn
  have hs2:decide (q.num.sign<0)=false:=decide_eq_false hs;have HQ:=aH (show pY q=q by rw[pY,if_neg hn]);clear hn hs;generalize q.num.sign=sg at*;have HF:=aH (show RetRt w (pY q) _ _ by rw[HQ.out];exact bP HB.out hgw V2.out HU.out);have z0:=V2.out.c0;have y0:=V2.out.f0;have z1:=V2.out.c1;have y1:=V2.out.f1;have z2:=V2.out.c2;have y2:=V2.out.f2;have z3:=V2.out.c3;have y3:=V2.out.f3;have HZ:=aH (V2.out.set (.bool nb) (.slice A l c) (.bool false) (.slice B m d));unfold set4 at HF HZ;clear HB V2 HU V1;go_wp2;clear z0 z1 z2 z3 y0 y1 y2 y3;have z0:=HZ.out.c0;have z1:=HZ.out.c1;have z2:=HZ.out.c2;have z3:=HZ.out.c3;generalize((((w2.setCell ⟨w.heap.size+1,0,none⟩ (.bool nb)).setCell ⟨w.heap.size+1,1,none⟩ (.slice A l c)).setCell ⟨w.heap.size+1,2,none⟩ (.bool false)).setCell ⟨w.heap.size+1,3,none⟩ (.slice B m d))=W at*;exact bodyPost_ret (v:= .agg #[(.bool nb),(.slice A l c),(.bool false),(.slice B m d)]) (by simp[results,Tryz.results114,go_sem,z0,z1,z2,z3]) rfl HF.out
def ovB(bs:List BranchD)(l:List Rat)(i:Nat):Bool:=match bs[i]? with
 |some b=>decide (((b.limit:Int):Rat)<pY (l.getD i 0))
 |none=>false
def ovP(bs:List BranchD)(l:List Rat)(k:Nat):List Int:=((List.range k).filter (ovB bs l)).map fun(i:Nat)=>(i:Int)
theorem aUg(bs:List BranchD)(l:List Rat)(k:Nat):ovP bs l (k+1)=ovP bs l k++if ovB bs l k=true then[(k:Int)]else[]:=by
 unfold ovP;rw[List.range_succ,List.filter_append,List.map_append];congr 1;by_cases h:ovB bs l k=true
 ·rw[if_pos h,List.filter_cons,if_pos h];rfl
 ·rw[if_neg h,List.filter_cons,if_neg h];rfl
theorem aXq(bs:List BranchD)(l:List Rat)(k:Nat):(ovP bs l k).length≤k:=by
 have:=List.length_filter_le (ovB bs l) (List.range k);rw[List.length_range]at this;unfold ovP;rw[List.length_map];exact this
theorem aFz{z:Int}(h0:0≤z)(h1:z≤100000):FitR 2 ((z:Int):Rat):=by
 have h:=aAv (n:=z) (d:=1) (by omega) (by decide);rw[show Rat.divInt z 1=(z:Rat)from Rat.mkRat_one z]at h;exact h.mono (by decide)
def ovN(n:NetD)(l:List Rat):List Int:=ovP n.branches l n.branches.length
theorem aGa(z:Int):noWord (I z):=fun m e=>by cases e
theorem aGb(n:NetD)(v:NetV)(l:List Rat)(A:Option Addr)(c:Nat)(w:World)(hN:NetIn w n v)(hr:RV w A n.branches.length l){N:Nat}(hf:FitL N l)(hN1:2≤N)(hN8:N≤100000000)(hb24:n.branches.length≤24)(hok:∀b∈n.branches,0≤b.limit∧b.limit≤100000): Calls Tryz.prog 68 #[v.val n,.slice A n.branches.length c] w fun e w'=>∃B m k,e= .returned (.slice B m k)∧NRow w' w.heap.size 3 (.slice B m k) ((ovN n l).map I)∧m=(ovN n l).length∧Below w.heap.size w w':=by
 have hz:=aD w (Obj.cells (v.parts n) 29);have HN:=aH (hN.below hz);have HG:=aH (Blk.new w 29 (v.parts n));have HB:=aH hz;have HR:=aH (hr.below hz);have HF:=aH hf;have HOK:=aH hok;clear hz hN hr hf hok;obtain⟨na,nc,sa,sc,bra,brc,ga,gac,la,lc,ta,tc⟩:=v;unfold NetV.val NetV.parts at*;simp only at HG HB HN HR⊢;go_enter Tryz.func68,Tryz.ntmps68;go_upto_region 1 with(fail)
 generalize w.alloc (Obj.cells #[.slice na n.nodes.length nc,.slice sa n.switches.length sc,.slice bra n.branches.length brc,.slice ga n.gens.length gac,.slice la n.loads.length lc,.slice ta n.stores.length tc] 29)=w0 at*;have x2:=HG.out.cell 2;have HO0:=aH (show NRow w0 w0.heap.size 3 (.slice none 0 0) ((ovP n.branches l 0).map I)from NRow.nil _ _ _);have HB0:=aH (Below.refl w0.heap.size w0);have HAI:=aH tZ;unfold kO at HAI;obtain⟨nb,hnb⟩:∃q,n.branches.length=q:=⟨_,rfl⟩;have HNB:=aH hnb;rw[hnb]at x2 HR hb24;rw[hnb];clear hnb;go_wp2;clear x2;go_loopg [5,11] (nb-0) (fun r o lv wr=>∃i:Nat,∃vo:Value,o=vo∧r=nb-i∧lv=I i∧i≤nb∧Hid (NRow wr w0.heap.size 3 vo ((ovP n.branches l i).map I))∧Hid (Below w0.heap.size w0 wr));case atStart=>exact⟨0,_,rfl,rfl,rfl,Nat.zero_le _,HO0,HB0⟩
 case round=>
  clear HO0 HB0;obtain⟨i,vo,hvo,rfl,rfl,hi,HO0,HB0⟩:=hrel;replace hvo:=hvo.symm;subst hvo;obtain⟨wa,rfl⟩:=wE wr;by_cases hlt:i<nb
  ·have hin:i<n.branches.length:=by rw[HNB.out];exact hlt
   have HS:=aH (aUg n.branches l i);have HLN:=aH (aXq n.branches l i);obtain⟨bb,off,hba,hbl,hcs⟩:=eQ (f:=BranchD.cells) (sz:=9) (fun _=>rfl) (by omega) (HN.out.below HB0.out).branches hin;have hmem:=HOK.out _ (List.getElem_mem hin);have hov:ovB n.branches l i=decide (((n.branches[i].limit:Int):Rat)<pY (l.getD i 0)):=by rw[ovB,gE hin]
   obtain⟨q,hq⟩:∃q,n.branches[i]=q:=⟨_,rfl⟩;rw[hq]at hcs hmem hov;clear hq;obtain⟨nm,xa,xb,fx,ft,fs,fl,fo,fh⟩:=q;simp only at hmem hov hba;have c0:=hcs 0 _ rfl;have c1:=hcs 1 _ rfl;have c2:=hcs 2 _ rfl;have c3:=hcs 3 _ rfl;have c4:=hcs 4 _ rfl;have c5:=hcs 5 _ rfl;have c6:=hcs 6 _ rfl;have c7:=hcs 7 _ rfl;have c8:=hcs 8 _ rfl;simp only[←Nat.add_assoc,Nat.add_zero]at c0 c1 c2 c3 c4 c5 c6 c7 c8;subst hba;obtain⟨hl0,hl1⟩:=hmem;have HOV:=aH hov;clear hcs hov hbl;go_upto_region 5 with(fail)
   clear c0 c1 c2 c3 c4 c5 c6 c7 c8;have al:=aD wa (Obj.cells #[Value.string nm,Value.string xa,Value.string xb,Value.int IntKind.i64 fx,Value.int IntKind.i64 ft,Value.int IntKind.i64 fs,Value.int IntKind.i64 fl,Value.int IntKind.i64 fo,Value.int IntKind.i64 fh] 41);have HBX:=aH (Blk.new wa 41 #[Value.string nm,Value.string xa,Value.string xb,Value.int IntKind.i64 fx,Value.int IntKind.i64 ft,Value.int IntKind.i64 fs,Value.int IntKind.i64 fl,Value.int IntKind.i64 fo,Value.int IntKind.i64 fh]);replace HO0:=aH (HO0.out.call al);have hbs:=HB0.out.size;replace HB0:=aH (HB0.out.trans (al.mono hbs));clear al hbs;generalize wa.alloc (Obj.cells #[Value.string nm,Value.string xa,Value.string xb,Value.int IntKind.i64 fx,Value.int IntKind.i64 ft,Value.int IntKind.i64 fs,Value.int IntKind.i64 fl,Value.int IntKind.i64 fo,Value.int IntKind.i64 fh] 41)=wb at*;generalize wa.heap.size=g7 at*;obtain⟨x,hx⟩:∃x,l[i]?=some x:=⟨_,gE (by have:=HR.out.len;omega)⟩;have hxd:l.getD i 0=x:=by rw[gD,hx];rfl
   rw[hxd]at HOV;have HFX:=aH (show FitR N x by rw[←hxd];exact HF.out i);have hd:=aT wb;have HOD:=aH (HO0.out.call hd);have HBD:=aH (HB0.out.trans (hd.mono HB0.out.size));have HXD:=aH (HBX.out.below hd HBX.out.lt);clear hd HO0 HB0 HBX;obtain⟨br,orr,t0,B1,l1,k1,B2,l2,k2,e1,hlr,hC4,hRt⟩:=(HR.out.below HBD.out).form hlt x hx;subst e1;have HC:=aH hC4;have HRT:=aH hRt;clear hC4 hRt hx hxd hlr;refine aJ (fun w'=>w'.cell? ⟨br,orr+i*4,none⟩=some (.bool t0)∧w'.cell? ⟨br,orr+i*4+1,none⟩=some (.slice B1 l1 k1)∧w'.cell? ⟨br,orr+i*4+2,none⟩=some (.bool false)∧w'.cell? ⟨br,orr+i*4+3,none⟩=some (.slice B2 l2 k2)∧w'.cell? ⟨g7,6,none⟩=some (I fl)) 9 (by kernel_rfl) ?_;generalize wb.drew=wd at*;have hil:(i:Int)<(nb:Int):=by omega
   refine tkS ⟨HC.out.c0,HC.out.c1,HC.out.c2,HC.out.c3,HXD.out.cell 6⟩ fun hSS=>?_;refine aZ 0 (.slice (some ⟨br,orr,none⟩) nb c) rfl hSS ?_;refine aZ 1 (I i) rfl hSS ?_;refine aZ 2 (.pointer (some ⟨br,orr+i*4,none⟩)) rfl hSS ?_;refine aZ 3 (.agg #[.bool t0,.slice B1 l1 k1,.bool false,.slice B2 l2 k2]) rfl hSS ?_;refine aZ 5 (.pointer (some ⟨g7,6,none⟩)) rfl hSS ?_;refine aZ 6 (I fl) rfl hSS ?_;have HX1:=aH (aUf _ x wd HRT.out);refine on1 4 fun K hK=>?_;go_simp;go_at_call 114;refine HX1.out.mono ?_;rintro e we ⟨va,rfl,hva,hb⟩;clear HX1;replace HOD:=aH (HOD.out.call hb);replace HBD:=bT HBD hb;replace HXD:=bL HXD hb;replace HC:=aH (HC.out.below hb);have HVA:=aH hva;clear hva HRT;clear hb;refine hK.out _ _ (fun _=>⟨HC.out.c0,HC.out.c1,HC.out.c2,HC.out.c3,HXD.out.cell 6⟩) ?_;clear hK K;have HX1:=aH (eJ fl we (by omega) (by omega));refine on1 7 fun K hK=>?_;go_simp;go_at_call 64;refine HX1.out.mono ?_;rintro e wf ⟨vb,rfl,hvb,hb⟩;clear HX1;replace HOD:=aH (HOD.out.call hb);replace HBD:=bT HBD hb;replace HXD:=bL HXD hb;replace HC:=aH (HC.out.below hb);replace HVA:=aH (HVA.out.ext hb);have HVB:=aH hvb;clear hvb;clear hb;refine hK.out _ _ (fun _=>⟨HC.out.c0,HC.out.c1,HC.out.c2,HC.out.c3,HXD.out.cell 6⟩) ?_;clear hK K;have HX1:=aH (aRn va vb (pY x) ((fl:Int):Rat) wf HVA.out HVB.out hN8 (aUd HFX.out) ((aFz hl0 hl1).mono hN1));refine on1 8 fun K hK=>?_;go_simp;go_at_call 117;refine HX1.out.mono ?_;rintro e wg ⟨rfl,hb⟩;clear HX1;replace HOD:=aH (HOD.out.call hb);replace HBD:=bT HBD hb;replace HXD:=bL HXD hb;replace HC:=aH (HC.out.below hb);clear hb;refine hK.out _ _ (fun _=>⟨HC.out.c0,HC.out.c1,HC.out.c2,HC.out.c3,HXD.out.cell 6⟩) ?_;clear hK K;have hgt:=aUe (x:=pY x) (y:=((fl:Int):Rat));generalize((pY x).num*(((fl:Int):Rat).den:Int)-((fl:Int):Rat).num*((pY x).den:Int)).sign=sg at*;rw[←HOV.out]at hgt;cases hob:ovB n.branches l i with
   |true=>
    rw[hob]at hgt;have HS2:=aH (show ovP n.branches l (i+1)=ovP n.branches l i++[(i:Int)] by rw[HS.out,hob];rfl);clear HS HOV;refine on1 9 fun K hK=>?_;go_simp;refine hK.out _ _ (fun h=>absurd h (by decide)) ?_;clear hK K;refine aG (by kernel_rfl) ?_ _;clear HC HXD HVA HVB HFX hob;have hbz:=aD wg (.cells #[I i] 3);have HXW:=aH (oA wg 3 (I i));replace HOD:=aH (HOD.out.call hbz);replace HBD:=bT HBD hbz;clear hbz;have hvl:((ovP n.branches l i).map I).length≤1000:=by rw[List.length_map];have:=HLN.out;omega
    have HT2:=aH (show(ovP n.branches l (i+1)).map I=(ovP n.branches l i).map I++[I i] by rw[HS2.out,List.map_append];rfl);generalize(ovP n.branches l i).map I=xs at*;clear HS2 hgt;go_wp2_with(at_builtin;refine sZ rfl _ _ HAI.out rfl w0.heap.size vo xs rfl HOD.out (some ⟨wg.heap.size,0,none⟩) 1 1 rfl [I i] HXW.out (fun u hu=>by rw[List.mem_singleton.1 hu];exact⟨aGa _,rfl⟩) (by omega) HBD.out.size ?_);intro v5 w5x hap;have HNN:=aH (show NRow w5x w0.heap.size 3 v5 ((ovP n.branches l (i+1)).map I) by rw[HT2.out];exact hap.row);have HBN:=aH (HBD.out.trans (hap.below HOD.out HBD.out.size));clear hap HOD HBD HXW HT2 hvl;go_wp2;go_roundg (nb-(i+1));case measure=>omega
    case rel=>exact⟨i+1,_,rfl,rfl,by go_num,by omega,HNN,HBN⟩
   |false=>
    rw[hob]at hgt;have HS2:=aH (show ovP n.branches l (i+1)=ovP n.branches l i++[] by rw[HS.out,hob];rfl);clear HS HOV;refine on1 9 fun K hK=>?_;go_simp;refine hK.out _ _ (fun h=>absurd h (by decide)) ?_;clear hK K;refine aG (by kernel_rfl) ?_ _;clear HC HXD HVA HVB HFX hob;have HNN:=aH (show NRow wg w0.heap.size 3 vo ((ovP n.branches l (i+1)).map I) by rw[HS2.out,List.append_nil];exact HOD.out);have HBN:=HBD;clear HS2 HOD;go_wp2;go_roundg (nb-(i+1));case measure=>omega
    case rel=>exact⟨i+1,_,rfl,rfl,by go_num,by omega,HNN,HBN⟩
  ·obtain rfl:i=nb:=by omega
   have hg:=HO0.out;have hb:=HB0.out;obtain⟨A9,c9,rfl⟩:=hg.val;have HE:=aH (show NRow wa w.heap.size 3 (.slice A9 ((ovP n.branches l i).map I).length c9) ((ovN n l).map I) by rw[ovN,HNB.out];exact hg.less HB.out.size);have HL9:=aH (show((ovP n.branches l i).map I).length=(ovN n l).length by rw[ovN,HNB.out,List.length_map]);clear hg HO0 hi hlt;generalize((ovP n.branches l i).map I).length=m9 at*;go_wp2;go_ret;exact⟨_,_,_,rfl,HE.out,HL9.out,HB.out.trans (hb.mono HB.out.size)⟩
end
end Go.Proofs.YtenbglfkdldheaaGreatDoor
