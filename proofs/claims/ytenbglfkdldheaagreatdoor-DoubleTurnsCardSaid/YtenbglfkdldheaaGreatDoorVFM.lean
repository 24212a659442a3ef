/- Integers of at most so many digits; solutions of systems of whole numbers are quotients of determinants. Plain facts. No program here. Power flows: the sizes of angles and flows, and the sum of flows at a bus. Plain facts. No program here. Power flows: a network's angles solve its equations; the sizes of its numbers. Plain facts. Power flows: the sizes of angles and flows of a small network. Plain facts. Power flows: the plain laws of FlowProves, FlowRefuses and FlowSwitches. Power flows: sums of injections and of numbers, number by number; what is linear. Plain facts. -/
import Derived.Test.YtenbglfkdldheaaGreatDoorVFL
namespace Go.Proofs.YtenbglfkdldheaaGreatDoor
def IB(B:Nat)(x:Rat):Prop:=∃z:Int,x=(z:Rat)∧z.natAbs≤B
def Ten(k:Nat)(x:Rat):Prop:=IB (10^k) x
def Ov(k:Nat)(e f:Rat):Prop:=Ten k (f*e)
def kY(x:Nat→Rat)(v:Nat):List kU→Rat
 |[]=>0
 |e::es=>(if e.1=v then e.2.2*(x e.1-x e.2.1)else 0)+(if e.2.1=v then e.2.2*(x e.2.1-x e.1)else 0)+kY x v es
theorem aCa(a b:Rat)(x y:Nat→Rat)(v:Nat):∀es,kY (fun u=>a*x u+b*y u) v es=a*kY x v es+b*kY y v es
 |[]=>by simp only[kY];grind
 |e::es=>by
  have ih:=aCa a b x y v es;simp only[kY,ih];split<;>split<;>grind
def sE(n:Nat)(A:Nat→Nat→Rat)(x:Nat→Rat)(i:Nat):Rat:=sm n fun j=>A i j*x j
theorem kZ{n a b:Nat}(hb:b<n)(A:Nat→Nat→Rat)(c:Rat)(x:Nat→Rat)(i:Nat):sE n (fD A a b c) x i=sE n A x i+if i=a then c*x b else 0:=by
 have e:(fun j=>fD A a b c i j*x j)=fun j=>A i j*x j+(if i=a∧j=b then c*x j else 0):=by
  funext j;rw[fD];split<;>grind
 rw[sE,e,pR];congr 1;by_cases ha:i=a
 ·rw[if_pos ha,lY b n hb fun j _ hj=>if_neg fun k=>hj k.2,if_pos ⟨ha,rfl⟩]
 ·rw[if_neg ha];exact fB n fun j _=>if_neg fun k=>ha k.1
def Inj(pl:Nat→Int):Prop:=∀u v,0≤pl u→pl u=pl v→u=v
theorem aJn{n:Nat}{pl:Nat→Int}(hp:∀v,pl v<n)(hi:Inj pl)(A:Nat→Nat→Rat)(u v:Nat)(b:Rat)(x:Nat→Rat)(w:Nat)(hw:0≤pl w): sE n (iL pl A u v b) x (pl w).toNat=sE n A x (pl w).toNat+((if u=w then b*(dF pl x u-dF pl x v)else 0)+(if v=w then b*(dF pl x v-dF pl x u)else 0)):=by
 by_cases h:u=v
 ·subst h;rw[iL,if_pos rfl];split<;>grind
 ·rw[iL,if_neg h,dF,dF];have hu:=hp u;have hv:=hp v;have e1:0≤pl u→((pl w).toNat=(pl u).toNat↔u=w):=fun h0=>⟨fun e=>hi u w h0 (by omega),fun e=>by rw[e]⟩;have e2:0≤pl v→((pl w).toNat=(pl v).toNat↔v=w):=fun h0=>⟨fun e=>hi v w h0 (by omega),fun e=>by rw[e]⟩;have n1:¬0≤pl u→u≠w:=fun h0 e=>h0 (by rw[e];exact hw);have n2:¬0≤pl v→v≠w:=fun h0 e=>h0 (by rw[e];exact hw);simp only;by_cases h1:0≤pl u
  ·by_cases h2:0≤pl v
   ·rw[if_pos ⟨h1,h2⟩,if_pos h2,if_pos h1,if_pos h1,if_pos h2,kZ (by omega),kZ (by omega),kZ (by omega),kZ (by omega)];simp only[e1 h1,e2 h2];split<;>split<;>grind
   ·rw[if_neg (fun k=>h2 k.2),if_neg h2,if_pos h1,if_pos h1,if_neg h2,kZ (by omega)];simp only[e1 h1,n2 h2,if_false];split<;>grind
  ·by_cases h2:0≤pl v
   ·rw[if_neg (fun k=>h1 k.1),if_pos h2,if_neg h1,if_neg h1,if_pos h2,kZ (by omega)];simp only[e2 h2,n1 h1,if_false];split<;>grind
   ·rw[if_neg (fun k=>h1 k.1),if_neg h2,if_neg h1,if_neg h1,if_neg h2];simp only[n1 h1,n2 h2,if_false];grind
theorem zX{n:Nat}{pl:Nat→Int}(hp:∀v,pl v<n)(hi:Inj pl)(x:Nat→Rat)(w:Nat)(hw:0≤pl w):∀(es:List kU) (A:Nat→Nat→Rat),sE n (qO pl A es) x (pl w).toNat=sE n A x (pl w).toNat+kY (dF pl x) w es
 |[],A=>by rw[qO,List.foldl_nil,kY];grind
 |e::es,A=>by
  have ih:=zX hp hi x w hw es (iL pl A e.1 e.2.1 e.2.2);rw[qO]at ih;rw[qO,List.foldl_cons,ih,aJn hp hi A e.1 e.2.1 e.2.2 x w hw,kY];grind
theorem qU{free:List Int}(hd:free.Nodup){k:Nat}(hk:k<free.length){v:Nat}:Lib.idxOf free (v:Int)=k↔(v:Int)=free.getD k 0:=by
 constructor
 ·intro e;have h2:=iK (v:Int) free 0 (by have:=fL free (v:Int);unfold Lib.idxOf at this e;omega);change free.getD ((Lib.idxOf free (v:Int)).toNat-0) 0=(v:Int)at h2;rw[e]at h2;rw[←h2];congr 1
 ·intro e;rw[e];exact vE hd hk
theorem dO(l:List Rat)(u i:Nat)(x:Rat):(l.set u x).getD i 0=if u=i∧i<l.length then x else l.getD i 0:=by
 by_cases e:u=i
 ·subst e;by_cases h:u<l.length
  ·rw[if_pos ⟨rfl,h⟩,gD,List.getElem?_set_self h];rfl
  ·rw[if_neg (fun k=>h k.2),gD,List.getElem?_eq_none (by rw[List.length_set];omega),gD,List.getElem?_eq_none (by omega)]
 ·rw[if_neg (fun k=>e k.1),gD,List.getElem?_set_ne e,←gD]
theorem qV(nb i:Nat):(List.replicate nb (0:Rat)).getD i 0=0:=by
 rw[gD,List.getElem?_replicate];split<;>rfl
theorem aUf{nb:Nat}{free:List Int}(hd:free.Nodup)(hr:∀f∈free,0≤f∧f<nb)(inv:MQ)(x:List Rat)(v:Nat):∀k,k≤free.length→ (thK nb free inv x k).getD v 0=if 0≤Lib.idxOf free (v:Int)∧Lib.idxOf free (v:Int)<k then lG (inv.getD (Lib.idxOf free (v:Int)).toNat []) x else 0
 |0,_=>by
  rw[thK,qV,if_neg (by omega)]
 |k+1,hk=>by
  have ih:=aUf hd hr inv x v k (by omega);have hf:=qU hd (k:=k) (by omega) (v:=v);have hm:=hr _ (bV (l:=free) (k:=k) (by omega));rw[thK,dO,nY,ih];by_cases e:Lib.idxOf free (v:Int)=k
  ·have e2:=hf.1 e;rw[if_pos ⟨by omega,by omega⟩,if_pos (by omega),e,Int.toNat_natCast]
  ·have e2:¬(v:Int)=free.getD k 0:=fun h=>e (hf.2 h);rw[if_neg (fun h=>e2 (by omega))];by_cases h:0≤Lib.idxOf free (v:Int)∧Lib.idxOf free (v:Int)<k
   ·rw[if_pos h,if_pos (by omega)]
   ·rw[if_neg h,if_neg (by omega)]
def plN(n:NetD):Nat→Int:=fun x:Nat=>Lib.idxOf (aF n) x
def esN(n:NetD):List kU:=esL (bB n) (toL n) (bLQ n) n.branches.length
def thN(n:NetD)(r:List Rat):List Rat:=thQ (nbN n) (aF n) (iM n) r
def xN(n:NetD)(r:List Rat)(i:Nat):Rat:=lG ((iM n).getD i []) (bN (aF n) r)
theorem jW(n:NetD):(aF n).Nodup:=mW _ _
theorem jN(n:NetD)(r:List Rat)(v:Nat):(thN n r).getD v 0=dF (plN n) (xN n r) v:=by
 unfold thN thQ;rw[aUf (jW n) (fun f hf=>qS f hf) _ _ v _ lR,dF];have h1:=fL (aF n) (v:Int);by_cases h:0≤plN n v
 ·have h2:0≤Lib.idxOf (aF n) (v:Int):=h;rw[if_pos h,if_pos ⟨h2,by omega⟩];rfl
 ·have h2:¬0≤Lib.idxOf (aF n) (v:Int):=h;rw[if_neg h,if_neg (fun k=>h2 k.1)]
theorem aCb(n:NetD)(v:Nat):plN n v<nfN n:=by
 have:=fL (aF n) (v:Int);show Lib.idxOf (aF n) (v:Int)<((aF n).length:Int);omega
theorem aMy(n:NetD):Inj (plN n):=by
 intro u v h0 he;have h1:=fL (aF n) (u:Int);change 0≤Lib.idxOf (aF n) (u:Int)at h0;change Lib.idxOf (aF n) (u:Int)=Lib.idxOf (aF n) (v:Int)at he;have a:=(qU (jW n) (k:=(Lib.idxOf (aF n) (u:Int)).toNat) (by omega) (v:=u)).1 (by omega);have b:=(qU (jW n) (k:=(Lib.idxOf (aF n) (u:Int)).toNat) (by omega) (v:=v)).1 (by omega);omega
theorem zY{n:NetD}{v:Nat}(h:(v:Int)∈aF n):0≤plN n v∧(aF n).getD (plN n v).toNat 0=v:=by
 rcases fL (aF n) (v:Int)with h1|h1
 ·exact absurd h (sC _ 0 h1)
 ·refine⟨h1.1,?_⟩;exact((qU (jW n) (k:=(Lib.idxOf (aF n) (v:Int)).toNat) (by omega) (v:=v)).1 (by omega)).symm
theorem aMz{n:NetD}(h:VNet n):at2 (fwM n)=qO (plN n) (fun _ _=>0) (esN n):=zU rfl (fun x hx=>(zR h x hx).1) (fun x hx=>(zS h x hx).1) _ (by simp[bB]) (by simp[toL])
theorem aUg{n:NetD}(h:VNet n)(r:List Rat){i:Nat}(hi:i<nfN n):(sm (nfN n) fun j=>at2 (fwM n) i j*xN n r j)=(bN (aF n) r).getD i 0:=by
 have hinv:=aPk (kG n) (fun k=>aEs h ((aIg (kG n)).1 k));have hx:∀j,j<nfN n→xN n r j=sm (nfN n) fun k=>at2 (iM n) j k*(bN (aF n) r).getD k 0:=fun j hj=>by
  unfold xN lG;rw[(kX n).rowlen hj];rfl
 have e1:(sm (nfN n) fun j=>at2 (fwM n) i j*xN n r j)=sm (nfN n) fun j=>sm (nfN n) fun k=>at2 (fwM n) i j*at2 (iM n) j k*(bN (aF n) r).getD k 0:=aV _ fun j hj=>by
   rw[hx j hj,←lX];exact aV _ fun k _=>by rw[Rat.mul_assoc]
 rw[e1,uD];have e2:(sm (nfN n) fun k=>sm (nfN n) fun j=>at2 (fwM n) i j*at2 (iM n) j k*(bN (aF n) r).getD k 0)=sm (nfN n) fun k=>at2 (idQ (nfN n)) i k*(bN (aF n) r).getD k 0:=aV _ fun k hk=>by
   have h2:at2 (aDb (fwM n) (iM n) (nfN n)) i k=at2 (idQ (nfN n)) i k:=by
    show at2 (aDb (fwM n) (xH (fwM n) (aF n).length) (aF n).length) i k=_;rw[hinv];rfl
   rw[aHv (kG n) hi hk]at h2;rw[←h2,Rat.mul_comm,←lX];exact aV _ fun j _=>by
    show _=(bN (aF n) r).getD k 0*(at2 (fwM n) i j*at2 (iM n) j k);rw[Rat.mul_comm]
 rw[e2,lY i _ hi fun k hk hne=>by rw[aFo hi hk,if_neg (fun e=>hne e.symm),Rat.zero_mul],aFo hi hi,if_pos rfl,Rat.one_mul]
theorem jD{free:List Int}{r:List Rat}{i:Nat}(hi:i<free.length):(bN free r).getD i 0=r.getD (free.getD i 0).toNat 0:=by
 unfold bN;rw[gD,List.getElem?_map,gD (l:=free),gE hi];rfl
theorem aEz{n:NetD}(h:VNet n)(r:List Rat){v:Nat}(hv:(v:Int)∈aF n):kY (fun u=>(thN n r).getD u 0) v (esN n)=r.getD v 0:=by
 obtain⟨h1,h2⟩:=zY hv;have hl:=aCb n v;have e:=zX (n:=nfN n) (aCb n) (aMy n) (xN n r) v h1 (esN n) (fun _ _=>0);rw[←aMz h]at e;have e2:sE (nfN n) (at2 (fwM n)) (xN n r) (plN n v).toNat=r.getD v 0:=by
  rw[sE,aUg h r (by omega),jD (show(plN n v).toNat<(aF n).length by unfold nfN at hl;omega),h2,Int.toNat_natCast]
 have e3:sE (nfN n) (fun _ _=>(0:Rat)) (xN n r) (plN n v).toNat=0:=fB _ fun j _=>Rat.zero_mul _;rw[e2,e3]at e;rw[show(fun u=>(thN n r).getD u 0)=dF (plN n) (xN n r)from funext fun u=>jN n r u,e];grind
theorem vF(n:NetD)(r:List Rat){v:Nat}(hv:(v:Int)∉aF n):(thN n r).getD v 0=0:=by
 rw[jN,dF,if_neg];show¬0≤Lib.idxOf (aF n) (v:Int);rw[qP hv];decide
theorem aHi{n:NetD}(h:VNet n){r:List Rat}{x:Nat→Rat}(h0:∀v:Nat,(v:Int)∉aF n→x v=0)(hb:∀v:Nat,(v:Int)∈aF n→kY x v (esN n)=r.getD v 0):∀v,x v=(thN n r).getD v 0:=by
 have hz:∀i,i<nfN n→x ((aF n).getD i 0).toNat-xN n r i=0:=by
  have hfr:∀i,i<nfN n→((((aF n).getD i 0).toNat:Nat):Int)=(aF n).getD i 0:=fun i hi=>Int.toNat_of_nonneg (qS _ (bV (l:=aF n) hi)).1;have hhat:dF (plN n) (fun i=>x ((aF n).getD i 0).toNat)=x:=by
   funext v;rw[dF];by_cases hv:(v:Int)∈aF n
   ·obtain⟨h1,h2⟩:=zY hv;rw[if_pos h1,h2,Int.toNat_natCast]
   ·rw[if_neg,h0 v hv];show¬0≤Lib.idxOf (aF n) (v:Int);rw[qP hv];decide
  refine aFv (aEs h) fun i hi=>?_;have hm:(aF n).getD i 0∈aF n:=bV (l:=aF n) hi;have hi2:=hfr i hi;have hpl:plN n ((aF n).getD i 0).toNat=i:=by
   show Lib.idxOf (aF n) ((((aF n).getD i 0).toNat:Nat):Int)=i;rw[hi2];exact vE (jW n) hi
  have e1:=zX (n:=nfN n) (aCb n) (aMy n) (fun i=>x ((aF n).getD i 0).toNat) ((aF n).getD i 0).toNat (by rw[hpl];omega) (esN n) (fun _ _=>0);rw[←aMz h,hhat,hpl,Int.toNat_natCast,hb _ (by rw[hi2];exact hm)]at e1;have e3:sE (nfN n) (fun _ _=>(0:Rat)) (fun i=>x ((aF n).getD i 0).toNat) i=0:=fB _ fun j _=>Rat.zero_mul _;rw[e3]at e1;have e2:=aUg h r hi;rw[jD (r:=r) hi]at e2;have e4:(sm (nfN n) fun k=>at2 (fwM n) i k*(x ((aF n).getD k 0).toNat-xN n r k))=sE (nfN n) (at2 (fwM n)) (fun i=>x ((aF n).getD i 0).toNat) i-sm (nfN n) fun j=>at2 (fwM n) i j*xN n r j:=by
   have:=aAt 1 (-1) (fun k=>at2 (fwM n) i k*x ((aF n).getD k 0).toNat) (fun k=>at2 (fwM n) i k*xN n r k) (nfN n);rw[sE];have e5:(sm (nfN n) fun k=>at2 (fwM n) i k*(x ((aF n).getD k 0).toNat-xN n r k))=sm (nfN n) fun k=>1*(at2 (fwM n) i k*x ((aF n).getD k 0).toNat)+-1*(at2 (fwM n) i k*xN n r k):=aV _ fun k _=>by grind
   rw[e5,this];grind
  change(sm (nfN n) fun k=>at2 (fwM n) i k*(x ((aF n).getD k 0).toNat-xN n r k))=0;rw[e4,e1,e2];grind
 intro v;rw[jN,dF];by_cases hv:(v:Int)∈aF n
 ·obtain⟨h1,h2⟩:=zY hv;have hl:=aCb n v;have:=hz (plN n v).toNat (by omega);rw[h2,Int.toNat_natCast]at this;rw[if_pos h1];grind
 ·rw[if_neg,h0 v hv];show¬0≤Lib.idxOf (aF n) (v:Int);rw[qP hv];decide
def sZ(n:NetD):Bool:=decide (8<n.nodes.length)||decide (10<n.branches.length)||decide (10<n.switches.length)
theorem vG{n:NetD}(h:sZ n=false):n.nodes.length≤8∧n.branches.length≤10∧n.switches.length≤10:=by
 unfold sZ at h;simp only[Bool.or_eq_false_iff,decide_eq_false_iff_not]at h;omega
theorem aUx{n:NetD}(h:VNet n)(h8:n.nodes.length≤8):nbN n≤8:=by
 have hm:=jY (l:=aI n) (N:=8) (by omega) (by
  intro x hx;obtain⟨i,hi,rfl⟩:=List.getElem_of_mem hx;have hl:=dP h;have:=jS h i (by omega) (by omega);simp only[at_,Int.toNat_natCast,gD,gE hi,Option.getD_some]at this;omega)
 unfold nbN;rw[aB,jG];split
 ·simp only[oA];omega
 ·simp
def DN(n:NetD):Rat:=((gC (bLQ n):Nat):Rat)
def Small(n:NetD)(r:List Rat):Prop:=∀i,IB (10^91) (1000*(DN n*r.getD i 0))
structure Scale(n:NetD)(e:Rat):Prop where
 ne:e≠0
 sz:Ten 830 e
 th:∀r,Small n r→∀v,Ov 828 e ((thN n r).getD v 0)
 df:∀r,Small n r→∀b∈n.branches,∀u v,Ov 828 e (bQ b*((thN n r).getD u 0-(thN n r).getD v 0))
 cc:∀b∈n.branches,Ov 828 e (cQ b)
theorem zZ(l:List Rat):(mkS (l.map cF)).length=l.length:=by simp[mkS]
theorem lA(n:NetD)(inj:List Int):(iN n inj).length=n.branches.length:=aRj _ _
def dG(a b:List Rat):List Rat:=List.zipWith (·+ ·) a b
theorem dH{a b:List Rat}(hl:a.length=b.length)(j:Nat):(dG a b).getD j 0=a.getD j 0+b.getD j 0:=by
 unfold dG;rw[gD,List.getElem?_zipWith,gD,gD];by_cases h:j<a.length
 ·rw[gE h,gE (by omega)];rfl
 ·rw[List.getElem?_eq_none (by omega),List.getElem?_eq_none (by omega)];simp[Rat.add_zero]
theorem jX{a b:List Rat}(hl:a.length=b.length)(h:∀j,j<a.length→a.getD j 0=b.getD j 0):a=b:=by
 refine List.ext_getElem hl fun j h1 h2=>?_;have:=h j h1;rw[gD,gE h1,gD,gE h2]at this;exact this
theorem aNa{x a b:List Rat}(hl:a.length=b.length):lG x (dG a b)=lG x a+lG x b:=by
 unfold lG;rw[←pR];exact aV _ fun i _=>by rw[dH hl];grind
theorem aJo{free:List Int}{a b:List Rat}(hl:a.length=b.length):bN free (dG a b)=dG (bN free a) (bN free b):=by
 refine jX (by simp[dG,bN]) fun j hj=>?_;have hj:j<free.length:=by simpa[bN]using hj
 rw[dH (by simp[bN]),jD hj,jD hj,jD hj,dH hl]
theorem cV(n:NetD)(r:List Rat):(thN n r).length=nbN n:=nY _ _ _ _ _
theorem tZ{n:NetD}{a b:List Rat}(hl:a.length=b.length):thN n (dG a b)=dG (thN n a) (thN n b):=by
 refine jX (by simp[dG,cV]) fun j _=>?_;rw[dH (by rw[cV,cV]),jN,jN,jN];unfold dF xN;split
 ·rw[aJo hl,aNa (by simp[bN])]
 ·grind
end Go.Proofs.YtenbglfkdldheaaGreatDoor
