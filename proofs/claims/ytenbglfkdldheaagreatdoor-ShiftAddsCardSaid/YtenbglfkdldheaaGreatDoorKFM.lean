/- Integers of at most so many digits; solutions of systems of whole numbers are quotients of determinants. Plain facts. No program here. Power flows: the sizes of angles and flows, and the sum of flows at a bus. Plain facts. No program here. Power flows: a network's angles solve its equations; the sizes of its numbers. Plain facts. Power flows: the sizes of angles and flows of a small network. Plain facts. Power flows: the plain laws of FlowProves, FlowRefuses and FlowSwitches. Power flows: sums of injections and of numbers, number by number; what is linear. Plain facts. -/
import Derived.Test.YtenbglfkdldheaaGreatDoorKFL
namespace Go.Proofs.YtenbglfkdldheaaGreatDoor
def IB(B:Nat)(x:Rat):Prop:=∃z:Int,x=(z:Rat)∧z.natAbs≤B
theorem IB.mono{B C:Nat}{x:Rat}(h:IB B x)(hm:B≤C):IB C x:=by
 obtain⟨z,e,hz⟩:=h;exact⟨z,e,Nat.le_trans hz hm⟩
theorem IB.zero(B:Nat):IB B 0:=⟨0,rfl,Nat.zero_le _⟩
theorem IB.mul{B C:Nat}{x y:Rat}(hx:IB B x)(hy:IB C y):IB (B*C) (x*y):=by
 obtain⟨a,rfl,ha⟩:=hx;obtain⟨b,rfl,hb⟩:=hy;exact⟨a*b,by rw[Rat.intCast_mul],by rw[Int.natAbs_mul];exact Nat.mul_le_mul ha hb⟩
theorem IB.add{B C:Nat}{x y:Rat}(hx:IB B x)(hy:IB C y):IB (B+C) (x+y):=by
 obtain⟨a,rfl,ha⟩:=hx;obtain⟨b,rfl,hb⟩:=hy;exact⟨a+b,by rw[Rat.intCast_add],Nat.le_trans (Int.natAbs_add_le a b) (Nat.add_le_add ha hb)⟩
theorem IB.neg{B:Nat}{x:Rat}(hx:IB B x):IB B (-x):=by
 obtain⟨a,rfl,ha⟩:=hx;exact⟨-a,by rw[Rat.intCast_neg],by rw[Int.natAbs_neg];exact ha⟩
theorem IB.sub{B C:Nat}{x y:Rat}(hx:IB B x)(hy:IB C y):IB (B+C) (x-y):=by
 rw[Rat.sub_eq_add_neg];exact hx.add hy.neg
theorem IB.sum{B:Nat}{f:Nat→Rat}:∀(n:Nat),(∀i,i<n→IB B (f i))→IB (n*B) (sm n f)
 |0,_=>IB.zero _
 |n+1,h=>by
  rw[sm,Nat.add_mul,Nat.one_mul];exact(IB.sum n fun i hi=>h i (by omega)).add (h n (by omega))
theorem IB.sg_mul{B:Nat}{x:Rat}(i:Nat)(h:IB B x):IB B (sg i*x):=by
 unfold sg;split
 ·rw[Rat.one_mul];exact h
 ·rw[show(-1:Rat)*x=-x by grind];exact h.neg
theorem IB.det{B:Nat}:∀(n:Nat) (A:Nat→Nat→Rat),(∀i j,i<n→j<n→IB B (A i j))→IB ((n*B)^n) (det n A):=by
 intro n;induction n with
 |zero=>intro A _;exact⟨1,rfl,by simp⟩
 |succ n ih=>
  intro A h;rw[Proofs.YtenbglfkdldheaaGreatDoor.det];have hs:=IB.sum (B:=B*(n*B)^n) (f:=fun i=>sg i*A i 0*Proofs.YtenbglfkdldheaaGreatDoor.det n (fun r c=>A (sk i r) (c+1))) (n+1) fun i hi=>
   ((h i 0 hi (by omega)).sg_mul i).mul (ih (fun r c=>A (sk i r) (c+1)) fun a b ha hb=>h _ _ (by unfold sk;split<;>omega) (by omega))
  refine hs.mono ?_;rw[Nat.pow_succ,←Nat.mul_assoc,Nat.mul_comm (((n+1)*B)^n)];exact Nat.mul_le_mul_left _ (Nat.pow_le_pow_left (Nat.mul_le_mul_right _ (Nat.le_succ n)) n)
theorem aOm{A B k:Nat}{x a b:Rat}(ha:IB A a)(hb:IB B b)(h0:b≠0)(h:x*b=a)(hA:A<10^k)(hB:B<10^k):SzQ x k:=by
 obtain⟨p,rfl,hp⟩:=ha;obtain⟨q,rfl,hq⟩:=hb;have e:x=Rat.divInt p q:=by
  rw[Rat.divInt_eq_div,←h,Rat.div_def,Rat.mul_assoc,Rat.mul_inv_cancel _ h0,Rat.mul_one]
 have hle:=jD p q;rw[←e]at hle;have hq0:q≠0:=fun e=>h0 (by rw[e];rfl);have h2:=hle.2;have h3:max 1 q.natAbs=q.natAbs:=by omega
 rw[h3]at h2;exact⟨Nat.lt_of_le_of_lt (Nat.le_trans hle.1 hp) hA,Nat.lt_of_le_of_lt (Nat.le_trans h2 hq) hB⟩
theorem aCh{n:Nat}(A:Nat→Nat→Rat){j:Nat}(hj:j<n)(x:Nat→Rat):∀m,m≤n→det n (upd A j fun c=>sm m fun i=>x i*A i c)=(if j<m then x j else 0)*det n A
 |0,_=>by
  rw[if_neg (by omega),Rat.zero_mul];exact lY hj fun c=>by rw[aX];rfl
 |m+1,hm=>by
  have ih:=aCh A hj x m (by omega);have e:(fun c=>sm (m+1) fun i=>x i*A i c)=fun c=>1*(sm m fun i=>x i*A i c)+x m*A m c:=by
   funext c;rw[sm];grind
  rw[e,lX 1 (x m) (fun c=>sm m fun i=>x i*A i c) (A m) n A j hj,ih];by_cases h:j=m
  ·subst h;rw[eK,if_neg (by omega),if_pos (by omega)];grind
  ·have e2:det n (upd A j (A m))=0:=nL (i:=j) (k:=m) hj (by omega) h fun c=>by rw[aX,cL _ _ (fun k=>h k.symm)]
   rw[e2];by_cases h2:j<m
   ·rw[if_pos h2,if_pos (by omega)];grind
   ·rw[if_neg h2,if_neg (by omega)];grind
theorem aKg{n B C:Nat}{A:Nat→Nat→Rat}{x b:Nat→Rat}(hA:∀i j,i<n→j<n→IB B (A i j))(hb:∀i,i<n→IB C (b i))(hBC:B≤C)(hs:∀c,c<n→(sm n fun i=>x i*A i c)=b c){j:Nat}(hj:j<n): IB ((n*C)^n) (x j*det n A):=by
 have h:=aCh A hj x n (Nat.le_refl n);rw[if_pos hj]at h;rw[←h];refine IB.det n _ fun i c hi hc=>?_;by_cases e:i=j
 ·subst e;rw[aX,hs c hc];exact hb c hc
 ·rw[cL _ _ e];exact(hA i c hi hc).mono hBC
theorem zY{a b:Rat}(ha:a≠0)(hb:b≠0):a*b≠0:=fun e=>by
 rcases Rat.mul_eq_zero.1 e with h|h
 ·exact ha h
 ·exact hb h
theorem aYm{n k:Nat}(hn:n≤8):(n*10^k)^n≤10^((k+1)*8):=by
 refine Nat.le_trans (Nat.pow_le_pow_left (m:=10^(k+1)) ?_ n) ?_
 ·rw[Nat.pow_succ,Nat.mul_comm (10^k)];exact Nat.mul_le_mul_right _ (by omega)
 ·rw[Nat.pow_mul];exact Nat.pow_le_pow_right (Nat.pow_pos (by decide)) hn
theorem IB.ten{k l:Nat}{x:Rat}(h:IB (10^k) x)(hk:k≤l):IB (10^l) x:=h.mono (Nat.pow_le_pow_right (by decide) hk)
def Ten(k:Nat)(x:Rat):Prop:=IB (10^k) x
theorem Ten.ten{k l:Nat}{x:Rat}(h:Ten k x)(hk:k≤l):Ten l x:=IB.ten h hk
theorem aHs{n k:Nat}{x:Rat}(h:IB ((n*10^k)^n) x)(hn:n≤8):Ten ((k+1)*8) x:=h.mono (aYm hn)
theorem gF{k l:Nat}{x y:Rat}(h:Ten k x)(h2:Ten l y):Ten (k+l) (x*y):=by
 unfold Ten at*;rw[Nat.pow_add];exact h.mul h2
theorem aOn{k:Nat}{x y:Rat}(h:Ten k x)(h2:Ten k y):Ten (k+1) (x+y):=by
 refine(IB.add h h2).mono ?_;rw[Nat.pow_succ];generalize 10^k=z;omega
theorem aWs{k:Nat}{x y:Rat}(h:Ten k x)(h2:Ten k y):Ten (k+1) (x-y):=by
 rw[Rat.sub_eq_add_neg];exact aOn h (IB.neg h2)
def Ov(k:Nat)(e f:Rat):Prop:=Ten k (f*e)
theorem Ov.sz{k:Nat}{e f:Rat}(h:Ov k e f)(he:Ten k e)(h0:e≠0):SzQ f (k+1):=by
 have:10^k<10^(k+1):=Nat.pow_lt_pow_right (by decide) (by omega);exact aOm (A:=10^k) (B:=10^k) h he h0 rfl this this
theorem Ov.mono{k l:Nat}{e f:Rat}(h:Ov k e f)(hk:k≤l):Ov l e f:=IB.mono h (Nat.pow_le_pow_right (by decide) hk)
theorem Ov.add{k:Nat}{e f g:Rat}(h:Ov k e f)(h2:Ov k e g):Ov (k+1) e (f+g):=by
 unfold Ov at*;rw[Rat.add_mul];exact aOn h h2
theorem aTr(x:Rat):x*((x.den:Nat):Rat)=(x.num:Rat):=by
 have h1:=Rat.num_divInt_den x;rw[Rat.divInt_eq_div]at h1;have hd:(((x.den:Nat):Int):Rat)≠0:=by
  have:=x.den_pos;intro e0;have:(x.den:Int)=0:=by exact_mod_cast e0
  omega
 show x*(((x.den:Nat):Int):Rat)=(x.num:Rat);rw[Rat.div_def]at h1;grind
theorem tM{D b:Rat}{N B:Nat}{A:Nat→Nat→Rat}(h:∀a c,IB N (D*A a c))(hb:IB B (D*b))(i j a c:Nat):IB (N+B) (D*dW A i j b a c):=by
 unfold dW;split
 ·rw[Rat.mul_add];exact(h a c).add hb
 ·exact(h a c).mono (by omega)
theorem aKh{D b:Rat}{N B:Nat}{A:Nat→Nat→Rat}(h:∀a c,IB N (D*A a c))(hb:IB B (D*b))(pl:Nat→Int)(u v a c:Nat):IB (N+4*B) (D*iM pl A u v b a c):=by
 have hn:IB B (D*-b):=by rw[Rat.mul_neg];exact hb.neg
 unfold iM;split
 ·exact(h a c).mono (by omega)
 ·have h1:∀a c,IB (N+B) (D*(if 0≤pl u then dW A (pl u).toNat (pl u).toNat b else A) a c):=fun a c=>by
   split
   ·exact tM h hb _ _ a c
   ·exact(h a c).mono (by omega)
  have h2:∀a c,IB (N+B+B) (D*(if 0≤pl v then dW (if 0≤pl u then dW A (pl u).toNat (pl u).toNat b else A) (pl v).toNat (pl v).toNat b else(if 0≤pl u then dW A (pl u).toNat (pl u).toNat b else A)) a c):=fun a c=>by
   split
   ·exact tM h1 hb _ _ a c
   ·exact(h1 a c).mono (by omega)
  simp only;split
  ·exact(tM (tM h2 hn _ _) hn _ _ a c).mono (by omega)
  ·exact(h2 a c).mono (by omega)
theorem aHt{D:Rat}{B:Nat}(pl:Nat→Int):∀(es:List oX) (N:Nat) (A:Nat→Nat→Rat),(∀e∈es,IB B (D*e.2.2))→(∀a c,IB N (D*A a c))→∀a c,IB (N+es.length*(4*B)) (D*rP pl A es a c)
 |[],N,A,_,h,a,c=>by
  rw[rP,List.foldl_nil,List.length_nil,Nat.zero_mul,Nat.add_zero];exact h a c
 |e::es,N,A,hB,h,a,c=>by
  have ih:=aHt pl es (N+4*B) (iM pl A e.1 e.2.1 e.2.2) (fun f hf=>hB f (List.mem_cons_of_mem _ hf)) (fun a c=>aKh h (hB e List.mem_cons_self) pl e.1 e.2.1 a c) a c;rw[rP]at ih⊢;rw[List.foldl_cons,List.length_cons,Nat.add_mul,Nat.one_mul];exact ih.mono (by omega)
def oS(n:Nat)(D:Rat)(M:Nat→Nat→Rat):Rat:=det n fun i j=>D*M i j
theorem aTs{n:Nat}{M:Nat→Nat→Rat}{D:Rat}(hd:det n M≠0)(hD0:D≠0):oS n D M≠0:=by
 rw[oS,kK M (fun _=>D)];exact zY (aRn n fun _ _=>hD0) hd
theorem aTt{n B:Nat}{M:Nat→Nat→Rat}{D:Rat}(hM:∀i j,i<n→j<n→IB B (D*M i j)):IB ((n*B)^n) (oS n D M):=IB.det n _ hM
theorem aWt{n B C:Nat}{M:Nat→Nat→Rat}{x r:Nat→Rat}{D K:Rat}(hM:∀i j,i<n→j<n→IB B (D*M i j))(hr:∀i,i<n→IB C (K*(D*r i)))(hBC:B≤C)(hs:∀i,i<n→(sm n fun j=>M i j*x j)=r i){j:Nat}(hj:j<n): IB ((n*C)^n) (K*x j*oS n D M):=by
 have h:=aKg (A:=fun a c=>D*M c a) (x:=fun j=>K*x j) (b:=fun c=>K*(D*r c)) (fun i j hi hj=>hM j i hj hi) hr hBC (fun c hc=>?_) hj
 ·rw[oS,←aGi n (fun i j=>D*M i j)];exact h
 ·show(sm n fun i=>K*x i*(D*M c i))=K*(D*r c);rw[←hs c hc,←jO,←jO];exact aW n fun i _=>by grind
theorem aOo{free:List Int}(hd:free.Nodup){k:Nat}(hk:k<free.length){v:Nat}:Lib.idxOf free (v:Int)=k↔(v:Int)=free.getD k 0:=by
 constructor
 ·intro e;have h2:=gU (v:Int) free 0 (by have:=gA free (v:Int);unfold Lib.idxOf at this e;omega);change free.getD ((Lib.idxOf free (v:Int)).toNat-0) 0=(v:Int)at h2;rw[e]at h2;rw[←h2];congr 1
 ·intro e;rw[e];exact qJ hd hk
theorem dJ(l:List Rat)(u i:Nat)(x:Rat):(l.set u x).getD i 0=if u=i∧i<l.length then x else l.getD i 0:=by
 by_cases e:u=i
 ·subst e;by_cases h:u<l.length
  ·rw[if_pos ⟨rfl,h⟩,gD,List.getElem?_set_self h];rfl
  ·rw[if_neg (fun k=>h k.2),gD,List.getElem?_eq_none (by rw[List.length_set];omega),gD,List.getElem?_eq_none (by omega)]
 ·rw[if_neg (fun k=>e k.1),gD,List.getElem?_set_ne e,←gD]
theorem jG(nb i:Nat):(List.replicate nb (0:Rat)).getD i 0=0:=by
 rw[gD,List.getElem?_replicate];split<;>rfl
theorem aVz{nb:Nat}{free:List Int}(hd:free.Nodup)(hr:∀f∈free,0≤f∧f<nb)(inv:MQ)(x:List Rat)(v:Nat):∀k,k≤free.length→ (thK nb free inv x k).getD v 0=if 0≤Lib.idxOf free (v:Int)∧Lib.idxOf free (v:Int)<k then cR (inv.getD (Lib.idxOf free (v:Int)).toNat []) x else 0
 |0,_=>by
  rw[thK,jG,if_neg (by omega)]
 |k+1,hk=>by
  have ih:=aVz hd hr inv x v k (by omega);have hf:=aOo hd (k:=k) (by omega) (v:=v);have hm:=hr _ (bC (l:=free) (k:=k) (by omega));rw[thK,dJ,oA,ih];by_cases e:Lib.idxOf free (v:Int)=k
  ·have e2:=hf.1 e;rw[if_pos ⟨by omega,by omega⟩,if_pos (by omega),e,Int.toNat_natCast]
  ·have e2:¬(v:Int)=free.getD k 0:=fun h=>e (hf.2 h);rw[if_neg (fun h=>e2 (by omega))];by_cases h:0≤Lib.idxOf free (v:Int)∧Lib.idxOf free (v:Int)<k
   ·rw[if_pos h,if_pos (by omega)]
   ·rw[if_neg h,if_neg (by omega)]
def plN(n:NetD):Nat→Int:=fun x:Nat=>Lib.idxOf (aN n) x
def esN(n:NetD):List oX:=esL (bR n) (toL n) (bLQ n) n.branches.length
def thN(n:NetD)(r:List Rat):List Rat:=thQ (nbN n) (aN n) (kN n) r
def xN(n:NetD)(r:List Rat)(i:Nat):Rat:=cR ((kN n).getD i []) (bY (aN n) r)
theorem pL(n:NetD):(aN n).Nodup:=mW _ _
theorem oD(n:NetD)(r:List Rat)(v:Nat):(thN n r).getD v 0=eE (plN n) (xN n r) v:=by
 unfold thN thQ;rw[aVz (pL n) (fun f hf=>qL f hf) _ _ v _ lR,eE];have h1:=gA (aN n) (v:Int);by_cases h:0≤plN n v
 ·have h2:0≤Lib.idxOf (aN n) (v:Int):=h;rw[if_pos h,if_pos ⟨h2,by omega⟩];rfl
 ·have h2:¬0≤Lib.idxOf (aN n) (v:Int):=h;rw[if_neg h,if_neg (fun k=>h2 k.1)]
theorem aOp(n:NetD)(v:Nat):plN n v<nfN n:=by
 have:=gA (aN n) (v:Int);show Lib.idxOf (aN n) (v:Int)<((aN n).length:Int);omega
theorem aWu{n:NetD}(h:VNet n):at2 (fwM n)=rP (plN n) (fun _ _=>0) (esN n):=zV rfl (fun x hx=>(zS h x hx).1) (fun x hx=>(zT h x hx).1) _ (by simp[bR]) (by simp[toL])
theorem aYn{n:NetD}(h:VNet n)(r:List Rat){i:Nat}(hi:i<nfN n):(sm (nfN n) fun j=>at2 (fwM n) i j*xN n r j)=(bY (aN n) r).getD i 0:=by
 have hinv:=aRy (jY n) (fun k=>aFd h ((aIy (jY n)).1 k));have hx:∀j,j<nfN n→xN n r j=sm (nfN n) fun k=>at2 (kN n) j k*(bY (aN n) r).getD k 0:=fun j hj=>by
  unfold xN cR;rw[(mY n).rowlen hj];rfl
 have e1:(sm (nfN n) fun j=>at2 (fwM n) i j*xN n r j)=sm (nfN n) fun j=>sm (nfN n) fun k=>at2 (fwM n) i j*at2 (kN n) j k*(bY (aN n) r).getD k 0:=aW _ fun j hj=>by
   rw[hx j hj,←jO];exact aW _ fun k _=>by rw[Rat.mul_assoc]
 rw[e1,tR];have e2:(sm (nfN n) fun k=>sm (nfN n) fun j=>at2 (fwM n) i j*at2 (kN n) j k*(bY (aN n) r).getD k 0)=sm (nfN n) fun k=>at2 (idQ (nfN n)) i k*(bY (aN n) r).getD k 0:=aW _ fun k hk=>by
   have h2:at2 (aDr (fwM n) (kN n) (nfN n)) i k=at2 (idQ (nfN n)) i k:=by
    show at2 (aDr (fwM n) (xA (fwM n) (aN n).length) (aN n).length) i k=_;rw[hinv];rfl
   rw[aIm (jY n) hi hk]at h2;rw[←h2,Rat.mul_comm,←jO];exact aW _ fun j _=>by
    show _=(bY (aN n) r).getD k 0*(at2 (fwM n) i j*at2 (kN n) j k);rw[Rat.mul_comm]
 rw[e2,kI i _ hi fun k hk hne=>by rw[aGg hi hk,if_neg (fun e=>hne e.symm),Rat.zero_mul],aGg hi hi,if_pos rfl,Rat.one_mul]
theorem kO{free:List Int}{r:List Rat}{i:Nat}(hi:i<free.length):(bY free r).getD i 0=r.getD (free.getD i 0).toNat 0:=by
 unfold bY;rw[gD,List.getElem?_map,gD (l:=free),gE hi];rfl
def jH(n:NetD):Bool:=decide (8<n.nodes.length)||decide (10<n.branches.length)||decide (10<n.switches.length)
theorem iI{n:NetD}(h:jH n=false):n.nodes.length≤8∧n.branches.length≤10∧n.switches.length≤10:=by
 unfold jH at h;simp only[Bool.or_eq_false_iff,decide_eq_false_iff_not]at h;omega
theorem aFl{n:NetD}(h:VNet n)(h8:n.nodes.length≤8):nbN n≤8:=by
 have hm:=jJ (l:=aC n) (N:=8) (by omega) (by
  intro x hx;obtain⟨i,hi,rfl⟩:=List.getElem_of_mem hx;have hl:=bO h;have:=jA h i (by omega) (by omega);simp only[at_,Int.toNat_natCast,gD,gE hi,Option.getD_some]at this;omega)
 unfold nbN;rw[aA,iN];split
 ·simp only[oE];omega
 ·simp
theorem aWv{n:NetD}(h:VNet n)(h8:n.nodes.length≤8):nfN n≤8:=by
 have:=iY (aA n) (aA n).length;have:=aFl h h8;unfold nbN at this;unfold nfN aN;omega
theorem aYo{b:BranchD}(h:bV b=true):(bQ b).num.natAbs≤10^6∧(bQ b).den≤10^8:=by
 have hp:=jX h;have hd:=jD 1000000 (b.x*b.tap);unfold bQ;refine⟨Nat.le_trans hd.1 (by decide),Nat.le_trans hd.2 ?_⟩;generalize b.x*b.tap=z at*;have:(10:Nat)^8=100000000:=by decide
 omega
theorem uQ:∀(l:List Rat),(∀x∈l,x.den≤10^8)→cN l≤10^(8*l.length)
 |[],_=>by simp[cN]
 |x::l,h=>by
  have ih:=uQ l fun y hy=>h y (by simp[hy]);rw[cN,List.length_cons,Nat.mul_add,Nat.add_comm,Nat.mul_one,Nat.pow_add];exact Nat.mul_le_mul (h x (by simp)) ih
theorem aCi:∀(l:List Rat),(∀x∈l,x.num.natAbs≤10^6∧x.den≤10^8)→∀x∈l,IB (10^(8*l.length+6)) ((cN l:Rat)*x)
 |[],_,x,hx=>by simp at hx
 |y::l,h,x,hx=>by
  have hl:=uQ l fun y hy=>(h y (by simp[hy])).2;have hlen:8*(y::l).length+6=8*l.length+6+8:=by rw[List.length_cons,Nat.mul_add,Nat.mul_one]
  have e:((cN (y::l):Nat):Rat)=((y.den:Nat):Rat)*(cN l:Rat):=by rw[cN,Rat.natCast_mul]
  rw[e,hlen];rcases List.mem_cons.1 hx with rfl|hx
  ·have h1:IB (10^6) (x.num:Rat):=⟨x.num,rfl,(h x (by simp)).1⟩;have h2:IB (10^(8*l.length)) (cN l:Rat):=⟨(cN l:Int),rfl,by rw[Int.natAbs_natCast];exact hl⟩;have h3:=(gF h1 h2).ten (l:=8*l.length+6+8) (by omega);rw[←aTr x]at h3;rw[show((x.den:Nat):Rat)*(cN l:Rat)*x=x*((x.den:Nat):Rat)*(cN l:Rat) by grind];exact h3
  ·have ih:=aCi l (fun y hy=>h y (by simp[hy])) x hx;have h1:IB (10^8) ((y.den:Nat):Rat):=⟨(y.den:Int),rfl,by rw[Int.natAbs_natCast];exact(h y (by simp)).2⟩;rw[show((y.den:Nat):Rat)*(cN l:Rat)*x=(cN l:Rat)*x*((y.den:Nat):Rat) by grind];exact gF ih h1
def DN(n:NetD):Rat:=((cN (bLQ n):Nat):Rat)
theorem aWa(n:NetD):DN n≠0:=fun e=>by
 have:=oL (bLQ n);have e2:((cN (bLQ n):Nat):Rat)=0:=e;have e3:cN (bLQ n)=0:=by exact_mod_cast e2
 omega
theorem aOq{n:NetD}(h:VNet n):∀x∈bLQ n,x.num.natAbs≤10^6∧x.den≤10^8:=fun x hx=>by
 obtain⟨b,hb,rfl⟩:=List.mem_map.1 hx;exact aYo (h.br b hb).2.2.2
theorem aHu{n:NetD}(h:VNet n)(hb:n.branches.length≤10):IB (10^80) (DN n):=by
 have h1:=uQ (bLQ n) fun x hx=>(aOq h x hx).2;have hl:(bLQ n).length=n.branches.length:=by simp[bLQ]
 refine⟨(cN (bLQ n):Int),rfl,?_⟩;rw[Int.natAbs_natCast];exact Nat.le_trans h1 (Nat.pow_le_pow_right (by decide) (by omega))
theorem aWw{n:NetD}(h:VNet n)(hb:n.branches.length≤10){b:BranchD}(hm:b∈n.branches):IB (10^86) (DN n*bQ b):=by
 have hl:(bLQ n).length=n.branches.length:=by simp[bLQ]
 exact(aCi (bLQ n) (aOq h) (bQ b) (List.mem_map.2 ⟨b,hm,rfl⟩)).ten (by omega)
theorem aYp(a:Int):(1000:Rat)*Rat.divInt a 1000=(a:Rat):=by
 have h:=iV (show((1000:Int):Rat)≠0 by decide) (a:Rat);rw[←Rat.divInt_eq_div]at h;exact h
theorem aYq{n:NetD}(h:VNet n)(hb:n.branches.length≤10){b:BranchD}(hm:b∈n.branches):IB (10^89) (1000*(DN n*cQ b)):=by
 have h1:=aWw h hb hm;have h2:=(lP (h.br b hm).2.2.2).2.2.2.2;have h30:(-b.shift).natAbs≤10^3:=by
  rw[show(10:Nat)^3=1000 by decide];omega
 have h3:IB (10^3) ((-b.shift:Int):Rat):=⟨-b.shift,rfl,h30⟩;have h4:=gF h1 h3;rw[←aYp]at h4;rw[cQ,show 1000*(DN n*(bQ b*Rat.divInt (-b.shift) 1000))=DN n*bQ b*(1000*Rat.divInt (-b.shift) 1000) by grind];exact h4
theorem aTu{n:NetD}{e:oX}(he:e∈esN n):∃b∈n.branches,e=((aU n b.src).toNat,(aU n b.dst).toNat,bQ b):=by
 obtain⟨i,hi,rfl⟩:=List.mem_map.1 he;have hi:=List.mem_range.1 hi;refine⟨n.branches[i],List.getElem_mem hi,?_⟩;simp[bR,toL,bLQ,hi]
theorem aWb{n:NetD}(h:VNet n)(hb:n.branches.length≤10)(i j:Nat):IB (10^88) (DN n*at2 (fwM n) i j):=by
 rw[aWu h];have h1:=aHt (D:=DN n) (B:=10^86) (plN n) (esN n) 0 (fun _ _=>0) (fun e he=>by
  obtain⟨b,hm,rfl⟩:=aTu he;exact aWw h hb hm) (fun a c=>by rw[Rat.mul_zero];exact IB.zero _) i j
 have hl:(esN n).length=n.branches.length:=by simp[esN,esL]
 refine h1.mono ?_;rw[hl,Nat.zero_add,show(10:Nat)^88=10*(10*10^86) by rw[show 88=86+2 by rfl,Nat.pow_add]];generalize 10^86=z;exact Nat.mul_le_mul hb (by omega)
def Small(n:NetD)(r:List Rat):Prop:=∀i,IB (10^91) (1000*(DN n*r.getD i 0))
structure Scale(n:NetD)(e:Rat):Prop where
 ne:e≠0
 sz:Ten 830 e
 th:∀r,Small n r→∀v,Ov 828 e ((thN n r).getD v 0)
 df:∀r,Small n r→∀b∈n.branches,∀u v,Ov 828 e (bQ b*((thN n r).getD u 0-(thN n r).getD v 0))
 cc:∀b∈n.branches,Ov 828 e (cQ b)
theorem uR{n:NetD}(h:VNet n)(hw:jH n=false):∃e,Scale n e:=by
 obtain⟨hn,hb,_⟩:=iI hw;have hnf:=aWv h hn;have hd:Ten 712 (oS (nfN n) (DN n) (at2 (fwM n))):=(aHs (k:=88) (aTt fun i j _ _=>aWb h hb i j) hnf).ten (by omega);have hd0:oS (nfN n) (DN n) (at2 (fwM n))≠0:=aTs (aFd h) (aWa n);have hD:=aHu h hb;have hK:IB (10^3) (1000:Rat):=⟨1000,rfl,by decide⟩;have hh:∀r,Small n r→∀v,Ten 736 (1000*(thN n r).getD v 0*oS (nfN n) (DN n) (at2 (fwM n))):=fun r hr v=>by
  rw[oD,eE];by_cases hp:0≤plN n v
  ·rw[if_pos hp];have hl:=aOp n v;exact(aHs (k:=91) (aWt (C:=10^91) (r:=fun i=>(bY (aN n) r).getD i 0) (fun i j _ _=>aWb h hb i j) (fun i hi=>by rw[kO (show i<(aN n).length from hi)];exact hr _) (Nat.pow_le_pow_right (by decide) (by omega)) (fun i hi=>aYn h r hi) (show(plN n v).toNat<nfN n by omega)) hnf).ten (by omega)
  ·rw[if_neg hp,Rat.mul_zero,Rat.zero_mul];exact IB.zero _
 refine⟨1000*DN n*oS (nfN n) (DN n) (at2 (fwM n)),zY (zY (by decide) (aWa n)) hd0,(gF (gF hK hD) hd).ten (by omega),fun r hr v=>?_,fun r hr b hm u v=>?_,fun b hm=>?_⟩
 ·have h1:=gF (hh r hr v) hD;unfold Ov;rw[show(thN n r).getD v 0*(1000*DN n*oS (nfN n) (DN n) (at2 (fwM n)))=1000*(thN n r).getD v 0*oS (nfN n) (DN n) (at2 (fwM n))*DN n by grind];exact h1.ten (by omega)
 ·have h1:=gF (aWw h hb hm) (aWs (hh r hr u) (hh r hr v));unfold Ov;rw[show bQ b*((thN n r).getD u 0-(thN n r).getD v 0)*(1000*DN n*oS (nfN n) (DN n) (at2 (fwM n)))=DN n*bQ b*(1000*(thN n r).getD u 0*oS (nfN n) (DN n) (at2 (fwM n))-1000*(thN n r).getD v 0*oS (nfN n) (DN n) (at2 (fwM n))) by grind];exact h1.ten (by omega)
 ·have h1:=gF (aYq h hb hm) hd;unfold Ov;rw[show cQ b*(1000*DN n*oS (nfN n) (DN n) (at2 (fwM n)))=1000*(DN n*cQ b)*oS (nfN n) (DN n) (at2 (fwM n)) by grind];exact h1.ten (by omega)
theorem aOr{D:Rat}{frm tu:List Int}{C P:List Rat}{B B0:Nat}(hC:∀i,IB B (1000*(D*C.getD i 0)))(hP:∀i,IB B0 (1000*(D*P.getD i 0))):∀k i,IB (B0+k*(2*B)) (1000*(D*(shK frm tu C P k).getD i 0))
 |0,i=>(hP i).mono (by omega)
 |k+1,i=>by
  have ih:=aOr (frm:=frm) (tu:=tu) hC hP k;have h1:∀i,IB (B0+k*(2*B)+B) (1000*(D*((shK frm tu C P k).set (frm.getD k 0).toNat ((shK frm tu C P k).getD (frm.getD k 0).toNat 0-C.getD k 0)).getD i 0)):=fun i=>by
   rw[dJ];split
   ·rw[show 1000*(D*((shK frm tu C P k).getD (frm.getD k 0).toNat 0-C.getD k 0))=1000*(D*(shK frm tu C P k).getD (frm.getD k 0).toNat 0)-1000*(D*C.getD k 0) by grind];exact(ih _).sub (hC k)
   ·exact(ih i).mono (by omega)
  rw[shK,shQ,dJ,Nat.add_mul,Nat.one_mul];split
  ·generalize(shK frm tu C P k).set (frm.getD k 0).toNat ((shK frm tu C P k).getD (frm.getD k 0).toNat 0-C.getD k 0)=L at*;rw[show 1000*(D*(L.getD (tu.getD k 0).toNat 0+C.getD k 0))=1000*(D*L.getD (tu.getD k 0).toNat 0)+1000*(D*C.getD k 0) by grind];exact((h1 _).add (hC k)).mono (by omega)
  ·exact(h1 i).mono (by omega)
theorem aWx{n:NetD}(h:VNet n)(hb:n.branches.length≤10)(i:Nat):IB (10^89) (1000*(DN n*(cLQ n).getD i 0)):=by
 unfold cLQ;rw[gD,List.getElem?_map];cases e:n.branches[i]? with
 |none=>
  show IB (10^89) (1000*(DN n*0));rw[Rat.mul_zero,Rat.mul_zero];exact IB.zero _
 |some b=>exact aYq h hb (List.mem_of_getElem? e)
theorem aOs{n:NetD}(h:VNet n)(hb:n.branches.length≤10){r:List Rat}(hr:∀i,IB (10^6) (r.getD i 0)):Small n (shN n r):=fun i=>by
 have hK:IB (10^3) (1000:Rat):=⟨1000,rfl,by decide⟩;have h1:=aOr (D:=DN n) (frm:=bR n) (tu:=toL n) (C:=cLQ n) (P:=r) (aWx h hb) (fun i=>gF hK (gF (aHu h hb) (hr i))) n.branches.length i;refine h1.mono ?_;rw[show(10:Nat)^91=100*10^89 by rw[show 91=89+2 by rfl,Nat.pow_add]];have e:(10:Nat)^(3+(80+6))=10^89:=rfl;rw[e];generalize 10^89=z;have:=Nat.mul_le_mul_right (2*z) hb;omega
theorem aOt{n:NetD}(h8:n.nodes.length≤8){inj:List Int}(hi:∀i,-100000≤inj.getD i 0∧inj.getD i 0≤100000)(i:Nat):IB (10^6) ((smN n inj).getD i 0):=by
 unfold smN smQ;rw[gD,List.getElem?_map];cases e:(smI (aC n) inj (nbN n) n.nodes.length)[i]? with
 |none=>exact IB.zero _
 |some z=>
  have hb:=fQ (bus:=aC n) (nb:=nbN n) hi n.nodes.length i;rw[gD,e]at hb;simp only[Option.getD_some]at hb;refine⟨z,rfl,?_⟩;have:(10:Nat)^6=1000000:=by decide
  omega
theorem aWy{n:NetD}(th:List Rat){q:Rat}(hq:q∈flN n th):∃b∈n.branches,q=bQ b*(th.getD (aU n b.src).toNat 0-th.getD (aU n b.dst).toNat 0)+cQ b:=by
 obtain⟨i,hi,rfl⟩:=List.mem_map.1 hq;have hi:=List.mem_range.1 hi;refine⟨n.branches[i],List.getElem_mem hi,?_⟩;simp[aKb,bR,toL,bLQ,cLQ,hi]
theorem aYr{n:NetD}{e:Rat}(h:Scale n e){r:List Rat}(hr:Small n r):∀q∈thN n r,SzQ q 831:=fun q hq=>by
 obtain⟨i,hi,rfl⟩:=List.getElem_of_mem hq;have h1:=h.th r hr i;rw[gD,gE hi]at h1;exact((h1.mono (show 828≤830 by omega)).sz h.sz h.ne)
theorem aYs{n:NetD}{e:Rat}(h:Scale n e){r:List Rat}(hr:Small n r):∀q∈flN n (thN n r),SzQ q 831:=fun q hq=>by
 obtain⟨b,hb,rfl⟩:=aWy _ hq;exact((((h.df r hr b hb _ _).add (h.cc b hb)).mono (show 828+1≤830 by omega)).sz h.sz h.ne)
theorem aKi{n:NetD}{inj:List Int}(hw:jH n=false)(hc:bP n inj=0):sG n inj=false:=by
 obtain⟨h1,_,h3⟩:=pJ hc;have hV:=aAq h1;obtain⟨e,he⟩:=uR hV hw;obtain⟨hn,hb,_⟩:=iI hw;have hs:=aOs hV hb (fun i=>aOt hn h3 i);have ht:=aYr he hs;have hf:=aYs he hs;unfold sG;rw[Bool.not_eq_false',Bool.and_eq_true];exact⟨List.all_eq_true.2 fun q hq=>(ht q hq).fit (by omega) (by omega),List.all_eq_true.2 fun q hq=>(hf q hq).fit (by omega) (by omega)⟩
theorem aTv{n:NetD}{inj:List Int}(hw:jH n=false):eW n inj=bP n inj:=by
 unfold eW;by_cases h:bP n inj=0
 ·rw[if_neg (fun k=>k h),aKi hw h,if_neg (by decide),h]
 ·rw[if_pos h]
theorem aHv{n:NetD}{inj:List Int}(h:eW n inj=0):bP n inj=0∧(wX n inj).all bJ=true∧(jV n inj).all bJ=true:=by
 unfold eW at h;by_cases h1:bP n inj=0
 ·rw[if_neg (fun k=>k h1)]at h;by_cases h2:sG n inj=true
  ·rw[if_pos h2]at h;omega
  ·unfold sG at h2;rw[Bool.not_eq_true,Bool.not_eq_false',Bool.and_eq_true]at h2;exact⟨h1,h2⟩
 ·rw[if_pos h1]at h;exact absurd h h1
theorem aWz{l:List Rat}(h:l.all bJ=true)(hl:l.length≤40):eG (tx1 (mkS (l.map aJ)))=0:=by
 rw[nO];exact(wH h hl).1
theorem aTw(l:List Rat):(mkS (l.map aJ)).length=l.length:=by simp[mkS]
theorem uS(n:NetD)(inj:List Int):(jV n inj).length=n.branches.length:=aHr _ _
def sI:Nat→(Nat→Int)→Int
 |0,_=>0
 |k+1,f=>sI k f+f k
theorem aOu{f g:Nat→Int}:∀k,(∀j,j<k→f j=g j)→sI k f=sI k g
 |0,_=>rfl
 |k+1,h=>by rw[sI,sI,aOu k fun j hj=>h j (by omega),h k (by omega)]
theorem aXa(f g:Nat→Int):∀k,sI k (fun j=>f j+g j)=sI k f+sI k g
 |0=>rfl
 |k+1=>by rw[sI,sI,sI,aXa f g k];omega
theorem zZ{f:Nat→Int}:∀k,(∀j,j<k→f j=0)→sI k f=0
 |0,_=>rfl
 |k+1,h=>by rw[sI,zZ k fun j hj=>h j (by omega),h k (by omega)];rfl
theorem aOv{bus inj:List Int}{nb b:Nat}(hb:b<nb):∀k,(smI bus inj nb k).getD b 0=sI k fun j=>if(bus.getD j 0).toNat=b then inj.getD j 0 else 0
 |0=>by
  rw[smI,gD,List.getElem?_replicate,sI];split<;>rfl
 |k+1=>by
  have ih:=aOv (bus:=bus) (inj:=inj) hb k;rw[smI,xU,jZ,sI];by_cases e:(bus.getD k 0).toNat=b
  ·rw[if_pos ⟨e,hb⟩,if_pos e,e,ih]
  ·rw[if_neg (fun h=>e h.1),if_neg e,ih];omega
theorem aHw(f:Nat→Int):∀k,sI (k+1) f=f 0+sI k fun j=>f (j+1)
 |0=>by simp only[sI];omega
 |k+1=>by
  rw[sI,aHw f k,sI];omega
theorem aHx:∀(ks vs:List Int) (x:Int),ks.length=vs.length→fE ks vs x=sI ks.length fun j=>if ks.getD j 0=x then vs.getD j 0 else 0
 |[],vs,x,_=>by
  rw[fE]
  ·rfl
  ·intros;contradiction
 |_::_,[],_,h=>by simp at h
 |k::ks,v::vs,x,h=>by
  have ih:=aHx ks vs x (by simpa using h);rw[fE,ih,List.length_cons,aHw];rfl
theorem aKj{n:NetD}{p:List Int}(h:aT n=0)(hl:p.length=n.nodes.length):bP n p=if p.any sY=true then 4 else if(dE n).all (fun k=>fE (dE n) p k==0)=true then 0 else 14:=by
 unfold bP;rw[if_neg (fun k=>k h),if_neg (fun k=>k hl)]
def cK(a b:List Rat):List Rat:=List.zipWith (·+ ·) a b
theorem eB{a b:List Rat}(hl:a.length=b.length)(j:Nat):(cK a b).getD j 0=a.getD j 0+b.getD j 0:=by
 unfold cK;rw[gD,List.getElem?_zipWith,gD,gD];by_cases h:j<a.length
 ·rw[gE h,gE (by omega)];rfl
 ·rw[List.getElem?_eq_none (by omega),List.getElem?_eq_none (by omega)];simp[Rat.add_zero]
theorem jI{a b:List Rat}(hl:a.length=b.length)(h:∀j,j<a.length→a.getD j 0=b.getD j 0):a=b:=by
 refine List.ext_getElem hl fun j h1 h2=>?_;have:=h j h1;rw[gD,gE h1,gD,gE h2]at this;exact this
theorem aOw{x a b:List Rat}(hl:a.length=b.length):cR x (cK a b)=cR x a+cR x b:=by
 unfold cR;rw[←pT];exact aW _ fun i _=>by rw[eB hl];grind
theorem aKk{free:List Int}{a b:List Rat}(hl:a.length=b.length):bY free (cK a b)=cK (bY free a) (bY free b):=by
 refine jI (by simp[cK,bY]) fun j hj=>?_;have hj:j<free.length:=by simpa[bY]using hj
 rw[eB (by simp[bY]),kO hj,kO hj,kO hj,eB hl]
theorem qN(n:NetD)(r:List Rat):(thN n r).length=nbN n:=oA _ _ _ _ _
theorem aTx{n:NetD}{a b:List Rat}(hl:a.length=b.length):thN n (cK a b)=cK (thN n a) (thN n b):=by
 refine jI (by simp[cK,qN]) fun j _=>?_;rw[eB (by rw[qN,qN]),oD,oD,oD];unfold eE xN;split
 ·rw[aKk hl,aOw (by simp[bY])]
 ·grind
theorem aOx{frm tu:List Int}{B C th:List Rat}{k i:Nat}(hi:i<k):(flK frm tu B C th k).getD i 0=aKb frm tu B C th i:=by
 unfold flK;rw[gD,List.getElem?_map,List.getElem?_range hi];rfl
end Go.Proofs.YtenbglfkdldheaaGreatDoor
