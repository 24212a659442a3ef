/- Integers of at most so many digits; solutions of systems of whole numbers are quotients of determinants. Plain facts. No program here. Power flows: the sizes of angles and flows, and the sum of flows at a bus. Plain facts. No program here. Power flows: a network's angles solve its equations; the sizes of its numbers. Plain facts. Power flows: the sizes of angles and flows of a small network. Plain facts. Power flows: the plain laws of FlowProves, FlowRefuses and FlowSwitches. Power flows: sums of injections and of numbers, number by number; what is linear. Plain facts. -/
import Derived.Test.YtenbglfkdldheaaGreatDoorUFL
namespace Go.Proofs.YtenbglfkdldheaaGreatDoor
def IB(B:Nat)(x:Rat):Prop:=∃z:Int,x=(z:Rat)∧z.natAbs≤B
theorem IB.mono{B C:Nat}{x:Rat}(h:IB B x)(hm:B≤C):IB C x:=by
 obtain⟨z,e,hz⟩:=h;exact⟨z,e,Nat.le_trans hz hm⟩
theorem IB.zero(B:Nat):IB B 0:=⟨0,rfl,Nat.zero_le _⟩
theorem IB.mul{B C:Nat}{x y:Rat}(hx:IB B x)(hy:IB C y):IB (B*C) (x*y):=by
 obtain⟨a,rfl,ha⟩:=hx;obtain⟨b,rfl,hb⟩:=hy;exact⟨a*b,by rw[Rat.intCast_mul],by rw[Int.natAbs_mul];exact Nat.mul_le_mul ha hb⟩
theorem IB.add{B C:Nat}{x y:Rat}(hx:IB B x)(hy:IB C y):IB (B+C) (x+y):=by
 obtain⟨a,rfl,ha⟩:=hx;obtain⟨b,rfl,hb⟩:=hy;exact⟨a+b,by rw[Rat.intCast_add],Nat.le_trans (Int.natAbs_add_le a b) (Nat.add_le_add ha hb)⟩
theorem IB.neg{B:Nat}{x:Rat}(hx:IB B x):IB B (-x):=by
 obtain⟨a,rfl,ha⟩:=hx;exact⟨-a,by rw[Rat.intCast_neg],by rw[Int.natAbs_neg];exact ha⟩
theorem IB.sub{B C:Nat}{x y:Rat}(hx:IB B x)(hy:IB C y):IB (B+C) (x-y):=by
 rw[Rat.sub_eq_add_neg];exact hx.add hy.neg
theorem IB.sum{B:Nat}{f:Nat→Rat}:∀(n:Nat),(∀i,i<n→IB B (f i))→IB (n*B) (sm n f)
 |0,_=>IB.zero _
 |n+1,h=>by
  rw[sm,Nat.add_mul,Nat.one_mul];exact(IB.sum n fun i hi=>h i (by omega)).add (h n (by omega))
theorem IB.sg_mul{B:Nat}{x:Rat}(i:Nat)(h:IB B x):IB B (sg i*x):=by
 unfold sg;split
 ·rw[Rat.one_mul];exact h
 ·rw[show(-1:Rat)*x=-x by grind];exact h.neg
theorem IB.det{B:Nat}:∀(n:Nat) (A:Nat→Nat→Rat),(∀i j,i<n→j<n→IB B (A i j))→IB ((n*B)^n) (det n A):=by
 intro n;induction n with
 |zero=>intro A _;exact⟨1,rfl,by simp⟩
 |succ n ih=>
  intro A h;rw[Proofs.YtenbglfkdldheaaGreatDoor.det];have hs:=IB.sum (B:=B*(n*B)^n) (f:=fun i=>sg i*A i 0*Proofs.YtenbglfkdldheaaGreatDoor.det n (fun r c=>A (sk i r) (c+1))) (n+1) fun i hi=>
   ((h i 0 hi (by omega)).sg_mul i).mul (ih (fun r c=>A (sk i r) (c+1)) fun a b ha hb=>h _ _ (by unfold sk;split<;>omega) (by omega))
  refine hs.mono ?_;rw[Nat.pow_succ,←Nat.mul_assoc,Nat.mul_comm (((n+1)*B)^n)];exact Nat.mul_le_mul_left _ (Nat.pow_le_pow_left (Nat.mul_le_mul_right _ (Nat.le_succ n)) n)
theorem aQa{A B k:Nat}{x a b:Rat}(ha:IB A a)(hb:IB B b)(h0:b≠0)(h:x*b=a)(hA:A<10^k)(hB:B<10^k):SzQ x k:=by
 obtain⟨p,rfl,hp⟩:=ha;obtain⟨q,rfl,hq⟩:=hb;have e:x=Rat.divInt p q:=by
  rw[Rat.divInt_eq_div,←h,Rat.div_def,Rat.mul_assoc,Rat.mul_inv_cancel _ h0,Rat.mul_one]
 have hle:=jB p q;rw[←e]at hle;have hq0:q≠0:=fun e=>h0 (by rw[e];rfl);have h2:=hle.2;have h3:max 1 q.natAbs=q.natAbs:=by omega
 rw[h3]at h2;exact⟨Nat.lt_of_le_of_lt (Nat.le_trans hle.1 hp) hA,Nat.lt_of_le_of_lt (Nat.le_trans h2 hq) hB⟩
theorem aDl{n:Nat}(A:Nat→Nat→Rat){j:Nat}(hj:j<n)(x:Nat→Rat):∀m,m≤n→det n (upd A j fun c=>sm m fun i=>x i*A i c)=(if j<m then x j else 0)*det n A
 |0,_=>by
  rw[if_neg (by omega),Rat.zero_mul];exact mB hj fun c=>by rw[bC];rfl
 |m+1,hm=>by
  have ih:=aDl A hj x m (by omega);have e:(fun c=>sm (m+1) fun i=>x i*A i c)=fun c=>1*(sm m fun i=>x i*A i c)+x m*A m c:=by
   funext c;rw[sm];grind
  rw[e,mA 1 (x m) (fun c=>sm m fun i=>x i*A i c) (A m) n A j hj,ih];by_cases h:j=m
  ·subst h;rw[eS,if_neg (by omega),if_pos (by omega)];grind
  ·have e2:det n (upd A j (A m))=0:=nN (i:=j) (k:=m) hj (by omega) h fun c=>by rw[bC,cN _ _ (fun k=>h k.symm)]
   rw[e2];by_cases h2:j<m
   ·rw[if_pos h2,if_pos (by omega)];grind
   ·rw[if_neg h2,if_neg (by omega)];grind
theorem aLy{n B C:Nat}{A:Nat→Nat→Rat}{x b:Nat→Rat}(hA:∀i j,i<n→j<n→IB B (A i j))(hb:∀i,i<n→IB C (b i))(hBC:B≤C)(hs:∀c,c<n→(sm n fun i=>x i*A i c)=b c){j:Nat}(hj:j<n): IB ((n*C)^n) (x j*det n A):=by
 have h:=aDl A hj x n (Nat.le_refl n);rw[if_pos hj]at h;rw[←h];refine IB.det n _ fun i c hi hc=>?_;by_cases e:i=j
 ·subst e;rw[bC,hs c hc];exact hb c hc
 ·rw[cN _ _ e];exact(hA i c hi hc).mono hBC
theorem uE{a b:Rat}(ha:a≠0)(hb:b≠0):a*b≠0:=fun e=>by
 rcases Rat.mul_eq_zero.1 e with h|h
 ·exact ha h
 ·exact hb h
theorem bAt{n k:Nat}(hn:n≤8):(n*10^k)^n≤10^((k+1)*8):=by
 refine Nat.le_trans (Nat.pow_le_pow_left (m:=10^(k+1)) ?_ n) ?_
 ·rw[Nat.pow_succ,Nat.mul_comm (10^k)];exact Nat.mul_le_mul_right _ (by omega)
 ·rw[Nat.pow_mul];exact Nat.pow_le_pow_right (Nat.pow_pos (by decide)) hn
theorem IB.ten{k l:Nat}{x:Rat}(h:IB (10^k) x)(hk:k≤l):IB (10^l) x:=h.mono (Nat.pow_le_pow_right (by decide) hk)
def Ten(k:Nat)(x:Rat):Prop:=IB (10^k) x
theorem Ten.ten{k l:Nat}{x:Rat}(h:Ten k x)(hk:k≤l):Ten l x:=IB.ten h hk
theorem aJh{n k:Nat}{x:Rat}(h:IB ((n*10^k)^n) x)(hn:n≤8):Ten ((k+1)*8) x:=h.mono (bAt hn)
theorem gH{k l:Nat}{x y:Rat}(h:Ten k x)(h2:Ten l y):Ten (k+l) (x*y):=by
 unfold Ten at*;rw[Nat.pow_add];exact h.mul h2
theorem aQb{k:Nat}{x y:Rat}(h:Ten k x)(h2:Ten k y):Ten (k+1) (x+y):=by
 refine(IB.add h h2).mono ?_;rw[Nat.pow_succ];generalize 10^k=z;omega
theorem aYo{k:Nat}{x y:Rat}(h:Ten k x)(h2:Ten k y):Ten (k+1) (x-y):=by
 rw[Rat.sub_eq_add_neg];exact aQb h (IB.neg h2)
def Ov(k:Nat)(e f:Rat):Prop:=Ten k (f*e)
theorem Ov.sz{k:Nat}{e f:Rat}(h:Ov k e f)(he:Ten k e)(h0:e≠0):SzQ f (k+1):=by
 have:10^k<10^(k+1):=Nat.pow_lt_pow_right (by decide) (by omega);exact aQa (A:=10^k) (B:=10^k) h he h0 rfl this this
theorem Ov.mono{k l:Nat}{e f:Rat}(h:Ov k e f)(hk:k≤l):Ov l e f:=IB.mono h (Nat.pow_le_pow_right (by decide) hk)
theorem Ov.add{k:Nat}{e f g:Rat}(h:Ov k e f)(h2:Ov k e g):Ov (k+1) e (f+g):=by
 unfold Ov at*;rw[Rat.add_mul];exact aQb h h2
theorem Ov.neg{k:Nat}{e f:Rat}(h:Ov k e f):Ov k e (-f):=by
 unfold Ov at*;rw[Rat.neg_mul];exact IB.neg h
theorem Ov.mul{k l:Nat}{e d f g:Rat}(h:Ov k e f)(h2:Ov l d g):Ov (k+l) (e*d) (f*g):=by
 unfold Ov at*;rw[show f*g*(e*d)=f*e*(g*d) by grind];exact gH h h2
theorem aVj(x:Rat):x*((x.den:Nat):Rat)=(x.num:Rat):=by
 have h1:=Rat.num_divInt_den x;rw[Rat.divInt_eq_div]at h1;have hd:(((x.den:Nat):Int):Rat)≠0:=by
  have:=x.den_pos;intro e0;have:(x.den:Int)=0:=by exact_mod_cast e0
  omega
 show x*(((x.den:Nat):Int):Rat)=(x.num:Rat);rw[Rat.div_def]at h1;grind
theorem uF{D b:Rat}{N B:Nat}{A:Nat→Nat→Rat}(h:∀a c,IB N (D*A a c))(hb:IB B (D*b))(i j a c:Nat):IB (N+B) (D*dO A i j b a c):=by
 unfold dO;split
 ·rw[Rat.mul_add];exact(h a c).add hb
 ·exact(h a c).mono (by omega)
theorem aLz{D b:Rat}{N B:Nat}{A:Nat→Nat→Rat}(h:∀a c,IB N (D*A a c))(hb:IB B (D*b))(pl:Nat→Int)(u v a c:Nat):IB (N+4*B) (D*fF pl A u v b a c):=by
 have hn:IB B (D*-b):=by rw[Rat.mul_neg];exact hb.neg
 unfold fF;split
 ·exact(h a c).mono (by omega)
 ·have h1:∀a c,IB (N+B) (D*(if 0≤pl u then dO A (pl u).toNat (pl u).toNat b else A) a c):=fun a c=>by
   split
   ·exact uF h hb _ _ a c
   ·exact(h a c).mono (by omega)
  have h2:∀a c,IB (N+B+B) (D*(if 0≤pl v then dO (if 0≤pl u then dO A (pl u).toNat (pl u).toNat b else A) (pl v).toNat (pl v).toNat b else(if 0≤pl u then dO A (pl u).toNat (pl u).toNat b else A)) a c):=fun a c=>by
   split
   ·exact uF h1 hb _ _ a c
   ·exact(h1 a c).mono (by omega)
  simp only;split
  ·exact(uF (uF h2 hn _ _) hn _ _ a c).mono (by omega)
  ·exact(h2 a c).mono (by omega)
theorem aJi{D:Rat}{B:Nat}(pl:Nat→Int):∀(es:List kQ) (N:Nat) (A:Nat→Nat→Rat),(∀e∈es,IB B (D*e.2.2))→(∀a c,IB N (D*A a c))→∀a c,IB (N+es.length*(4*B)) (D*mZ pl A es a c)
 |[],N,A,_,h,a,c=>by
  rw[mZ,List.foldl_nil,List.length_nil,Nat.zero_mul,Nat.add_zero];exact h a c
 |e::es,N,A,hB,h,a,c=>by
  have ih:=aJi pl es (N+4*B) (fF pl A e.1 e.2.1 e.2.2) (fun f hf=>hB f (List.mem_cons_of_mem _ hf)) (fun a c=>aLz h (hB e List.mem_cons_self) pl e.1 e.2.1 a c) a c;rw[mZ]at ih⊢;rw[List.foldl_cons,List.length_cons,Nat.add_mul,Nat.one_mul];exact ih.mono (by omega)
def oS(n:Nat)(D:Rat)(M:Nat→Nat→Rat):Rat:=det n fun i j=>D*M i j
theorem aVk{n:Nat}{M:Nat→Nat→Rat}{D:Rat}(hd:det n M≠0)(hD0:D≠0):oS n D M≠0:=by
 rw[oS,kL M (fun _=>D)];exact uE (aTb n fun _ _=>hD0) hd
theorem aVl{n B:Nat}{M:Nat→Nat→Rat}{D:Rat}(hM:∀i j,i<n→j<n→IB B (D*M i j)):IB ((n*B)^n) (oS n D M):=IB.det n _ hM
theorem aYp{n B C:Nat}{M:Nat→Nat→Rat}{x r:Nat→Rat}{D K:Rat}(hM:∀i j,i<n→j<n→IB B (D*M i j))(hr:∀i,i<n→IB C (K*(D*r i)))(hBC:B≤C)(hs:∀i,i<n→(sm n fun j=>M i j*x j)=r i){j:Nat}(hj:j<n): IB ((n*C)^n) (K*x j*oS n D M):=by
 have h:=aLy (A:=fun a c=>D*M c a) (x:=fun j=>K*x j) (b:=fun c=>K*(D*r c)) (fun i j hi hj=>hM j i hj hi) hr hBC (fun c hc=>?_) hj
 ·rw[oS,←aCk n (fun i j=>D*M i j)];exact h
 ·show(sm n fun i=>K*x i*(D*M c i))=K*(D*r c);rw[←hs c hc,←kJ,←kJ];exact bF n fun i _=>by grind
def oT(x:Nat→Rat)(v:Nat):List kQ→Rat
 |[]=>0
 |e::es=>(if e.1=v then e.2.2*(x e.1-x e.2.1)else 0)+(if e.2.1=v then e.2.2*(x e.2.1-x e.1)else 0)+oT x v es
theorem aDm(a b:Rat)(x y:Nat→Rat)(v:Nat):∀es,oT (fun u=>a*x u+b*y u) v es=a*oT x v es+b*oT y v es
 |[]=>by simp only[oT];grind
 |e::es=>by
  have ih:=aDm a b x y v es;simp only[oT,ih];split<;>split<;>grind
def sC(n:Nat)(A:Nat→Nat→Rat)(x:Nat→Rat)(i:Nat):Rat:=sm n fun j=>A i j*x j
theorem kS{n a b:Nat}(hb:b<n)(A:Nat→Nat→Rat)(c:Rat)(x:Nat→Rat)(i:Nat):sC n (dO A a b c) x i=sC n A x i+if i=a then c*x b else 0:=by
 have e:(fun j=>dO A a b c i j*x j)=fun j=>A i j*x j+(if i=a∧j=b then c*x j else 0):=by
  funext j;rw[dO];split<;>grind
 rw[sC,e,sL];congr 1;by_cases ha:i=a
 ·rw[if_pos ha,lZ b n hb fun j _ hj=>if_neg fun k=>hj k.2,if_pos ⟨ha,rfl⟩]
 ·rw[if_neg ha];exact fQ n fun j _=>if_neg fun k=>ha k.1
def Inj(pl:Nat→Int):Prop:=∀u v,0≤pl u→pl u=pl v→u=v
theorem aMa{n:Nat}{pl:Nat→Int}(hp:∀v,pl v<n)(hi:Inj pl)(A:Nat→Nat→Rat)(u v:Nat)(b:Rat)(x:Nat→Rat)(w:Nat)(hw:0≤pl w): sC n (fF pl A u v b) x (pl w).toNat=sC n A x (pl w).toNat+((if u=w then b*(dP pl x u-dP pl x v)else 0)+(if v=w then b*(dP pl x v-dP pl x u)else 0)):=by
 by_cases h:u=v
 ·subst h;rw[fF,if_pos rfl];split<;>grind
 ·rw[fF,if_neg h,dP,dP];have hu:=hp u;have hv:=hp v;have e1:0≤pl u→((pl w).toNat=(pl u).toNat↔u=w):=fun h0=>⟨fun e=>hi u w h0 (by omega),fun e=>by rw[e]⟩;have e2:0≤pl v→((pl w).toNat=(pl v).toNat↔v=w):=fun h0=>⟨fun e=>hi v w h0 (by omega),fun e=>by rw[e]⟩;have n1:¬0≤pl u→u≠w:=fun h0 e=>h0 (by rw[e];exact hw);have n2:¬0≤pl v→v≠w:=fun h0 e=>h0 (by rw[e];exact hw);simp only;by_cases h1:0≤pl u
  ·by_cases h2:0≤pl v
   ·rw[if_pos ⟨h1,h2⟩,if_pos h2,if_pos h1,if_pos h1,if_pos h2,kS (by omega),kS (by omega),kS (by omega),kS (by omega)];simp only[e1 h1,e2 h2];split<;>split<;>grind
   ·rw[if_neg (fun k=>h2 k.2),if_neg h2,if_pos h1,if_pos h1,if_neg h2,kS (by omega)];simp only[e1 h1,n2 h2,if_false];split<;>grind
  ·by_cases h2:0≤pl v
   ·rw[if_neg (fun k=>h1 k.1),if_pos h2,if_neg h1,if_neg h1,if_pos h2,kS (by omega)];simp only[e2 h2,n1 h1,if_false];split<;>grind
   ·rw[if_neg (fun k=>h1 k.1),if_neg h2,if_neg h1,if_neg h1,if_neg h2];simp only[n1 h1,n2 h2,if_false];grind
theorem aBg{n:Nat}{pl:Nat→Int}(hp:∀v,pl v<n)(hi:Inj pl)(x:Nat→Rat)(w:Nat)(hw:0≤pl w):∀(es:List kQ) (A:Nat→Nat→Rat),sC n (mZ pl A es) x (pl w).toNat=sC n A x (pl w).toNat+oT (dP pl x) w es
 |[],A=>by rw[mZ,List.foldl_nil,oT];grind
 |e::es,A=>by
  have ih:=aBg hp hi x w hw es (fF pl A e.1 e.2.1 e.2.2);rw[mZ]at ih;rw[mZ,List.foldl_cons,ih,aMa hp hi A e.1 e.2.1 e.2.2 x w hw,oT];grind
theorem qN{free:List Int}(hd:free.Nodup){k:Nat}(hk:k<free.length){v:Nat}:Lib.idxOf free (v:Int)=k↔(v:Int)=free.getD k 0:=by
 constructor
 ·intro e;have h2:=gS (v:Int) free 0 (by have:=eZ free (v:Int);unfold Lib.idxOf at this e;omega);change free.getD ((Lib.idxOf free (v:Int)).toNat-0) 0=(v:Int)at h2;rw[e]at h2;rw[←h2];congr 1
 ·intro e;rw[e];exact vJ hd hk
theorem eL(l:List Rat)(u i:Nat)(x:Rat):(l.set u x).getD i 0=if u=i∧i<l.length then x else l.getD i 0:=by
 by_cases e:u=i
 ·subst e;by_cases h:u<l.length
  ·rw[if_pos ⟨rfl,h⟩,gD,List.getElem?_set_self h];rfl
  ·rw[if_neg (fun k=>h k.2),gD,List.getElem?_eq_none (by rw[List.length_set];omega),gD,List.getElem?_eq_none (by omega)]
 ·rw[if_neg (fun k=>e k.1),gD,List.getElem?_set_ne e,←gD]
theorem vL(nb i:Nat):(List.replicate nb (0:Rat)).getD i 0=0:=by
 rw[gD,List.getElem?_replicate];split<;>rfl
theorem aXu{nb:Nat}{free:List Int}(hd:free.Nodup)(hr:∀f∈free,0≤f∧f<nb)(inv:MQ)(x:List Rat)(v:Nat):∀k,k≤free.length→ (thK nb free inv x k).getD v 0=if 0≤Lib.idxOf free (v:Int)∧Lib.idxOf free (v:Int)<k then xB (inv.getD (Lib.idxOf free (v:Int)).toNat []) x else 0
 |0,_=>by
  rw[thK,vL,if_neg (by omega)]
 |k+1,hk=>by
  have ih:=aXu hd hr inv x v k (by omega);have hf:=qN hd (k:=k) (by omega) (v:=v);have hm:=hr _ (bH (l:=free) (k:=k) (by omega));rw[thK,eL,qK,ih];by_cases e:Lib.idxOf free (v:Int)=k
  ·have e2:=hf.1 e;rw[if_pos ⟨by omega,by omega⟩,if_pos (by omega),e,Int.toNat_natCast]
  ·have e2:¬(v:Int)=free.getD k 0:=fun h=>e (hf.2 h);rw[if_neg (fun h=>e2 (by omega))];by_cases h:0≤Lib.idxOf free (v:Int)∧Lib.idxOf free (v:Int)<k
   ·rw[if_pos h,if_pos (by omega)]
   ·rw[if_neg h,if_neg (by omega)]
def plN(n:NetD):Nat→Int:=fun x:Nat=>Lib.idxOf (aF n) x
def esN(n:NetD):List kQ:=esL (bB n) (toL n) (bLQ n) n.branches.length
def thN(n:NetD)(r:List Rat):List Rat:=thQ (nbN n) (aF n) (mO n) r
def xN(n:NetD)(r:List Rat)(i:Nat):Rat:=xB ((mO n).getD i []) (cV (aF n) r)
theorem jH(n:NetD):(aF n).Nodup:=nA _ _
theorem uG(n:NetD)(r:List Rat)(v:Nat):(thN n r).getD v 0=dP (plN n) (xN n r) v:=by
 unfold thN thQ;rw[aXu (jH n) (fun f hf=>oC f hf) _ _ v _ lR,dP];have h1:=eZ (aF n) (v:Int);by_cases h:0≤plN n v
 ·have h2:0≤Lib.idxOf (aF n) (v:Int):=h;rw[if_pos h,if_pos ⟨h2,by omega⟩];rfl
 ·have h2:¬0≤Lib.idxOf (aF n) (v:Int):=h;rw[if_neg h,if_neg (fun k=>h2 k.1)]
theorem aDn(n:NetD)(v:Nat):plN n v<nfN n:=by
 have:=eZ (aF n) (v:Int);show Lib.idxOf (aF n) (v:Int)<((aF n).length:Int);omega
theorem aQc(n:NetD):Inj (plN n):=by
 intro u v h0 he;have h1:=eZ (aF n) (u:Int);change 0≤Lib.idxOf (aF n) (u:Int)at h0;change Lib.idxOf (aF n) (u:Int)=Lib.idxOf (aF n) (v:Int)at he;have a:=(qN (jH n) (k:=(Lib.idxOf (aF n) (u:Int)).toNat) (by omega) (v:=u)).1 (by omega);have b:=(qN (jH n) (k:=(Lib.idxOf (aF n) (u:Int)).toNat) (by omega) (v:=v)).1 (by omega);omega
theorem aBh{n:NetD}{v:Nat}(h:(v:Int)∈aF n):0≤plN n v∧(aF n).getD (plN n v).toNat 0=v:=by
 rcases eZ (aF n) (v:Int)with h1|h1
 ·exact absurd h (sA _ 0 h1)
 ·refine⟨h1.1,?_⟩;exact((qN (jH n) (k:=(Lib.idxOf (aF n) (v:Int)).toNat) (by omega) (v:=v)).1 (by omega)).symm
theorem aGw{n:NetD}(h:VNet n):at2 (fwM n)=mZ (plN n) (fun _ _=>0) (esN n):=aBa rfl (fun x hx=>(aAx h x hx).1) (fun x hx=>(aAy h x hx).1) _ (by simp[bB]) (by simp[toL])
theorem aQd{n:NetD}(h:VNet n)(r:List Rat){i:Nat}(hi:i<nfN n):(sm (nfN n) fun j=>at2 (fwM n) i j*xN n r j)=(cV (aF n) r).getD i 0:=by
 have hinv:=aTm (jX n) (fun k=>aBb h ((aKn (jX n)).1 k));have hx:∀j,j<nfN n→xN n r j=sm (nfN n) fun k=>at2 (mO n) j k*(cV (aF n) r).getD k 0:=fun j hj=>by
  unfold xN xB;rw[(qM n).rowlen hj];rfl
 have e1:(sm (nfN n) fun j=>at2 (fwM n) i j*xN n r j)=sm (nfN n) fun j=>sm (nfN n) fun k=>at2 (fwM n) i j*at2 (mO n) j k*(cV (aF n) r).getD k 0:=bF _ fun j hj=>by
   rw[hx j hj,←kJ];exact bF _ fun k _=>by rw[Rat.mul_assoc]
 rw[e1,uK];have e2:(sm (nfN n) fun k=>sm (nfN n) fun j=>at2 (fwM n) i j*at2 (mO n) j k*(cV (aF n) r).getD k 0)=sm (nfN n) fun k=>at2 (idQ (nfN n)) i k*(cV (aF n) r).getD k 0:=bF _ fun k hk=>by
   have h2:at2 (aEz (fwM n) (mO n) (nfN n)) i k=at2 (idQ (nfN n)) i k:=by
    show at2 (aEz (fwM n) (yJ (fwM n) (aF n).length) (aF n).length) i k=_;rw[hinv];rfl
   rw[aJy (jX n) hi hk]at h2;rw[←h2,Rat.mul_comm,←kJ];exact bF _ fun j _=>by
    show _=(cV (aF n) r).getD k 0*(at2 (fwM n) i j*at2 (mO n) j k);rw[Rat.mul_comm]
 rw[e2,lZ i _ hi fun k hk hne=>by rw[aHp hi hk,if_neg (fun e=>hne e.symm),Rat.zero_mul],aHp hi hi,if_pos rfl,Rat.one_mul]
theorem vM{free:List Int}{r:List Rat}{i:Nat}(hi:i<free.length):(cV free r).getD i 0=r.getD (free.getD i 0).toNat 0:=by
 unfold cV;rw[gD,List.getElem?_map,gD (l:=free),gE hi];rfl
theorem aQe{n:NetD}(h:VNet n)(r:List Rat){v:Nat}(hv:(v:Int)∈aF n):oT (fun u=>(thN n r).getD u 0) v (esN n)=r.getD v 0:=by
 obtain⟨h1,h2⟩:=aBh hv;have hl:=aDn n v;have e:=aBg (n:=nfN n) (aDn n) (aQc n) (xN n r) v h1 (esN n) (fun _ _=>0);rw[←aGw h]at e;have e2:sC (nfN n) (at2 (fwM n)) (xN n r) (plN n v).toNat=r.getD v 0:=by
  rw[sC,aQd h r (by omega),vM (show(plN n v).toNat<(aF n).length by unfold nfN at hl;omega),h2,Int.toNat_natCast]
 have e3:sC (nfN n) (fun _ _=>(0:Rat)) (xN n r) (plN n v).toNat=0:=fQ _ fun j _=>Rat.zero_mul _;rw[e2,e3]at e;rw[show(fun u=>(thN n r).getD u 0)=dP (plN n) (xN n r)from funext fun u=>uG n r u,e];grind
theorem aDo(n:NetD)(r:List Rat){v:Nat}(hv:(v:Int)∉aF n):(thN n r).getD v 0=0:=by
 rw[uG,dP,if_neg];show¬0≤Lib.idxOf (aF n) (v:Int);rw[qJ hv];decide
theorem aVm{n:NetD}(h:VNet n){r:List Rat}{x:Nat→Rat}(h0:∀v:Nat,(v:Int)∉aF n→x v=0)(hb:∀v:Nat,(v:Int)∈aF n→oT x v (esN n)=r.getD v 0):∀v,x v=(thN n r).getD v 0:=by
 have hz:∀i,i<nfN n→x ((aF n).getD i 0).toNat-xN n r i=0:=by
  have hfr:∀i,i<nfN n→((((aF n).getD i 0).toNat:Nat):Int)=(aF n).getD i 0:=fun i hi=>Int.toNat_of_nonneg (oC _ (bH (l:=aF n) hi)).1;have hhat:dP (plN n) (fun i=>x ((aF n).getD i 0).toNat)=x:=by
   funext v;rw[dP];by_cases hv:(v:Int)∈aF n
   ·obtain⟨h1,h2⟩:=aBh hv;rw[if_pos h1,h2,Int.toNat_natCast]
   ·rw[if_neg,h0 v hv];show¬0≤Lib.idxOf (aF n) (v:Int);rw[qJ hv];decide
  refine aHu (aBb h) fun i hi=>?_;have hm:(aF n).getD i 0∈aF n:=bH (l:=aF n) hi;have hi2:=hfr i hi;have hpl:plN n ((aF n).getD i 0).toNat=i:=by
   show Lib.idxOf (aF n) ((((aF n).getD i 0).toNat:Nat):Int)=i;rw[hi2];exact vJ (jH n) hi
  have e1:=aBg (n:=nfN n) (aDn n) (aQc n) (fun i=>x ((aF n).getD i 0).toNat) ((aF n).getD i 0).toNat (by rw[hpl];omega) (esN n) (fun _ _=>0);rw[←aGw h,hhat,hpl,Int.toNat_natCast,hb _ (by rw[hi2];exact hm)]at e1;have e3:sC (nfN n) (fun _ _=>(0:Rat)) (fun i=>x ((aF n).getD i 0).toNat) i=0:=fQ _ fun j _=>Rat.zero_mul _;rw[e3]at e1;have e2:=aQd h r hi;rw[vM (r:=r) hi]at e2;have e4:(sm (nfN n) fun k=>at2 (fwM n) i k*(x ((aF n).getD k 0).toNat-xN n r k))=sC (nfN n) (at2 (fwM n)) (fun i=>x ((aF n).getD i 0).toNat) i-sm (nfN n) fun j=>at2 (fwM n) i j*xN n r j:=by
   have:=aCe 1 (-1) (fun k=>at2 (fwM n) i k*x ((aF n).getD k 0).toNat) (fun k=>at2 (fwM n) i k*xN n r k) (nfN n);rw[sC];have e5:(sm (nfN n) fun k=>at2 (fwM n) i k*(x ((aF n).getD k 0).toNat-xN n r k))=sm (nfN n) fun k=>1*(at2 (fwM n) i k*x ((aF n).getD k 0).toNat)+-1*(at2 (fwM n) i k*xN n r k):=bF _ fun k _=>by grind
   rw[e5,this];grind
  change(sm (nfN n) fun k=>at2 (fwM n) i k*(x ((aF n).getD k 0).toNat-xN n r k))=0;rw[e4,e1,e2];grind
 intro v;rw[uG,dP];by_cases hv:(v:Int)∈aF n
 ·obtain⟨h1,h2⟩:=aBh hv;have hl:=aDn n v;have:=hz (plN n v).toNat (by omega);rw[h2,Int.toNat_natCast]at this;rw[if_pos h1];grind
 ·rw[if_neg,h0 v hv];show¬0≤Lib.idxOf (aF n) (v:Int);rw[qJ hv];decide
def jY(n:NetD):Bool:=decide (8<n.nodes.length)||decide (10<n.branches.length)||decide (10<n.switches.length)
theorem kT{n:NetD}(h:jY n=false):n.nodes.length≤8∧n.branches.length≤10∧n.switches.length≤10:=by
 unfold jY at h;simp only[Bool.or_eq_false_iff,decide_eq_false_iff_not]at h;omega
theorem aYq{n:NetD}(h:VNet n)(h8:n.nodes.length≤8):nbN n≤8:=by
 have hm:=jK (l:=aI n) (N:=8) (by omega) (by
  intro x hx;obtain⟨i,hi,rfl⟩:=List.getElem_of_mem hx;have hl:=cE h;have:=iY h i (by omega) (by omega);simp only[at_,Int.toNat_natCast,gD,gE hi,Option.getD_some]at this;omega)
 unfold nbN;rw[aC,iJ];split
 ·simp only[oD];omega
 ·simp
theorem aYr{n:NetD}(h:VNet n)(h8:n.nodes.length≤8):nfN n≤8:=by
 have:=iW (aC n) (aC n).length;have:=aYq h h8;unfold nbN at this;unfold nfN aF;omega
theorem bAu{b:BranchD}(h:bX b=true):(bQ b).num.natAbs≤10^6∧(bQ b).den≤10^8:=by
 have hp:=jW h;have hd:=jB 1000000 (b.x*b.tap);unfold bQ;refine⟨Nat.le_trans hd.1 (by decide),Nat.le_trans hd.2 ?_⟩;generalize b.x*b.tap=z at*;have:(10:Nat)^8=100000000:=by decide
 omega
theorem vN:∀(l:List Rat),(∀x∈l,x.den≤10^8)→cO l≤10^(8*l.length)
 |[],_=>by simp[cO]
 |x::l,h=>by
  have ih:=vN l fun y hy=>h y (by simp[hy]);rw[cO,List.length_cons,Nat.mul_add,Nat.add_comm,Nat.mul_one,Nat.pow_add];exact Nat.mul_le_mul (h x (by simp)) ih
theorem aDp:∀(l:List Rat),(∀x∈l,x.num.natAbs≤10^6∧x.den≤10^8)→∀x∈l,IB (10^(8*l.length+6)) ((cO l:Rat)*x)
 |[],_,x,hx=>by simp at hx
 |y::l,h,x,hx=>by
  have hl:=vN l fun y hy=>(h y (by simp[hy])).2;have hlen:8*(y::l).length+6=8*l.length+6+8:=by rw[List.length_cons,Nat.mul_add,Nat.mul_one]
  have e:((cO (y::l):Nat):Rat)=((y.den:Nat):Rat)*(cO l:Rat):=by rw[cO,Rat.natCast_mul]
  rw[e,hlen];rcases List.mem_cons.1 hx with rfl|hx
  ·have h1:IB (10^6) (x.num:Rat):=⟨x.num,rfl,(h x (by simp)).1⟩;have h2:IB (10^(8*l.length)) (cO l:Rat):=⟨(cO l:Int),rfl,by rw[Int.natAbs_natCast];exact hl⟩;have h3:=(gH h1 h2).ten (l:=8*l.length+6+8) (by omega);rw[←aVj x]at h3;rw[show((x.den:Nat):Rat)*(cO l:Rat)*x=x*((x.den:Nat):Rat)*(cO l:Rat) by grind];exact h3
  ·have ih:=aDp l (fun y hy=>h y (by simp[hy])) x hx;have h1:IB (10^8) ((y.den:Nat):Rat):=⟨(y.den:Int),rfl,by rw[Int.natAbs_natCast];exact(h y (by simp)).2⟩;rw[show((y.den:Nat):Rat)*(cO l:Rat)*x=(cO l:Rat)*x*((y.den:Nat):Rat) by grind];exact gH ih h1
def DN(n:NetD):Rat:=((cO (bLQ n):Nat):Rat)
theorem aXv(n:NetD):DN n≠0:=fun e=>by
 have:=oM (bLQ n);have e2:((cO (bLQ n):Nat):Rat)=0:=e;have e3:cO (bLQ n)=0:=by exact_mod_cast e2
 omega
theorem aQf{n:NetD}(h:VNet n):∀x∈bLQ n,x.num.natAbs≤10^6∧x.den≤10^8:=fun x hx=>by
 obtain⟨b,hb,rfl⟩:=List.mem_map.1 hx;exact bAu (h.br b hb).2.2.2
theorem aQg{n:NetD}(h:VNet n)(hb:n.branches.length≤10):IB (10^80) (DN n):=by
 have h1:=vN (bLQ n) fun x hx=>(aQf h x hx).2;have hl:(bLQ n).length=n.branches.length:=by simp[bLQ]
 refine⟨(cO (bLQ n):Int),rfl,?_⟩;rw[Int.natAbs_natCast];exact Nat.le_trans h1 (Nat.pow_le_pow_right (by decide) (by omega))
theorem aYs{n:NetD}(h:VNet n)(hb:n.branches.length≤10){b:BranchD}(hm:b∈n.branches):IB (10^86) (DN n*bQ b):=by
 have hl:(bLQ n).length=n.branches.length:=by simp[bLQ]
 exact(aDp (bLQ n) (aQf h) (bQ b) (List.mem_map.2 ⟨b,hm,rfl⟩)).ten (by omega)
theorem bAv(a:Int):(1000:Rat)*Rat.divInt a 1000=(a:Rat):=by
 have h:=iT (show((1000:Int):Rat)≠0 by decide) (a:Rat);rw[←Rat.divInt_eq_div]at h;exact h
theorem bAw{n:NetD}(h:VNet n)(hb:n.branches.length≤10){b:BranchD}(hm:b∈n.branches):IB (10^89) (1000*(DN n*cQ b)):=by
 have h1:=aYs h hb hm;have h2:=(lQ (h.br b hm).2.2.2).2.2.2.2;have h30:(-b.shift).natAbs≤10^3:=by
  rw[show(10:Nat)^3=1000 by decide];omega
 have h3:IB (10^3) ((-b.shift:Int):Rat):=⟨-b.shift,rfl,h30⟩;have h4:=gH h1 h3;rw[←bAv]at h4;rw[cQ,show 1000*(DN n*(bQ b*Rat.divInt (-b.shift) 1000))=DN n*bQ b*(1000*Rat.divInt (-b.shift) 1000) by grind];exact h4
theorem aVn{n:NetD}{e:kQ}(he:e∈esN n):∃b∈n.branches,e=((aP n b.src).toNat,(aP n b.dst).toNat,bQ b):=by
 obtain⟨i,hi,rfl⟩:=List.mem_map.1 he;have hi:=List.mem_range.1 hi;refine⟨n.branches[i],List.getElem_mem hi,?_⟩;simp[bB,toL,bLQ,hi]
theorem aXw{n:NetD}(h:VNet n)(hb:n.branches.length≤10)(i j:Nat):IB (10^88) (DN n*at2 (fwM n) i j):=by
 rw[aGw h];have h1:=aJi (D:=DN n) (B:=10^86) (plN n) (esN n) 0 (fun _ _=>0) (fun e he=>by
  obtain⟨b,hm,rfl⟩:=aVn he;exact aYs h hb hm) (fun a c=>by rw[Rat.mul_zero];exact IB.zero _) i j
 have hl:(esN n).length=n.branches.length:=by simp[esN,esL]
 refine h1.mono ?_;rw[hl,Nat.zero_add,show(10:Nat)^88=10*(10*10^86) by rw[show 88=86+2 by rfl,Nat.pow_add]];generalize 10^86=z;exact Nat.mul_le_mul hb (by omega)
def Small(n:NetD)(r:List Rat):Prop:=∀i,IB (10^91) (1000*(DN n*r.getD i 0))
structure Scale(n:NetD)(e:Rat):Prop where
 ne:e≠0
 sz:Ten 830 e
 th:∀r,Small n r→∀v,Ov 828 e ((thN n r).getD v 0)
 df:∀r,Small n r→∀b∈n.branches,∀u v,Ov 828 e (bQ b*((thN n r).getD u 0-(thN n r).getD v 0))
 cc:∀b∈n.branches,Ov 828 e (cQ b)
theorem vO{n:NetD}(h:VNet n)(hw:jY n=false):∃e,Scale n e:=by
 obtain⟨hn,hb,_⟩:=kT hw;have hnf:=aYr h hn;have hd:Ten 712 (oS (nfN n) (DN n) (at2 (fwM n))):=(aJh (k:=88) (aVl fun i j _ _=>aXw h hb i j) hnf).ten (by omega);have hd0:oS (nfN n) (DN n) (at2 (fwM n))≠0:=aVk (aBb h) (aXv n);have hD:=aQg h hb;have hK:IB (10^3) (1000:Rat):=⟨1000,rfl,by decide⟩;have hh:∀r,Small n r→∀v,Ten 736 (1000*(thN n r).getD v 0*oS (nfN n) (DN n) (at2 (fwM n))):=fun r hr v=>by
  rw[uG,dP];by_cases hp:0≤plN n v
  ·rw[if_pos hp];have hl:=aDn n v;exact(aJh (k:=91) (aYp (C:=10^91) (r:=fun i=>(cV (aF n) r).getD i 0) (fun i j _ _=>aXw h hb i j) (fun i hi=>by rw[vM (show i<(aF n).length from hi)];exact hr _) (Nat.pow_le_pow_right (by decide) (by omega)) (fun i hi=>aQd h r hi) (show(plN n v).toNat<nfN n by omega)) hnf).ten (by omega)
  ·rw[if_neg hp,Rat.mul_zero,Rat.zero_mul];exact IB.zero _
 refine⟨1000*DN n*oS (nfN n) (DN n) (at2 (fwM n)),uE (uE (by decide) (aXv n)) hd0,(gH (gH hK hD) hd).ten (by omega),fun r hr v=>?_,fun r hr b hm u v=>?_,fun b hm=>?_⟩
 ·have h1:=gH (hh r hr v) hD;unfold Ov;rw[show(thN n r).getD v 0*(1000*DN n*oS (nfN n) (DN n) (at2 (fwM n)))=1000*(thN n r).getD v 0*oS (nfN n) (DN n) (at2 (fwM n))*DN n by grind];exact h1.ten (by omega)
 ·have h1:=gH (aYs h hb hm) (aYo (hh r hr u) (hh r hr v));unfold Ov;rw[show bQ b*((thN n r).getD u 0-(thN n r).getD v 0)*(1000*DN n*oS (nfN n) (DN n) (at2 (fwM n)))=DN n*bQ b*(1000*(thN n r).getD u 0*oS (nfN n) (DN n) (at2 (fwM n))-1000*(thN n r).getD v 0*oS (nfN n) (DN n) (at2 (fwM n))) by grind];exact h1.ten (by omega)
 ·have h1:=gH (bAw h hb hm) hd;unfold Ov;rw[show cQ b*(1000*DN n*oS (nfN n) (DN n) (at2 (fwM n)))=1000*(DN n*cQ b)*oS (nfN n) (DN n) (at2 (fwM n)) by grind];exact h1.ten (by omega)
theorem aQh{D:Rat}{frm tu:List Int}{C P:List Rat}{B B0:Nat}(hC:∀i,IB B (1000*(D*C.getD i 0)))(hP:∀i,IB B0 (1000*(D*P.getD i 0))):∀k i,IB (B0+k*(2*B)) (1000*(D*(shK frm tu C P k).getD i 0))
 |0,i=>(hP i).mono (by omega)
 |k+1,i=>by
  have ih:=aQh (frm:=frm) (tu:=tu) hC hP k;have h1:∀i,IB (B0+k*(2*B)+B) (1000*(D*((shK frm tu C P k).set (frm.getD k 0).toNat ((shK frm tu C P k).getD (frm.getD k 0).toNat 0-C.getD k 0)).getD i 0)):=fun i=>by
   rw[eL];split
   ·rw[show 1000*(D*((shK frm tu C P k).getD (frm.getD k 0).toNat 0-C.getD k 0))=1000*(D*(shK frm tu C P k).getD (frm.getD k 0).toNat 0)-1000*(D*C.getD k 0) by grind];exact(ih _).sub (hC k)
   ·exact(ih i).mono (by omega)
  rw[shK,shQ,eL,Nat.add_mul,Nat.one_mul];split
  ·generalize(shK frm tu C P k).set (frm.getD k 0).toNat ((shK frm tu C P k).getD (frm.getD k 0).toNat 0-C.getD k 0)=L at*;rw[show 1000*(D*(L.getD (tu.getD k 0).toNat 0+C.getD k 0))=1000*(D*L.getD (tu.getD k 0).toNat 0)+1000*(D*C.getD k 0) by grind];exact((h1 _).add (hC k)).mono (by omega)
  ·exact(h1 i).mono (by omega)
theorem aYt{n:NetD}(h:VNet n)(hb:n.branches.length≤10)(i:Nat):IB (10^89) (1000*(DN n*(cLQ n).getD i 0)):=by
 unfold cLQ;rw[gD,List.getElem?_map];cases e:n.branches[i]? with
 |none=>
  show IB (10^89) (1000*(DN n*0));rw[Rat.mul_zero,Rat.mul_zero];exact IB.zero _
 |some b=>exact bAw h hb (List.mem_of_getElem? e)
theorem aDq{n:NetD}(h:VNet n)(hb:n.branches.length≤10){r:List Rat}(hr:∀i,IB (10^6) (r.getD i 0)):Small n (shN n r):=fun i=>by
 have hK:IB (10^3) (1000:Rat):=⟨1000,rfl,by decide⟩;have h1:=aQh (D:=DN n) (frm:=bB n) (tu:=toL n) (C:=cLQ n) (P:=r) (aYt h hb) (fun i=>gH hK (gH (aQg h hb) (hr i))) n.branches.length i;refine h1.mono ?_;rw[show(10:Nat)^91=100*10^89 by rw[show 91=89+2 by rfl,Nat.pow_add]];have e:(10:Nat)^(3+(80+6))=10^89:=rfl;rw[e];generalize 10^89=z;have:=Nat.mul_le_mul_right (2*z) hb;omega
theorem aQi{n:NetD}(h8:n.nodes.length≤8){inj:List Int}(hi:∀i,-100000≤inj.getD i 0∧inj.getD i 0≤100000)(i:Nat):IB (10^6) ((smN n inj).getD i 0):=by
 unfold smN smQ;rw[gD,List.getElem?_map];cases e:(smI (aI n) inj (nbN n) n.nodes.length)[i]? with
 |none=>exact IB.zero _
 |some z=>
  have hb:=iX (bus:=aI n) (nb:=nbN n) hi n.nodes.length i;rw[gD,e]at hb;simp only[Option.getD_some]at hb;refine⟨z,rfl,?_⟩;have:(10:Nat)^6=1000000:=by decide
  omega
theorem aYu{n:NetD}(th:List Rat){q:Rat}(hq:q∈flN n th):∃b∈n.branches,q=bQ b*(th.getD (aP n b.src).toNat 0-th.getD (aP n b.dst).toNat 0)+cQ b:=by
 obtain⟨i,hi,rfl⟩:=List.mem_map.1 hq;have hi:=List.mem_range.1 hi;refine⟨n.branches[i],List.getElem_mem hi,?_⟩;simp[aGr,bB,toL,bLQ,cLQ,hi]
theorem bAx{n:NetD}{e:Rat}(h:Scale n e){r:List Rat}(hr:Small n r):∀q∈flN n (thN n r),SzQ q 831:=fun q hq=>by
 obtain⟨b,hb,rfl⟩:=aYu _ hq;exact((((h.df r hr b hb _ _).add (h.cc b hb)).mono (show 828+1≤830 by omega)).sz h.sz h.ne)
theorem aVo{n:NetD}{inj:List Int}(h:gG n inj=0):aU n inj=0∧(yE n inj).all bK=true∧(dH n inj).all bK=true:=by
 unfold gG at h;by_cases h1:aU n inj=0
 ·rw[if_neg (fun k=>k h1)]at h;by_cases h2:zE n inj=true
  ·rw[if_pos h2]at h;omega
  ·unfold zE at h2;rw[Bool.not_eq_true,Bool.not_eq_false',Bool.and_eq_true]at h2;exact⟨h1,h2⟩
 ·rw[if_pos h1]at h;exact absurd h h1
theorem aVp(l:List Rat):(mkS (l.map aQ)).length=l.length:=by simp[mkS]
theorem dE(n:NetD)(inj:List Int):(dH n inj).length=n.branches.length:=aJg _ _
def mL(a b:List Rat):List Rat:=List.zipWith (·+ ·) a b
theorem aQj{a b:List Rat}(hl:a.length=b.length)(j:Nat):(mL a b).getD j 0=a.getD j 0+b.getD j 0:=by
 unfold mL;rw[gD,List.getElem?_zipWith,gD,gD];by_cases h:j<a.length
 ·rw[gE h,gE (by omega)];rfl
 ·rw[List.getElem?_eq_none (by omega),List.getElem?_eq_none (by omega)];simp[Rat.add_zero]
theorem aQk{a b:List Rat}(hl:a.length=b.length)(h:∀j,j<a.length→a.getD j 0=b.getD j 0):a=b:=by
 refine List.ext_getElem hl fun j h1 h2=>?_;have:=h j h1;rw[gD,gE h1,gD,gE h2]at this;exact this
theorem aYv{frm tu:List Int}{B C th:List Rat}{k i:Nat}(hi:i<k):(flK frm tu B C th k).getD i 0=aGr frm tu B C th i:=by
 unfold flK;rw[gD,List.getElem?_map,List.getElem?_range hi];rfl
end Go.Proofs.YtenbglfkdldheaaGreatDoor
