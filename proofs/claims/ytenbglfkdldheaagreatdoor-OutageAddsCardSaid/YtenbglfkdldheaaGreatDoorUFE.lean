/- Power flows: the matrix of the susceptances without one bus of each island is regular. Plain facts. No program here. Power flows: the model's matrix is the one of FlA; it is regular. Plain facts. flow: Buses, a copy of numbers, angles. flow: Angles. -/
import Derived.Test.YtenbglfkdldheaaGreatDoorUFD
set_option maxRecDepth 100000
set_option maxHeartbeats 16000000
namespace Go.Proofs.YtenbglfkdldheaaGreatDoor
section
theorem null_of_det{m:MQ}{n:Nat}(h:Rect m n n)(hd:det n (at2 m)=0):∃x:Nat→Rat,(∀i,i<n→(sm n fun k=>at2 m i k*x k)=0)∧∃f,f<n∧x f≠0:=by
 obtain⟨π,δ,ε,hI⟩:=(gM h n).inv;have hl:(cA m n).2.length<n:=by
  have h1:=hI.minor n (fun X=>det n fun i j=>X i j) id hI.few (nQ n id) (fun _ _=>rfl) (fun i hi=>hi) (fun i j _ _ e=>e);have h2:=hI.sign (fun X=>det n fun i j=>X i j) (at2 m) (nQ n id);simp only[id]at h1 h2;rw[h2]at h1;have hfew:=hI.few;rcases Nat.lt_or_ge (cA m n).2.length n with hl|hl
  ·exact hl
  ·exfalso;have hid:=hI.piv_id (show _=n by omega);have h4:det n (fun i j=>at2 (cA m n).1 i j)=1:=by
    rw[←aHo n];refine dK n fun i j hi hj=>?_;have:=hI.unit j i (by omega) hi;rw[hid j hj]at this;exact this
   have h5:det n (fun i j=>at2 m i j)=0:=hd;rw[h4,h5,Rat.mul_zero,Rat.mul_one]at h1;exact hI.dne h1.symm
 have hf:=aAi h n;obtain⟨f,hfm⟩:∃f,f∈pD (cA m n).2 n:=by
  cases e:pD (cA m n).2 n with
  |nil=>rw[e]at hf;simp only[List.length_nil]at hf;omega
  |cons f r=>exact⟨f,List.mem_cons_self⟩
 obtain⟨f1,f2⟩:=aNk.1 hfm;refine⟨fun j=>(nS (cA m n).1 (cA m n).2 n f (cA m n).2.length).getD j 0,aNl hI f1 f2,f,f1,?_⟩;simp only;rw[sN hI f1 f2 _ lR];decide
def dO(A:Nat→Nat→Rat)(i j:Nat)(c:Rat):Nat→Nat→Rat:=fun a b=>if a=i∧b=j then A a b+c else A a b
def qf(n:Nat)(A:Nat→Nat→Rat)(x:Nat→Rat):Rat:=sm n fun a=>x a*sm n fun b=>A a b*x b
theorem rZ{n i j:Nat}(hi:i<n)(hj:j<n)(A:Nat→Nat→Rat)(c:Rat)(x:Nat→Rat):qf n (dO A i j c) x=qf n A x+c*(x i*x j):=by
 have h1:∀a,(sm n fun b=>dO A i j c a b*x b)=(sm n fun b=>A a b*x b)+if a=i then c*x j else 0:=by
  intro a;have e:(fun b=>dO A i j c a b*x b)=fun b=>A a b*x b+(if a=i∧b=j then c*x b else 0):=by
   funext b;rw[dO];split<;>grind
  rw[e,sL];congr 1;by_cases ha:a=i
  ·rw[if_pos ha,lZ j n hj fun b _ hb=>if_neg fun k=>hb k.2,if_pos ⟨ha,rfl⟩]
  ·rw[if_neg ha];exact fQ n fun b _=>if_neg fun k=>ha k.1
 have e:(fun a=>x a*sm n fun b=>dO A i j c a b*x b)=fun a=>(x a*sm n fun b=>A a b*x b)+(if a=i then x a*(c*x j)else 0):=by
  funext a;rw[h1 a];split<;>grind
 rw[qf,e,sL,lZ i n hi fun a _ ha=>if_neg ha,if_pos rfl,qf];grind
def fF(pl:Nat→Int)(A:Nat→Nat→Rat)(u v:Nat)(b:Rat):Nat→Nat→Rat:=if u=v then A
 else
  let A1:=if 0≤pl u then dO A (pl u).toNat (pl u).toNat b else A
  let A2:=if 0≤pl v then dO A1 (pl v).toNat (pl v).toNat b else A1
  if 0≤pl u∧0≤pl v then dO (dO A2 (pl u).toNat (pl v).toNat (-b)) (pl v).toNat (pl u).toNat (-b)else A2
def dP(pl:Nat→Int)(x:Nat→Rat)(v:Nat):Rat:=if 0≤pl v then x (pl v).toNat else 0
theorem aPj{n:Nat}{pl:Nat→Int}(hp:∀v,pl v<n)(A:Nat→Nat→Rat)(u v:Nat)(b:Rat)(x:Nat→Rat): qf n (fF pl A u v b) x=qf n A x+if u=v then 0 else b*((dP pl x u-dP pl x v)*(dP pl x u-dP pl x v)):=by
 by_cases h:u=v
 ·rw[fF,if_pos h,if_pos h];grind
 ·rw[fF,if_neg h,if_neg h,dP,dP];have hu:=hp u;have hv:=hp v;simp only;by_cases h1:0≤pl u
  ·by_cases h2:0≤pl v
   ·rw[if_pos ⟨h1,h2⟩,if_pos h2,if_pos h1,if_pos h1,if_pos h2,rZ (by omega) (by omega),rZ (by omega) (by omega),rZ (by omega) (by omega),rZ (by omega) (by omega)];grind
   ·rw[if_neg (fun k=>h2 k.2),if_neg h2,if_pos h1,if_pos h1,if_neg h2,rZ (by omega) (by omega)];grind
  ·by_cases h2:0≤pl v
   ·rw[if_neg (fun k=>h1 k.1),if_pos h2,if_neg h1,if_neg h1,if_pos h2,rZ (by omega) (by omega)];grind
   ·rw[if_neg (fun k=>h1 k.1),if_neg h2,if_neg h1,if_neg h1,if_neg h2];grind
abbrev kQ:=Nat×Nat×Rat
def mZ(pl:Nat→Int)(A:Nat→Nat→Rat)(es:List kQ):Nat→Nat→Rat:=es.foldl (fun A e=>fF pl A e.1 e.2.1 e.2.2) A
def enE(pl:Nat→Int)(x:Nat→Rat):List kQ→Rat
 |[]=>0
 |e::es=>(if e.1=e.2.1 then 0 else e.2.2*((dP pl x e.1-dP pl x e.2.1)*(dP pl x e.1-dP pl x e.2.1)))+enE pl x es
theorem aPk{n:Nat}{pl:Nat→Int}(hp:∀v,pl v<n)(x:Nat→Rat):∀(es:List kQ) (A:Nat→Nat→Rat),qf n (mZ pl A es) x=qf n A x+enE pl x es
 |[],A=>by rw[mZ,List.foldl_nil,enE];grind
 |e::es,A=>by
  have ih:=aPk hp x es (fF pl A e.1 e.2.1 e.2.2);rw[mZ]at ih;rw[mZ,List.foldl_cons,ih,aPj hp,enE];grind
theorem aXs(x:Rat):0≤x*x:=by
 rcases(Rat.le_total:(0:Rat)≤x∨x≤0)with h|h
 ·exact Rat.mul_nonneg h h
 ·have h2:0≤-x:=by grind
  have h3:=Rat.mul_nonneg h2 h2;grind
theorem aXt{pl:Nat→Int}{x:Nat→Rat}:∀{es:List kQ},(∀e∈es,0<e.2.2)→0≤enE pl x es
 |[],_=>by rw[enE];exact Rat.le_refl
 |e::es,h=>by
  have ih:=aXt (pl:=pl) (x:=x) fun e he=>h e (List.mem_cons_of_mem _ he);have h1:0≤e.2.2:=by have:=h e List.mem_cons_self;grind
  rw[enE];split
  ·grind
  ·have:=Rat.mul_nonneg h1 (aXs (dP pl x e.1-dP pl x e.2.1));grind
theorem aAz{pl:Nat→Int}{x:Nat→Rat}:∀{es:List kQ},(∀e∈es,0<e.2.2)→enE pl x es=0→∀e∈es,dP pl x e.1=dP pl x e.2.1
 |[],_,_,e,he=>by cases he
 |e::es,h,hz,f,hf=>by
  have h1:=aXt (pl:=pl) (x:=x) fun e he=>h e (List.mem_cons_of_mem _ he);have h2:=h e List.mem_cons_self;have h3:=aXs (dP pl x e.1-dP pl x e.2.1);rw[enE]at hz;by_cases hs:e.1=e.2.1
  ·rw[if_pos hs]at hz;have hz2:enE pl x es=0:=by grind
   rcases List.mem_cons.1 hf with rfl|hf
   ·rw[hs]
   ·exact aAz (fun e he=>h e (List.mem_cons_of_mem _ he)) hz2 f hf
  ·rw[if_neg hs]at hz;have h4:0≤e.2.2:=by grind
   have h5:=Rat.mul_nonneg h4 h3;have hz2:enE pl x es=0:=by grind
   have hz3:e.2.2*((dP pl x e.1-dP pl x e.2.1)*(dP pl x e.1-dP pl x e.2.1))=0:=by grind
   rcases List.mem_cons.1 hf with rfl|hf
   ·rcases Rat.mul_eq_zero.1 hz3 with k|k
    ·rw[k]at h2;exact absurd h2 (by decide)
    ·rcases Rat.mul_eq_zero.1 k with k|k<;>grind
   ·exact aAz (fun e he=>h e (List.mem_cons_of_mem _ he)) hz2 f hf
theorem aDd{m:MQ}{n:Nat}(h:Rect m n n){pl:Nat→Int}(hp:∀v,pl v<n){es:List kQ}(hb:∀e∈es,0<e.2.2)(hm:∀i j,i<n→j<n→at2 m i j=mZ pl (fun _ _=>0) es i j) (hc:∀x:Nat→Rat,(∀e∈es,dP pl x e.1=dP pl x e.2.1)→∀i,i<n→x i=0):det n (at2 m)≠0:=by
 intro hd;obtain⟨x,hx,f,hf,hne⟩:=null_of_det h hd;have hq:qf n (at2 m) x=0:=fQ n fun a ha=>by rw[hx a ha,Rat.mul_zero]
 have hq2:qf n (mZ pl (fun _ _=>0) es) x=0:=by
  refine Eq.trans ?_ hq;refine bF n fun a ha=>?_;congr 1;exact bF n fun b hb=>by rw[hm a b ha hb]
 rw[aPk hp]at hq2;have hz:qf n (fun _ _=>(0:Rat)) x=0:=fQ n fun a _=>by
  rw[fQ n fun b _=>Rat.zero_mul _,Rat.mul_zero]
 rw[hz]at hq2;exact hne (hc x (aAz hb (by grind)) f hf)
theorem aDe{m:MQ}{n:Nat}(h:Rect m n n){p:Int}(hp:p=-1∨(0≤p∧p<n))(b:Rat)(a c:Nat):at2 (dI m p b) a c=(if 0≤p then dO (at2 m) p.toNat p.toNat b else at2 m) a c:=by
 rw[dI];by_cases h0:0≤p
 ·rw[if_pos h0,if_pos h0,vG h (by omega) (by omega),dO];by_cases e:a=p.toNat∧c=p.toNat
  ·rw[if_pos e,if_pos e,e.1,e.2]
  ·rw[if_neg e,if_neg e]
 ·rw[if_neg h0,if_neg h0]
theorem lS{m:MQ}{n:Nat}(h:Rect m n n){p:Int}(hp:p=-1∨(0≤p∧p<n))(b:Rat):Rect (dI m p b) n n:=by
 rw[dI];split
 ·exact dJ h (by omega) _ _
 ·exact h
theorem zA{m:MQ}{n:Nat}{free:List Int}(hl:free.length=n)(h:Rect m n n)(u v:Nat)(b:Rat)(a c:Nat):at2 (kG free u v b m) a c=fF (fun x:Nat=>Lib.idxOf free x) (at2 m) u v b a c:=by
 obtain⟨h1,h2,h3⟩:=pJ hl (u:Int) (v:Int);rw[kG,fF];by_cases huv:u=v
 ·subst huv;rw[if_pos rfl,if_pos rfl]
 ·rw[if_neg (fun k=>huv (by omega)),if_neg huv];show at2 (vF (dI (dI m (Lib.idxOf free (u:Int)) b) (Lib.idxOf free (v:Int)) b) (Lib.idxOf free (u:Int)) (Lib.idxOf free (v:Int)) b) a c=(if 0≤Lib.idxOf free (u:Int)∧0≤Lib.idxOf free (v:Int)then dO (dO (if 0≤Lib.idxOf free (v:Int)then dO (if 0≤Lib.idxOf free (u:Int)then dO (at2 m) (Lib.idxOf free (u:Int)).toNat (Lib.idxOf free (u:Int)).toNat b else at2 m) (Lib.idxOf free (v:Int)).toNat (Lib.idxOf free (v:Int)).toNat b else(if 0≤Lib.idxOf free (u:Int)then dO (at2 m) (Lib.idxOf free (u:Int)).toNat (Lib.idxOf free (u:Int)).toNat b else at2 m)) (Lib.idxOf free (u:Int)).toNat (Lib.idxOf free (v:Int)).toNat (-b)) (Lib.idxOf free (v:Int)).toNat (Lib.idxOf free (u:Int)).toNat (-b)else(if 0≤Lib.idxOf free (v:Int)then dO (if 0≤Lib.idxOf free (u:Int)then dO (at2 m) (Lib.idxOf free (u:Int)).toNat (Lib.idxOf free (u:Int)).toNat b else at2 m) (Lib.idxOf free (v:Int)).toNat (Lib.idxOf free (v:Int)).toNat b else(if 0≤Lib.idxOf free (u:Int)then dO (at2 m) (Lib.idxOf free (u:Int)).toNat (Lib.idxOf free (u:Int)).toNat b else at2 m))) a c;replace h3:=h3 (fun k=>huv (by omega));generalize Lib.idxOf free (u:Int)=p at*;generalize Lib.idxOf free (v:Int)=q at*;have e1:=aDe h h1 b;have r1:=lS h h1 b;have e2:=aDe r1 h2 b;have r2:=lS r1 h2 b;have f1:at2 (dI m p b)=(if 0≤p then dO (at2 m) p.toNat p.toNat b else at2 m):=by
   funext i j;exact e1 i j
  have f2:at2 (dI (dI m p b) q b)=(if 0≤q then dO (if 0≤p then dO (at2 m) p.toNat p.toNat b else at2 m) q.toNat q.toNat b else(if 0≤p then dO (at2 m) p.toNat p.toNat b else at2 m)):=by
   funext i j;rw[e2 i j,f1]
  rw[vF];by_cases hb:0≤p∧0≤q
  ·rw[if_pos hb,if_pos hb,vG (dJ r2 (by omega) _ _) (by omega) (by omega),vG r2 (by omega) (by omega),f2];have hne:p.toNat≠q.toNat:=fun k=>h3 hb.1 (by omega);generalize(if 0≤q then dO (if 0≤p then dO (at2 m) p.toNat p.toNat b else at2 m) q.toNat q.toNat b else(if 0≤p then dO (at2 m) p.toNat p.toNat b else at2 m))=A;unfold dO;by_cases g1:a=q.toNat∧c=p.toNat
   ·obtain⟨rfl,rfl⟩:=g1;rw[if_pos ⟨rfl,rfl⟩,if_pos ⟨rfl,rfl⟩,if_neg (fun k=>hne k.2),Rat.sub_eq_add_neg]
   ·rw[if_neg g1,if_neg g1];by_cases g2:a=p.toNat∧c=q.toNat
    ·rw[if_pos g2,if_pos g2,g2.1,g2.2,Rat.sub_eq_add_neg]
    ·rw[if_neg g2,if_neg g2]
  ·rw[if_neg hb,if_neg hb,f2]
def esL(frm tu:List Int)(B:List Rat)(k:Nat):List kQ:=(List.range k).map fun i=>((frm.getD i 0).toNat,(tu.getD i 0).toNat,B.getD i 0)
theorem oB{free frm tu:List Int}{B:List Rat}{n:Nat}(hl:free.length=n):∀k,Rect (gR free frm tu B n k) n n
 |0=>vH n
 |k+1=>by
  have ih:=oB (frm:=frm) (tu:=tu) (B:=B) hl k;rw[gR,kG];obtain⟨h1,h2,_⟩:=pJ hl (frm.getD k 0) (tu.getD k 0);split
  ·exact ih
  ·have r2:=lS (lS ih h1 (B.getD k 0)) h2 (B.getD k 0);rw[vF];split
   ·exact dJ (dJ r2 (by omega) _ _) (by omega) _ _
   ·exact r2
theorem aIx(n a c:Nat):at2 (iM n) a c=0:=by
 unfold at2 iM;by_cases h:a<n
 ·rw[gD (l:=List.replicate n (List.replicate n 0)),List.getElem?_replicate,if_pos h,Option.getD_some,gD,List.getElem?_replicate];split<;>rfl
 ·rw[gD (l:=List.replicate n (List.replicate n 0)),List.getElem?_replicate,if_neg h];rfl
theorem aBa{free frm tu:List Int}{B:List Rat}{n:Nat}(hl:free.length=n)(h2:∀x∈frm,0≤x)(h3:∀x∈tu,0≤x):∀k,k≤frm.length→k≤tu.length→at2 (gR free frm tu B n k)=mZ (fun x:Nat=>Lib.idxOf free x) (fun _ _=>0) (esL frm tu B k)
 |0,_,_=>by
  funext a c;exact aIx n a c
 |k+1,k2,k3=>by
  have hu:=h2 _ (bH (l:=frm) (k:=k) (by omega));have hv:=h3 _ (bH (l:=tu) (k:=k) (by omega));obtain⟨u,eu⟩:=Int.eq_ofNat_of_zero_le hu;obtain⟨v,ev⟩:=Int.eq_ofNat_of_zero_le hv;have ih:=aBa (B:=B) hl h2 h3 k (by omega) (by omega);have e:esL frm tu B (k+1)=esL frm tu B k++[(u,v,B.getD k 0)]:=by
   unfold esL;rw[List.range_succ,List.map_append,List.map_cons,List.map_nil,eu,ev];rfl
  funext a c;rw[gR,eu,ev,zA hl (oB hl k),ih,e,mZ,mZ,List.foldl_append];rfl
theorem aPl{n:NetD}(h:VNet n)(P:Int→Prop)(hP:∀b∈n.branches,(P (aP n b.src)↔P (aP n b.dst))){u v:Int}(hu:0≤u∧u<(aC n).length)(hv:0≤v∧v<(aC n).length)(he:at_ (aC n) u=at_ (aC n) v)(hp:P u):P v:=by
 have hl:=aBm h;have hm:=nE (aI n);rw[vU h,lU (fA h) (by omega) (by omega)]at he;refine he.keep P ?_ hp;intro a k ha hk hi;have hk2:k.toNat<n.branches.length:=by
  have h1:=hk.1;have h2:=hk.2.1;simp[aS]at h2;omega
 have e:bM (aS n) k=(aP n n.branches[k.toNat].src,aP n n.branches[k.toNat].dst):=by
  rw[bM,gD,aS,List.getElem?_map,gE hk2];rfl
 have h3:=hP n.branches[k.toNat] (List.getElem_mem hk2);rw[oE,e]at hi;unfold nxt;rw[e];rcases hi with hi|hi
 ·simp only at hi⊢;rw[hi]at h3⊢;have:a+aP n n.branches[k.toNat].dst-a=aP n n.branches[k.toNat].dst:=by omega
  rw[this];exact h3.1 ha
 ·simp only at hi⊢;rw[hi]at h3⊢;have:aP n n.branches[k.toNat].src+a-a=aP n n.branches[k.toNat].src:=by omega
  rw[this];exact h3.2 ha
theorem kR{isl:List Int}{x:Int}:∀{k:Nat},x∈fV isl k↔∃j:Nat,j<k∧x=j∧(isl.take j).contains (isl.getD j 0)=true
 |0=>by simp[fV]
 |k+1=>by
  rw[fV,List.mem_append,kR];constructor
  ·rintro(⟨j,h1,h2,h3⟩|h)
   ·exact⟨j,by omega,h2,h3⟩
   ·split at h
    ·rename_i hc;exact⟨k,by omega,List.mem_singleton.1 h,hc⟩
    ·cases h
  ·rintro⟨j,h1,h2,h3⟩;by_cases e:j<k
   ·exact .inl ⟨j,e,h2,h3⟩
   ·obtain rfl:j=k:=by omega
    right;rw[if_pos h3,h2];exact List.mem_singleton.2 rfl
theorem bAr(isl:List Int):∀(u:Nat),u<isl.length→∃r:Nat,r≤u∧isl.getD r 0=isl.getD u 0∧(r:Int)∉fV isl isl.length:=by
 intro u;induction u using Nat.strongRecOn with
 |ind u ih=>
  intro hu;by_cases hf:(u:Int)∈fV isl isl.length
  ·obtain⟨j,h1,h2,h3⟩:=kR.1 hf;obtain rfl:u=j:=by omega
   have hm:isl.getD u 0∈isl.take u:=by simpa using h3
   obtain⟨j,hj,e⟩:=List.getElem_of_mem hm;rw[List.length_take]at hj;rw[List.getElem_take]at e;obtain⟨r,h4,h5,h6⟩:=ih j (by omega) (by omega);refine⟨r,by omega,?_,h6⟩;rw[h5,gD,gE (by omega),←e];rfl
  ·exact⟨u,Nat.le_refl _,rfl,hf⟩
theorem nA(isl:List Int):∀k,(fV isl k).Nodup
 |0=>List.nodup_nil
 |k+1=>by
  rw[fV,List.nodup_append];refine⟨nA isl k,by split<;>simp,fun x hx y hy e=>?_⟩;subst e;obtain⟨j,h1,h2,_⟩:=kR.1 hx;split at hy
  ·have:=List.mem_singleton.1 hy;omega
  ·cases hy
theorem sA{x:Int}:∀(zs:List Int) (i:Nat),Lib.idxFrom zs x i=-1→x∉zs
 |[],_,_=>by simp
 |z::zs,i,h=>by
  rw[Lib.idxFrom]at h;split at h
  ·omega
  ·rename_i hz;have:=sA zs (i+1) h;simp only[List.mem_cons,not_or];refine⟨fun e=>?_,this⟩;subst e;simp at hz
theorem qJ{zs:List Int}{x:Int}(h:x∉zs):Lib.idxOf zs x=-1:=by
 rcases eZ zs x with h1|h1
 ·exact h1
 ·have h2:=gS x zs 0 (by simpa[Lib.idxOf]using h1.1);have h3:(Lib.idxFrom zs x 0).toNat-0<zs.length:=by have:=h1;unfold Lib.idxOf at this;omega
  exact absurd (h2▸bH h3) h
theorem vJ{zs:List Int}(hd:zs.Nodup){i:Nat}(hi:i<zs.length):Lib.idxOf zs (zs.getD i 0)=i:=by
 rcases eZ zs (zs.getD i 0)with h1|h1
 ·exact absurd (bH hi) (sA zs 0 h1)
 ·have h2:=gS (zs.getD i 0) zs 0 (by simpa[Lib.idxOf]using h1.1);change zs.getD ((Lib.idxOf zs (zs.getD i 0)).toNat-0) 0=zs.getD i 0 at h2;have h3:(Lib.idxOf zs (zs.getD i 0)).toNat<zs.length:=by omega
  rw[Nat.sub_zero]at h2;obtain⟨p,hp⟩:∃p,p=(Lib.idxOf zs (zs.getD i 0)).toNat:=⟨_,rfl⟩;rw[←hp]at h2 h3;rw[gD,gE h3,gD,gE hi]at h2;have h4:=(List.getElem_inj (h₀:=h3) (h₁:=hi) hd).1 (by simpa using h2);omega
theorem aPm{q:Rat}(h:0<q.num):0<q:=by
 rw[Rat.lt_iff];simpa using h
theorem aYm(a:Int){d:Int}(hd:0<d):(Rat.divInt a d).num*d=a*((Rat.divInt a d).den:Int):=by
 have h:=Rat.num_divInt_den (Rat.divInt a d);exact(Rat.divInt_eq_divInt_iff (by have:=den_pos (Rat.divInt a d);omega) (by omega)).1 h
theorem aYn{b:BranchD}(h:bX b=true):0<bQ b:=by
 have hp:=jW h;have hc:=aYm 1000000 (show 0<b.x*b.tap by omega);have hd:=den_pos (Rat.divInt 1000000 (b.x*b.tap));refine aPm ?_;show 0<(Rat.divInt 1000000 (b.x*b.tap)).num;refine Int.not_le.1 fun k=>?_;have:=Int.mul_le_mul_of_nonneg_right k (show 0≤b.x*b.tap by omega);omega
def fwM(n:NetD):MQ:=gR (aF n) (bB n) (toL n) (bLQ n) (aF n).length n.branches.length
theorem jX(n:NetD):Rect (fwM n) (aF n).length (aF n).length:=oB rfl _
theorem aBb{n:NetD}(h:VNet n):det (aF n).length (at2 (fwM n))≠0:=by
 have hfl:(bB n).length=n.branches.length:=by simp[bB]
 have htl:(toL n).length=n.branches.length:=by simp[toL]
 have hmem:∀e∈esL (bB n) (toL n) (bLQ n) n.branches.length,∃b∈n.branches,e=((aP n b.src).toNat,(aP n b.dst).toNat,bQ b):=by
  intro e he;obtain⟨i,hi,rfl⟩:=List.mem_map.1 he;have hi:=List.mem_range.1 hi;refine⟨n.branches[i],List.getElem_mem hi,?_⟩;simp[bB,toL,bLQ,hi]
 have hall:∀b∈n.branches,((aP n b.src).toNat,(aP n b.dst).toNat,bQ b)∈esL (bB n) (toL n) (bLQ n) n.branches.length:=by
  intro b hb;obtain⟨i,hi,rfl⟩:=List.getElem_of_mem hb;refine List.mem_map.2 ⟨i,List.mem_range.2 hi,?_⟩;simp[bB,toL,bLQ,hi]
 refine aDd (jX n) (pl:=fun x:Nat=>Lib.idxOf (aF n) x) (fun v=>by have:=eZ (aF n) v;omega) (es:=esL (bB n) (toL n) (bLQ n) n.branches.length) ?_ (fun i j _ _=>by rw[fwM,aBa rfl (fun x hx=>(aAx h x hx).1) (fun x hx=>(aAy h x hx).1) _ (by omega) (by omega)]) ?_
 ·intro e he;obtain⟨b,hb,rfl⟩:=hmem e he;exact aYn (h.br b hb).2.2.2
 ·intro x hx i hi;obtain⟨u,hul,hu,_⟩:=kR.1 (bH (l:=aF n) hi);obtain⟨r,hr,he,hrf⟩:=bAr (aC n) u hul;have hr0:dP (fun x:Nat=>Lib.idxOf (aF n) x) x r=0:=by
   rw[dP,if_neg];rw[show Lib.idxOf (aF n) (r:Int)=-1 from qJ hrf];decide
  have hk:=aPl h (fun w=>dP (fun x:Nat=>Lib.idxOf (aF n) x) x w.toNat=0) (fun b hb=>by
   have:=hx _ (hall b hb);simp only at this⊢;rw[this]) (u:=(r:Int)) (v:=(u:Int)) (by omega) (by omega) (by unfold at_;rw[Int.toNat_natCast,Int.toNat_natCast];exact he) (by show dP _ x ((r:Int).toNat)=0;rw[Int.toNat_natCast];exact hr0)
  simp only[Int.toNat_natCast]at hk;have hg:=vJ (nA (aC n) (aC n).length) hi;change Lib.idxOf (aF n) ((aF n).getD i 0)=i at hg;rw[hu]at hg;rw[dP,hg,if_pos (by omega),Int.toNat_natCast]at hk;exact hk
theorem aPn{n:NetD}(h:VNet n):tR (fwM n) (aF n).length=(yJ (fwM n) (aF n).length,true):=by
 rw[tR,if_neg (fun k=>aBb h ((aKn (jX n)).1 k))]
theorem uA{D:Rat}{N:Nat}{A:Nat→Nat→Rat}(h:∀a c,IF N (D*A a c)){b:Rat}(hb:IF N (D*b))(i j a c:Nat):IF (N+1) (D*dO A i j b a c):=by
 unfold dO;split
 ·rw[Rat.mul_add];exact(h a c).add hb
 ·exact(h a c).mono (by omega)
theorem aLq{D:Rat}{N:Nat}{A:Nat→Nat→Rat}(h:∀a c,IF N (D*A a c)){b:Rat}(hb:IF N (D*b))(pl:Nat→Int)(u v a c:Nat):IF (N+4) (D*fF pl A u v b a c):=by
 have hn:IF N (D*-b):=by rw[Rat.mul_neg];exact hb.neg
 unfold fF;split
 ·exact(h a c).mono (by omega)
 ·have h1:∀a c,IF (N+1) (D*(if 0≤pl u then dO A (pl u).toNat (pl u).toNat b else A) a c):=fun a c=>by
   split
   ·exact uA h hb _ _ a c
   ·exact(h a c).mono (by omega)
  have h2:∀a c,IF (N+2) (D*(if 0≤pl v then dO (if 0≤pl u then dO A (pl u).toNat (pl u).toNat b else A) (pl v).toNat (pl v).toNat b else(if 0≤pl u then dO A (pl u).toNat (pl u).toNat b else A)) a c):=fun a c=>by
   split
   ·exact uA h1 (hb.mono (by omega)) _ _ a c
   ·exact(h1 a c).mono (by omega)
  simp only;split
  ·exact uA (uA h2 (hn.mono (by omega)) _ _) (hn.mono (by omega)) _ _ a c
  ·exact(h2 a c).mono (by omega)
theorem aIy{free frm tu:List Int}{B:List Rat}{n:Nat}(hl:free.length=n)(h2:∀x∈frm,0≤x)(h3:∀x∈tu,0≤x){D:Rat}(hB:∀k,IF 26 (D*B.getD k 0)):∀k,k≤frm.length→k≤tu.length→∀a c,IF (26+4*k) (D*at2 (gR free frm tu B n k) a c)
 |0,_,_,a,c=>by rw[gR,aIx,Rat.mul_zero];exact IF.zero _
 |k+1,k2,k3,a,c=>by
  obtain⟨u,eu⟩:=Int.eq_ofNat_of_zero_le (h2 _ (bH (l:=frm) (k:=k) (by omega)));obtain⟨v,ev⟩:=Int.eq_ofNat_of_zero_le (h3 _ (bH (l:=tu) (k:=k) (by omega)));rw[gR,eu,ev,zA hl (oB hl k)];exact(aLq (aIy hl h2 h3 hB k (by omega) (by omega)) ((hB k).mono (by omega)) _ u v a c).mono (by omega)
theorem aDf{n:NetD}(h:VNet n):∀x∈bLQ n,FitR 1 x:=fun x hx=>by
 obtain⟨b,hb,rfl⟩:=List.mem_map.1 hx;exact aAw (h.br b hb).2.2.2
theorem aPo{n:NetD}(h:VNet n):Whole (aF n).length 130 (at2 (dQ (fwM n) (aF n).length)) (fun _=>(cO (bLQ n):Rat)):=by
 have hb:=h.hb;have hlen:(bLQ n).length=n.branches.length:=by simp[bLQ]
 have hD:IF 26 ((cO (bLQ n):Nat):Rat):=by
  have h1:=oL (bLQ n) (aDf h);exact IF.mono ⟨_,rfl,h1⟩ (by omega)
 refine⟨fun i _ e=>?_,fun i _=>hD.mono (by omega),fun i j hi=>?_⟩
 ·have:=oM (bLQ n);have e:cO (bLQ n)=0:=by exact_mod_cast e
  omega
 ·rw[rD (jX n) hi];split
  ·exact(aIy rfl (fun x hx=>(aAx h x hx).1) (fun x hx=>(aAy h x hx).1) (fun k=>(aFf _ (aDf h) hlen k).mono (by omega)) _ (by simp[bB]) (by simp[toL]) i j).mono (by omega)
  ·split
   ·rw[Rat.mul_one];exact hD.mono (by omega)
   ·rw[Rat.mul_zero];exact IF.zero _
theorem aPp{n:NetD}(h:VNet n)(i j:Nat)(hi:i<(aF n).length):FitR 4000 (at2 (yJ (fwM n) (aF n).length) i j):=by
 have hf:=iW (aC n) (aC n).length;have hl:=iK h;obtain⟨π,δ,ε,hI⟩:=(gM (fZ (jX n)) (aF n).length).inv;rw[aKm];refine(aKj hI (aPo h) i _ hi).mono ?_;have hfl:(aF n).length≤24:=by unfold aF;omega
 have:=Nat.mul_le_mul hfl (show 130+(aF n).length+1≤155 by omega);omega
end
section
open Go.RowKit
theorem aDg{w:World}{ops:Array Oper}{rest:List Oper}{o:Oper}{a:Act}{Q:Exit→Act→World→Prop}(hgd:o.guard=none)(s x:Operand) (ho:o.op= .call {callee:= .builtin .append,args:=#[s,x],argTypes:=#[bW,bW]})(base:Nat)(v:Value)(qs:List Rat)(hsv:a.eval s=v)(hr:RRow w base v qs)
  (A:Option Addr)(m c:Nat)(hx:a.eval x= .slice A m c)(rs:List Rat)(hs:RV w A m rs)(hl:qs.length+m≤1000000)(hbase:base≤w.heap.size)
  (h:∀v' w',Apd w base v (qs++rs) v' w'→wpList Tryz.prog ops Q rest (a.put o.dst v') w'):wpList Tryz.prog ops Q (o::rest) a w:=by
 refine wpList_plain hgd fun K hK=>?_;obtain⟨i,hi,hz0,hz1,hz2⟩:=info_parts lD;obtain⟨news,h1,h2⟩:=hs;obtain⟨v',w',hrun,hap⟩:=fR (P:=Tryz.prog) w base bW o.type i _ 64 Tryz.underlying111 hi hz0 hz1 hz2 rfl v qs hr w.heap.size A m c news rs h1 h2 (by unfold maxLen;omega) (by omega) hbase;unfold Oper.wp execOp;simp only[ho,resolve,invoke,builtin,Sem.run_bind,Sem.run_pure,Result.andThen_ok,List.map_toArray,List.map_cons,List.map_nil,hsv,hx,hrun];exact hK _ _ (h v' w' hap)
theorem aGo(w:World):RRow (w.alloc (.cells #[] aM)) w.heap.size (.slice (some ⟨w.heap.size,0,none⟩) 0 0) []:=by
 refine⟨⟨[],⟨by simp,.inr ⟨w.heap.size,0,0,_,by simp,Nat.le_refl _,Blk.new _ _ _,by simp,by unfold maxLen;omega,by simp,by simp⟩⟩,rfl⟩,fun g o n hg e=>?_⟩;have hg:w.heap.size=g:=by simpa[Value.ownBlock]using hg
 subst hg;rw[(Blk.new w aM #[]).cell]at e;simp at e
theorem aGp(l:List Rat)(n:Nat)(A:Option Addr)(c:Nat)(w:World)(hr:RV w A n l)(hn:n≤1000): Calls Tryz.prog 142 #[.slice A n c] w (mQ w l):=by
 have q1:∀(w:World) (a:Option Addr) (n c n' c':Nat),(binOp .eql bW (.slice a n c) (.slice none n' c')).run Tryz.prog w= .ok (.bool a.isNone) w:=fun w a n c n' c'=>Lib.run_eql_slice_nil w _ _ a n c n' c' Tryz.underlying111;unfold bW at q1;cases A with
 |none=>
  have h0:l=[]:=by
   obtain⟨xs,h1,h2⟩:=hr;have hl:=h2.len;by_cases h:0<n
   ·obtain⟨_,_,e,_⟩:=h1.2 (by omega);cases e
   ·have:=h1.1;exact List.eq_nil_of_length_eq_zero (by omega)
  have hln:=hr.len;subst h0;clear hr;go_enter Tryz.func142,Tryz.ntmps142;go_wp2;go_ret;exact⟨_,rfl,RRow.nil _ _,Below.refl _ _⟩
 |some ad=>
  have HB0:=aH (aD w (.cells #[] aM));have HR:=aH (hr.below HB0.out);have HN:=aH (aGo w);have hln:=hr.len;clear hr;unfold aM at*;go_enter Tryz.func142,Tryz.ntmps142;go_wp2_with(at_builtin;refine aDg rfl _ _ rfl w.heap.size _ [] rfl HN.out (some ad) n c rfl l HR.out (by rw[List.length_nil];omega) HB0.out.size ?_);intro v' w3 hap;have HR3:=aH hap.row;have HB3:=aH (HB0.out.trans (hap.below HN.out HB0.out.size));clear hap;obtain⟨A5,l5,c5,rfl⟩:=dB HR3.out.val;go_wp2;go_ret;exact⟨_,rfl,HR3.out,HB3.out⟩
section
variable {w:World} {base g:Nat} {rs:Nat→Value} {is:Nat→List Int} {qs:Nat→Value} {ts:Nat→List Rat} {iv:Value}
theorem MS.cI(h:MS w base g rs is qs ts iv){j:Nat}(hj:j<5):∃A c,w.cell? ⟨g,ixM j,none⟩=some (.slice A (is j).length c)∧Reads w w.heap.size 1 A (is j).length ((is j).map I):=by
 obtain⟨A,c,e,hr⟩:=h.ints hj;exact⟨A,c,by rw[←e];exact h.cellI hj,hr⟩
end
theorem buses_fw(base g:Nat)(rs:Nat→Value)(is:Nat→List Int)(qs:Nat→Value)(ts:Nat→List Rat)(iv:Value)(w:World)(h:MS w base g rs is qs ts iv)(_hl:(is 1).length≤1000): Calls Tryz.prog 92 #[.pointer (some ⟨g,0,none⟩)] w fun e w'=>e= .returned (I ((is 1).length:Nat))∧w'=w:=by
 obtain⟨A,c,c1,-⟩:=h.cI (j:=1) (by decide);change w.cell? ⟨g,1,none⟩=_ at c1;clear h;generalize(is 1).length=n1 at*;go_enter Tryz.func92,Tryz.ntmps92;go_wp2;go_ret;exact⟨rfl,rfl⟩
def cV(free:List Int)(r:List Rat):List Rat:=free.map fun f=>r.getD f.toNat 0
def thK(nb:Nat)(free:List Int)(inv:MQ)(x:List Rat):Nat→List Rat
 |0=>List.replicate nb 0
 |k+1=>(thK nb free inv x k).set (free.getD k 0).toNat (xB (inv.getD k []) x)
theorem qK(nb:Nat)(free:List Int)(inv:MQ)(x:List Rat):∀k,(thK nb free inv x k).length=nb
 |0=>by simp[thK]
 |k+1=>by rw[thK,List.length_set];exact qK nb free inv x k
def thQ(nb:Nat)(free:List Int)(inv:MQ)(r:List Rat):List Rat:=thK nb free inv (cV free r) free.length
theorem aLr{free:List Int}{k:Nat}(r:List Rat)(hk:k<free.length):cV (free.take (k+1)) r=cV (free.take k) r++[r.getD (free.getD k 0).toNat 0]:=by
 unfold cV;rw[List.take_add_one,gE hk,List.map_append,gD (l:=free),gE hk];rfl
theorem aIz(base g:Nat)(rs:Nat→Value)(is:Nat→List Int)(qs:Nat→Value)(ts:Nat→List Rat)(iv:Value)(inv:MQ)(vs:List Value)(r:List Rat)(A:Option Addr)(c nb nf:Nat)(w:World)(h:MS w base g rs is qs ts iv)(hL:LM w base iv vs inv) (hr:RV w A nb r)(hnb:(is 1).length=nb)(hb:nb≤1000)(hnf:(is 4).length=nf)(hf4:nf≤1000)(hin:Rect inv nf nf)(hfr:∀x∈is 4,0≤x∧x<nb){N:Nat}(hN:N≤40000000)(hf:∀k,k<nf→DotFit N (inv.getD k []) (cV (is 4) r)):
  Calls Tryz.prog 135 #[.pointer (some ⟨g,0,none⟩),.slice A nb c] w (mQ w (thQ nb (is 4) inv r)):=by
 have hmk:=xC nf (by omega);have HP:=aH (Part.start w nf);have HS:=aH h;have HL:=aH hL;have HRV:=aH hr;have HF:=aH hf;have HIN:=aH hin;have HFR:=aH hfr;obtain⟨A4,k4,e4,hr4⟩:=h.ints (j:=4) (by decide);rw[hnf]at hr4 e4;have HR4:=aH hr4;have HE4:=aH e4;have hbg:=h.ge;have c4:w.cell? ⟨g,6,none⟩=some (.slice A4 nf k4):=by rw[←e4];exact h.cellI (j:=4) (by decide)
 clear e4;clear h hL hr hf hin hfr hr4;unfold bW at hmk;go_enter Tryz.func135,Tryz.ntmps135;go_upto_region 2 with(fail)
 clear hmk;have HC4:=aH ((aA c4 HP.out.below));have c4:=HC4.out;go_wp2;clear c4 HC4;go_loopg [22] (nf-0) (fun q v wr=>∃k:Nat,q=nf-k∧v=I k∧k≤nf∧Hid (Part w w.heap.size nf (cV ((is 4).take k) r) wr));case atStart=>exact⟨0,rfl,rfl,by omega,HP⟩
 case round=>
  clear HP;obtain⟨k,rfl,rfl,hk,HP⟩:=hrel;obtain⟨wa,rfl⟩:=wE wr;by_cases hlt:k<nf
  ·obtain⟨b4,o4,rfl,_,h4⟩:=(HR4.out.below HP.out.below).int_at hlt;obtain⟨hj0,hj1⟩:=HFR.out _ (bH (l:=is 4) (k:=k) (by omega));have HX:=aH (aLr r (show k<(is 4).length by omega));obtain⟨jf,hjf⟩:∃jf:Nat,(is 4).getD k 0=jf:=Int.eq_ofNat_of_zero_le hj0;rw[hjf]at hj1 h4 HX;rw[Int.toNat_natCast]at HX;have hjn:jf<nb:=by omega
   have hrl:=HRV.out.len;obtain⟨q,hq⟩:∃q,r[jf]?=some q:=⟨_,gE (by omega)⟩;rw[gD,hq,Option.getD_some]at HX;obtain⟨br,or,n0,B1,l1,d1,B2,l2,d2,e,_,hC,hrt⟩:=(HRV.out.below HP.out.below).form hjn q hq;subst e;have u0:=hC.c0;have u1:=hC.c1;have u2:=hC.c2;have u3:=hC.c3;obtain⟨o0,o1,o2,o3,hC2⟩:=HP.out.cells hlt;have z0:=hC2.c0;have z1:=hC2.c1;have z2:=hC2.c2;have z3:=hC2.c3;have y0:=HP.out.frozen (k*4);have y1:=HP.out.frozen (k*4+1);have y2:=HP.out.frozen (k*4+2);have y3:=HP.out.frozen (k*4+3);have hpl:(cV ((is 4).take k) r).length=k:=by unfold cV;rw[List.length_map,List.length_take];omega
   have hp:=HP.out.put (by omega) lR hrt;rw[hpl,←HX.out]at hp;have HN:=aH hp;unfold put4 at HN;clear hC hC2 hrt hp hq hjf hj0 hj1 hpl HX HP hrl;go_wp2;go_roundg (nf-(k+1));case measure=>omega
   case rel=>exact⟨k+1,rfl,by go_num,by omega,HN⟩
  ·have hkn:k=nf:=by omega
   subst hkn;have HXR:=aH (HP.out.row (by unfold cV;rw[List.length_map,List.length_take];omega) lR (by unfold maxLen;omega));have HB:=aH HP.out.below;rw[List.take_of_length_le (by omega)]at HXR;clear HP;have HSA:=aH (HS.out.call HB.out);have HC:=aH (buses_fw base g rs is qs ts iv wa HSA.out (by omega));go_wp2_with fail;refine HC.out.mono ?_;rintro e w1 ⟨rfl,rfl⟩;clear HC;obtain⟨wa,rfl⟩:∃z:World,z=w1:=⟨_,rfl⟩;rw[hnb];have HZ:=aH (lK nb wa (by omega));go_wp2_with fail;refine HZ.out.mono ?_;rintro e w2 ⟨v8,rfl,hr8,hb⟩;clear HZ;obtain⟨A8,c8,rfl⟩:=hr8.val;rw[List.length_replicate]at hr8⊢;obtain⟨b1,hb1⟩:∃q,q=wa.heap.size:=⟨_,rfl⟩;have hwb:=HB.out.size;have HR8:=aH (show RRow w2 wa.heap.size (.slice A8 nb c8) (thK nb (is 4) inv (cV (is 4) r) 0)from hr8);have HB2:=aH hb;skip;have c5:w2.cell? ⟨g,6,none⟩=some (.slice A4 k k4):=by rw[←HE4.out];exact(HSA.out.call hb).cellI (j:=4) (by decide)
   clear hr8 hb hb1 b1;go_wp2;clear c5;go_loopg [43] (k-0) (fun q v wr=>∃j:Nat,q=k-j∧v=I j∧j≤k∧Hid (RRow wr wa.heap.size (.slice A8 nb c8) (thK nb (is 4) inv (cV (is 4) r) j))∧Hid (Below wa.heap.size wa wr));case atStart=>exact⟨0,rfl,rfl,by omega,HR8,HB2⟩
   case round=>
    clear HR8 HB2;obtain⟨j,rfl,rfl,hj,HR8,HB2⟩:=hrel;obtain⟨wb,rfl⟩:=wE wr;have HBW:=aH (HB.out.trans (HB2.out.mono hwb));by_cases hlt:j<k
    ·obtain⟨b4,o4,rfl,_,h4⟩:=(HR4.out.below HBW.out).int_at hlt;obtain⟨hj0,hj1⟩:=HFR.out _ (bH (l:=is 4) (k:=j) (by omega));have HX:=aH (show thK nb (is 4) inv (cV (is 4) r) (j+1)=(thK nb (is 4) inv (cV (is 4) r) j).set ((is 4).getD j 0).toNat (xB (inv.getD j []) (cV (is 4) r))from rfl);obtain⟨jf,hjf⟩:∃jf:Nat,(is 4).getD j 0=jf:=Int.eq_ofNat_of_zero_le hj0;rw[hjf]at hj1 h4 HX;rw[Int.toNat_natCast]at HX;have hjn:jf<nb:=by omega
     obtain⟨gi,oi,ci,B,cB,e,_,_,hu,hc,_,hrow⟩:=(HL.out.call HBW.out).at_ (i:=j) (by rw[HIN.out.1];exact hlt);have c7:wb.cell? ⟨g,7,none⟩=some iv:=by rw[(HS.out.call HBW.out).blk.cell];rfl
     rw[e]at c7;rw[HIN.out.1]at c7;rw[HIN.out.rowlen hlt]at hc hrow;have HC:=aH (aWs (inv.getD j []) (cV (is 4) r) k B (some ⟨w.heap.size,0,none⟩) cB k k wb hrow.rv (HXR.out.call HB2.out).rv lR (by omega) hN (HF.out j hlt));obtain⟨b8,o8,c9,n8,B1,l1,d1,B2,l2,d2,e8,hE,hb8,hbl8⟩:=HR8.out.el (qK _ _ _ _ _) hjn;injection e8 with e8 _ e9;subst e8 e9;have HE8:=aH hE;clear e hu hrow hE hjf hj0 hj1;go_wp2_with fail;refine HC.out.mono ?_;rintro e W3 ⟨vq,rfl,hv,hb⟩;clear HC;obtain⟨tb,T1,t1,u1,T2,t2,u2,rfl⟩:=hv.bools;have hEl:=HE8.out.below hb;obtain⟨hput,hkw,hbe⟩:=(HR8.out.call hb).putEl (k:=jf) hjn hv;rw[←HX.out]at hput;have HN:=aH hput;have HBN:=aH (cD (o:=o8+jf*4) (HB2.out.trans (hb.mono HB2.out.size)) hb8 (.bool tb) (.slice T1 t1 u1) (.bool false) (.slice T2 t2 u2));have z0:=hEl.c0;have z1:=hEl.c1;have z2:=hEl.c2;have z3:=hEl.c3;have y0:=hEl.f0;have y1:=hEl.f1;have y2:=hEl.f2;have y3:=hEl.f3;unfold put4 at HN HBN;clear hEl hput hkw hbe hv hb HE8 HX HR8 HB2 HBW h4 hc c7;go_wp2;go_roundg (k-(j+1));case measure=>omega
     case rel=>exact⟨j+1,rfl,by go_num,by omega,HN,HBN⟩
    ·have hjk:j=k:=by omega
     subst hjk;have HEND:=aH (show mQ w (thQ nb (is 4) inv r) (.returned (.slice A8 nb c8)) wb from⟨_,rfl,by
      have h:=HR8.out.less hwb;unfold thQ;rw[hnf];exact h,HBW.out⟩)
     clear HR8 HB2 HBW;go_wp2;go_ret;exact HEND.out
def FitL(N:Nat)(l:List Rat):Prop:=∀i,FitR N (l.getD i 0)
theorem FitL.mono{N M:Nat}{l:List Rat}(h:FitL N l)(hm:N≤M):FitL M l:=fun i=>(h i).mono hm
theorem FitL.set{N:Nat}{l:List Rat}(h:FitL N l)(j:Nat){x:Rat}(hx:FitR N x):FitL N (l.set j x):=fun i=>by
 by_cases e:i<l.length
 ·by_cases e2:j=i
  ·subst e2;rw[gD,List.getElem?_set_self e];exact hx
  ·rw[gD,List.getElem?_set_ne e2,←gD];exact h i
 ·rw[gD,List.getElem?_eq_none (by rw[List.length_set];omega)];have:=h i;rw[gD,List.getElem?_eq_none (by omega)]at this;exact this
def shQ(u v:Nat)(c:Rat)(l:List Rat):List Rat:=(l.set u (l.getD u 0-c)).set v ((l.set u (l.getD u 0-c)).getD v 0+c)
def shK(frm tu:List Int)(C:List Rat)(P:List Rat):Nat→List Rat
 |0=>P
 |k+1=>shQ (frm.getD k 0).toNat (tu.getD k 0).toNat (C.getD k 0) (shK frm tu C P k)
theorem aVf(u v:Nat)(c:Rat)(l:List Rat):(shQ u v c l).length=l.length:=by simp[shQ]
theorem aBc(frm tu:List Int)(C P:List Rat):∀k,(shK frm tu C P k).length=P.length
 |0=>rfl
 |k+1=>by rw[shK,aVf];exact aBc frm tu C P k
theorem aVg{N:Nat}{l:List Rat}(h:FitL N l)(u v:Nat){c:Rat}(hc:FitR 2 c):FitL (N+6) (shQ u v c l):=by
 have h1:FitL (N+3) (l.set u (l.getD u 0-c)):=(h.mono (by omega)).set u (fK (h u) hc);exact(h1.mono (by omega)).set v ((eK (h1 v) hc).mono (by omega))
theorem aBd{N:Nat}{frm tu:List Int}{C P:List Rat}(hC:FitL 2 C)(hP:FitL N P):∀k,FitL (N+6*k) (shK frm tu C P k)
 |0=>hP
 |k+1=>(aVg (aBd hC hP k) _ _ (hC k)).mono (by omega)
theorem aGq(base g:Nat)(rs:Nat→Value)(is:Nat→List Int)(qs:Nat→Value)(ts:Nat→List Rat)(iv:Value)(inv:MQ)(vs:List Value)(r:List Rat)(A:Option Addr)(c nb nf ne:Nat)(w:World)(h:MS w base g rs is qs ts iv)(hL:LM w base iv vs inv) (hr:RV w A nb r)(hnb:(is 1).length=nb)(hb:nb≤1000)(hnf:(is 4).length=nf)(hf4:nf≤1000)(hin:Rect inv nf nf)(hfr:∀x∈is 4,0≤x∧x<nb){N:Nat}(hN:N≤40000000)
  (h2:(is 2).length=ne)(h3:(is 3).length=ne)(hc1:(ts 1).length=ne)(hne:ne≤1000)(hu2:∀x∈is 2,0≤x∧x<nb)(hu3:∀x∈is 3,0≤x∧x<nb)(hC:FitL 2 (ts 1))(hP:FitL 1000 r)
  (hf:∀k,k<nf→DotFit N (inv.getD k []) (cV (is 4) (shK (is 2) (is 3) (ts 1) r ne))):
  Calls Tryz.prog 89 #[.pointer (some ⟨g,0,none⟩),.slice A nb c] w (mQ w (thQ nb (is 4) inv (shK (is 2) (is 3) (ts 1) r ne))):=by
 have HS:=aH h;have HL:=aH hL;have HRV:=aH hr;have HF:=aH hf;have HIN:=aH hin;have HFR:=aH hfr;have HFC:=aH hC;have HFP:=aH hP;have HU2:=aH hu2;have HU3:=aH hu3;have hrl:=hr.len;have HC:=aH (aGp r nb A c w hr hb);have N2:=aH h2;have N3:=aH h3;have N1:=aH hc1;have NB:=aH hnb;have NF:=aH hnf;clear h hL hr hf hin hfr hC hP hu2 hu3 h2 h3 hc1 hnb hnf;go_enter Tryz.func89,Tryz.ntmps89;go_wp2_with fail;refine HC.out.mono ?_;rintro e w1 ⟨v5,rfl,hr5,hb⟩;clear HC;obtain⟨A5,c5,rfl⟩:=hr5.val;rw[hrl]at hr5⊢;have HR:=aH (show RRow w1 w.heap.size (.slice A5 nb c5) (shK (is 2) (is 3) (ts 1) r 0)from hr5);have HB:=aH hb;clear hr5;obtain⟨Aq,cq,eq1⟩:=HS.out.qval (j:=1) (by decide);rw[N1.out]at eq1;have HEQ:=aH eq1;have cc:w1.cell? ⟨g,5,none⟩=some (.slice Aq ne cq):=by rw[←eq1];exact(HS.out.call hb).cellQ (j:=1) (by decide)
 clear eq1 hb;go_wp2;clear cc;go_loopg [15] (ne-0) (fun q v wr=>∃k:Nat,q=ne-k∧v=I k∧k≤ne∧Hid (RRow wr w.heap.size (.slice A5 nb c5) (shK (is 2) (is 3) (ts 1) r k))∧Hid (Below w.heap.size w wr));case atStart=>exact⟨0,rfl,rfl,by omega,HR,HB⟩
 case round=>
  clear HR HB;obtain⟨k,rfl,rfl,hk,HR,HB⟩:=hrel;obtain⟨wa,rfl⟩:=wE wr;by_cases hlt:k<ne
  ·have hS:=HS.out.call HB.out;obtain⟨q,hq⟩:∃q,(ts 1)[k]?=some q:=⟨_,gE (by rw[N1.out];exact hlt)⟩;have hqg:(ts 1).getD k 0=q:=by rw[gD,hq];rfl
   have HQF:=aH (show FitR 2 q from hqg▸HFC.out k);obtain⟨bq,oq,kq,n0,Q1,l1,j1,Q2,l2,j2,eq0,_,hCq,hrtq⟩:=hS.ratAt (j:=1) (by decide) hq;have eq9:=HEQ.out.symm.trans eq0;replace eq9:=slI eq9;obtain⟨eq9,eq8⟩:=eq9;subst eq9;clear eq0 eq8;have HX:=aH (show shK (is 2) (is 3) (ts 1) r (k+1)=shQ ((is 2).getD k 0).toNat ((is 3).getD k 0).toNat q (shK (is 2) (is 3) (ts 1) r k) by rw[shK,hqg]);have HFK:=aH ((aBd (frm:=is 2) (tu:=is 3) HFC.out HFP.out k).mono (show 1000+6*k≤10000 by omega));have HLN:=aH ((aBc (is 2) (is 3) (ts 1) r k).trans hrl);obtain⟨u0,u1⟩:=HU2.out _ (bH (l:=is 2) (k:=k) (by rw[N2.out];exact hlt));obtain⟨v0,v1⟩:=HU3.out _ (bH (l:=is 3) (k:=k) (by rw[N3.out];exact hlt));obtain⟨u,hu⟩:∃u:Nat,(is 2).getD k 0=u:=Int.eq_ofNat_of_zero_le u0;obtain⟨v,hv⟩:∃v:Nat,(is 3).getD k 0=v:=Int.eq_ofNat_of_zero_le v0;rw[hu,hv,Int.toNat_natCast,Int.toNat_natCast]at HX;rw[hu]at u0 u1;rw[hv]at v0 v1;have hun:u<nb:=by omega
   have hvn:v<nb:=by omega
   obtain⟨b2,o2,k2,e2,_,h2c⟩:=hS.intAt (j:=2) (by decide) (k:=k) (by rw[N2.out];exact hlt);obtain⟨b3,o3,k3,e3,_,h3c⟩:=hS.intAt (j:=3) (by decide) (k:=k) (by rw[N3.out];exact hlt);rw[N2.out]at e2;rw[N3.out]at e3;rw[hu]at h2c;rw[hv]at h3c;have HV3:=aH hv;have HE2:=aH e2;have HE3:=aH e3;have HC2:=aH h2c;have HC3:=aH h3c;generalize shK (is 2) (is 3) (ts 1) r k=M at*;obtain⟨b5,o5,c6,_,_,_,_,_,_,_,e5,_,hb5,_⟩:=HR.out.el HLN.out hun;replace e5:=slI e5;obtain⟨e5,e6⟩:=e5;subst e5 e6;have HB5:=aH hb5;clear hb5;have x0:=hCq.c0;have x1:=hCq.c1;have x2:=hCq.c2;have x3:=hCq.c3;have HRB:=aH hrtq;clear hq hqg hCq hrtq e2 e3 h2c h3c hS u0 u1 v0 v1 hu hv;go_upto_region 5 with(fail)
   clear x0 x1 x2 x3;have hb:=aD wa (Obj.cells #[.bool n0,.slice Q1 l1 j1,.bool false,.slice Q2 l2 j2] 122);have HBX:=aH (Blk.new wa 122 #[.bool n0,.slice Q1 l1 j1,.bool false,.slice Q2 l2 j2]);have HNX:=aH (show b5<wa.heap.size from(HR.out.lt (g:=b5) rfl).2);replace HR:=aH (HR.out.call hb);replace HB:=bT HB hb;replace HRB:=aH (HRB.out.ext hb);replace HC2:=aH (aA HC2.out hb);replace HC3:=aH (aA HC3.out hb);clear hb;generalize wa.alloc (Obj.cells #[.bool n0,.slice Q1 l1 j1,.bool false,.slice Q2 l2 j2] 122)=W1 at*;generalize wa.heap.size=gx at*;skip;have hb:=aT W1;replace HBX:=bL HBX hb;replace HR:=aH (HR.out.call hb);replace HB:=bT HB hb;replace HRB:=aH (HRB.out.ext hb);replace HC2:=aH (aA HC2.out hb);replace HC3:=aH (aA HC3.out hb);clear hb;have CM:=aH (show W1.drew.cell? ⟨g,2,none⟩=some (.slice (some ⟨b2,o2,none⟩) ne k2) by rw[←HE2.out];exact(HS.out.call HB.out).cellI (j:=2) (by decide));obtain⟨b6,o6,n5,F1,f1,g1,F2,f2,g2,e7,_,hC6,hrt⟩:=HR.out.rv.form hun (M.getD u 0) (by rw[gD,gE (by rw[HLN.out];exact hun)];rfl);replace e7:=adI e7;obtain⟨e7,e8⟩:=e7;subst e7 e8;obtain⟨_,hfb⟩:=HR.out.blk (g:=b5) rfl;have HEL:=aH (show El W1.drew b5 (o5+u*4) (.bool n5) (.slice F1 f1 g1) (.bool false) (.slice F2 f2 g2)from⟨hC6.c0,hC6.c1,hC6.c2,hC6.c3,hfb.frozen _,hfb.frozen _,hfb.frozen _,hfb.frozen _⟩);have HRE:=aH (show Rt W1.drew _ _ from hrt);clear hC6 hrt hfb;refine aJ (fun w'=>w'.cell? ⟨g,2,none⟩=some (.slice (some ⟨b2,o2,none⟩) ne k2)∧w'.cell? ⟨b2,o2+k,none⟩=some (I u)∧w'.cell? ⟨b5,o5+u*4,none⟩=some (.bool n5)∧w'.cell? ⟨b5,o5+u*4+1,none⟩=some (.slice F1 f1 g1)∧w'.cell? ⟨b5,o5+u*4+2,none⟩=some (.bool false)∧w'.cell? ⟨b5,o5+u*4+3,none⟩=some (.slice F2 f2 g2)∧w'.cell? ⟨gx,0,none⟩=some (.bool n0)∧w'.cell? ⟨gx,1,none⟩=some (.slice Q1 l1 j1)∧w'.cell? ⟨gx,2,none⟩=some (.bool false)∧w'.cell? ⟨gx,3,none⟩=some (.slice Q2 l2 j2)) 21 (by kernel_rfl) ?_;generalize W1.drew=X1 at*;skip;refine tkS ⟨CM.out,HC2.out,HEL.out.c0,HEL.out.c1,HEL.out.c2,HEL.out.c3,HBX.out.cell 0,HBX.out.cell 1,HBX.out.cell 2,HBX.out.cell 3⟩ fun hSS=>?_;refine aZ 0 (.slice (some ⟨b5,o5,none⟩) nb c5) rfl hSS ?_;refine aZ 1 (.pointer (some ⟨g,0,none⟩)) rfl hSS ?_;refine aZ 2 (.pointer (some ⟨g,0,none⟩)) rfl hSS ?_;refine aZ 3 (.pointer (some ⟨g,2,none⟩)) rfl hSS ?_;refine aZ 4 (.slice (some ⟨b2,o2,none⟩) ne k2) rfl hSS ?_;refine aZ 5 (I k) rfl hSS ?_;refine aZ 6 (.pointer (some ⟨b2,o2+k,none⟩)) rfl hSS ?_;refine aZ 7 (I u) rfl hSS ?_;refine aZ 8 (.slice (some ⟨b5,o5,none⟩) nb c5) rfl hSS ?_;refine aZ 9 (.pointer (some ⟨g,0,none⟩)) rfl hSS ?_;refine aZ 10 (.pointer (some ⟨g,0,none⟩)) rfl hSS ?_;refine aZ 11 (.pointer (some ⟨g,2,none⟩)) rfl hSS ?_;refine aZ 12 (.slice (some ⟨b2,o2,none⟩) ne k2) rfl hSS ?_;refine aZ 13 (I k) rfl hSS ?_;refine aZ 14 (.pointer (some ⟨b2,o2+k,none⟩)) rfl hSS ?_;refine aZ 15 (I u) rfl hSS ?_;refine aZ 16 (.pointer (some ⟨b5,o5+u*4,none⟩)) rfl hSS ?_;refine aZ 17 (.agg #[.bool n5,.slice F1 f1 g1,.bool false,.slice F2 f2 g2]) rfl hSS ?_;refine aZ 18 (.agg #[.bool n0,.slice Q1 l1 j1,.bool false,.slice Q2 l2 j2]) rfl hSS ?_;refine on1 19 fun K hK=>?_;go_simp;go_at_call 111;refine(jO _ _ _ _ X1 HRE.out HRB.out (N:=20000) (by decide) ((HFK.out u).mono (by decide)) (HQF.out.mono (by decide))).mono ?_;rintro e Y1 ⟨vv,rfl,hvv,hb⟩;replace HBX:=bL HBX hb;replace CM:=aH (aA CM.out hb);replace HEL:=aH (HEL.out.below hb);replace HR:=aH (HR.out.call hb);replace HB:=bT HB hb;replace HRB:=aH (HRB.out.ext hb);replace HC2:=aH (aA HC2.out hb);replace HC3:=aH (aA HC3.out hb);clear HRE hb;refine hK.out _ _ (fun _=>⟨CM.out,HC2.out,HEL.out.c0,HEL.out.c1,HEL.out.c2,HEL.out.c3,HBX.out.cell 0,HBX.out.cell 1,HBX.out.cell 2,HBX.out.cell 3⟩) ?_;clear hK K;refine aZ 20 (.pointer (some ⟨b5,o5+u*4,none⟩)) rfl ⟨CM.out,HC2.out,HEL.out.c0,HEL.out.c1,HEL.out.c2,HEL.out.c3,HBX.out.cell 0,HBX.out.cell 1,HBX.out.cell 2,HBX.out.cell 3⟩ ?_;obtain⟨tb,T1,t1,w1,T2,t2,w2,rfl⟩:=hvv.bools;have hr9:=HR.out;obtain⟨hput,hkw,_⟩:=hr9.putEl (k:=u) hun hvv;have HR2:=aH (show RRow (put4 Y1 b5 (o5+u*4) (.bool tb) (.slice T1 t1 w1) (.bool false) (.slice T2 t2 w2)) w.heap.size (.slice (some ⟨b5,o5,none⟩) nb c5) (M.set u (M.getD u 0-q))from hput);have HB2:=aH (cD (o:=o5+u*4) HB.out HB5.out (.bool tb) (.slice T1 t1 w1) (.bool false) (.slice T2 t2 w2));have hnq:gx≠b5:=fun e=>Nat.lt_irrefl _ (e▸HNX.out);have HBX2:=aH (show Blk (put4 Y1 b5 (o5+u*4) (.bool tb) (.slice T1 t1 w1) (.bool false) (.slice T2 t2 w2)) gx 122 #[.bool n0,.slice Q1 l1 j1,.bool false,.slice Q2 l2 j2]from(cR Y1 _ _ _ _ _ hnq).trans HBX.out);have HRB2:=aH (HRB.out.kw hkw);have HFK2:=aH (show FitL 10003 (M.set u (M.getD u 0-q))from(HFK.out.mono (by omega)).set u ((fK (HFK.out u) HQF.out).mono (by omega)));have HLN2:=aH (show(M.set u (M.getD u 0-q)).length=nb by rw[List.length_set];exact HLN.out);have z0:=HEL.out.c0;have y0:=HEL.out.f0;have z1:=HEL.out.c1;have y1:=HEL.out.f1;have z2:=HEL.out.c2;have y2:=HEL.out.f2;have z3:=HEL.out.c3;have y3:=HEL.out.f3;skip;clear HR HB HBX HRB HFK HLN hput hkw hvv hnq HEL hr9 CM;refine on1 21 fun K hK=>?_;go_simp;clear z0 z1 z2 z3 y0 y1 y2 y3;rw[iS];have hC3:(put4 Y1 b5 (o5+u*4) (.bool tb) (.slice T1 t1 w1) (.bool false) (.slice T2 t2 w2)).cell? ⟨b3,o3+k,none⟩=some (I v):=by
    obtain⟨b9,o9,k9,e9,_,h9⟩:=(HS.out.call HB2.out).intAt (j:=3) (by decide) (k:=k) (by rw[N3.out];exact hlt);have e8:=HE3.out.symm.trans e9;obtain⟨e8,e7⟩:=adI (slI e8).1;subst e8 e7;rw[HV3.out]at h9;exact h9
   replace HC3:=aH hC3;clear hC3;clear HC2;generalize(put4 Y1 b5 (o5+u*4) (.bool tb) (.slice T1 t1 w1) (.bool false) (.slice T2 t2 w2))=Z1 at*;generalize hM:(M.set u (M.getD u 0-q))=M2 at*;have HM1:=aH hM;clear hM;refine hK.out _ _ (fun h=>absurd h (by decide)) ?_;clear hK K;refine aG (by kernel_rfl) ?_ _;have HR:=HR2;have HB:=HB2;have HBX:=HBX2;have HRB:=HRB2;have HFK:=HFK2;have HLN:=HLN2;clear HR2 HB2 HBX2 HRB2 HFK2 HLN2;go_upto_region 6 with(fail)
   have hb:=aT Z1;replace HBX:=bL HBX hb;replace HR:=aH (HR.out.call hb);replace HB:=bT HB hb;replace HRB:=aH (HRB.out.ext hb);skip;replace HC3:=aH (aA HC3.out hb);clear hb;have CM:=aH (show Z1.drew.cell? ⟨g,3,none⟩=some (.slice (some ⟨b3,o3,none⟩) ne k3) by rw[←HE3.out];exact(HS.out.call HB.out).cellI (j:=3) (by decide));obtain⟨b6,o6,n5,F1,f1,g1,F2,f2,g2,e7,_,hC6,hrt⟩:=HR.out.rv.form hvn (M2.getD v 0) (by rw[gD,gE (by rw[HLN.out];exact hvn)];rfl);replace e7:=adI e7;obtain⟨e7,e8⟩:=e7;subst e7 e8;obtain⟨_,hfb⟩:=HR.out.blk (g:=b5) rfl;have HEL:=aH (show El Z1.drew b5 (o5+v*4) (.bool n5) (.slice F1 f1 g1) (.bool false) (.slice F2 f2 g2)from⟨hC6.c0,hC6.c1,hC6.c2,hC6.c3,hfb.frozen _,hfb.frozen _,hfb.frozen _,hfb.frozen _⟩);have HRE:=aH (show Rt Z1.drew _ _ from hrt);clear hC6 hrt hfb;refine aJ (fun w'=>w'.cell? ⟨g,3,none⟩=some (.slice (some ⟨b3,o3,none⟩) ne k3)∧w'.cell? ⟨b3,o3+k,none⟩=some (I v)∧w'.cell? ⟨b5,o5+v*4,none⟩=some (.bool n5)∧w'.cell? ⟨b5,o5+v*4+1,none⟩=some (.slice F1 f1 g1)∧w'.cell? ⟨b5,o5+v*4+2,none⟩=some (.bool false)∧w'.cell? ⟨b5,o5+v*4+3,none⟩=some (.slice F2 f2 g2)∧w'.cell? ⟨gx,0,none⟩=some (.bool n0)∧w'.cell? ⟨gx,1,none⟩=some (.slice Q1 l1 j1)∧w'.cell? ⟨gx,2,none⟩=some (.bool false)∧w'.cell? ⟨gx,3,none⟩=some (.slice Q2 l2 j2)) 21 (by kernel_rfl) ?_;generalize Z1.drew=X2 at*;skip;refine tkS ⟨CM.out,HC3.out,HEL.out.c0,HEL.out.c1,HEL.out.c2,HEL.out.c3,HBX.out.cell 0,HBX.out.cell 1,HBX.out.cell 2,HBX.out.cell 3⟩ fun hSS=>?_;refine aZ 0 (.slice (some ⟨b5,o5,none⟩) nb c5) rfl hSS ?_;refine aZ 1 (.pointer (some ⟨g,0,none⟩)) rfl hSS ?_;refine aZ 2 (.pointer (some ⟨g,0,none⟩)) rfl hSS ?_;refine aZ 3 (.pointer (some ⟨g,3,none⟩)) rfl hSS ?_;refine aZ 4 (.slice (some ⟨b3,o3,none⟩) ne k3) rfl hSS ?_;refine aZ 5 (I k) rfl hSS ?_;refine aZ 6 (.pointer (some ⟨b3,o3+k,none⟩)) rfl hSS ?_;refine aZ 7 (I v) rfl hSS ?_;refine aZ 8 (.slice (some ⟨b5,o5,none⟩) nb c5) rfl hSS ?_;refine aZ 9 (.pointer (some ⟨g,0,none⟩)) rfl hSS ?_;refine aZ 10 (.pointer (some ⟨g,0,none⟩)) rfl hSS ?_;refine aZ 11 (.pointer (some ⟨g,3,none⟩)) rfl hSS ?_;refine aZ 12 (.slice (some ⟨b3,o3,none⟩) ne k3) rfl hSS ?_;refine aZ 13 (I k) rfl hSS ?_;refine aZ 14 (.pointer (some ⟨b3,o3+k,none⟩)) rfl hSS ?_;refine aZ 15 (I v) rfl hSS ?_;refine aZ 16 (.pointer (some ⟨b5,o5+v*4,none⟩)) rfl hSS ?_;refine aZ 17 (.agg #[.bool n5,.slice F1 f1 g1,.bool false,.slice F2 f2 g2]) rfl hSS ?_;refine aZ 18 (.agg #[.bool n0,.slice Q1 l1 j1,.bool false,.slice Q2 l2 j2]) rfl hSS ?_;refine on1 19 fun K hK=>?_;go_simp;go_at_call 99;refine(gK _ _ _ _ X2 HRE.out HRB.out (N:=20000) (by decide) ((HFK.out v).mono (by decide)) (HQF.out.mono (by decide))).mono ?_;rintro e Y2 ⟨vv,rfl,hvv,hb⟩;replace HBX:=bL HBX hb;replace CM:=aH (aA CM.out hb);replace HEL:=aH (HEL.out.below hb);replace HR:=aH (HR.out.call hb);replace HB:=bT HB hb;replace HRB:=aH (HRB.out.ext hb);skip;replace HC3:=aH (aA HC3.out hb);clear HRE hb;refine hK.out _ _ (fun _=>⟨CM.out,HC3.out,HEL.out.c0,HEL.out.c1,HEL.out.c2,HEL.out.c3,HBX.out.cell 0,HBX.out.cell 1,HBX.out.cell 2,HBX.out.cell 3⟩) ?_;clear hK K;refine aZ 20 (.pointer (some ⟨b5,o5+v*4,none⟩)) rfl ⟨CM.out,HC3.out,HEL.out.c0,HEL.out.c1,HEL.out.c2,HEL.out.c3,HBX.out.cell 0,HBX.out.cell 1,HBX.out.cell 2,HBX.out.cell 3⟩ ?_;obtain⟨tb,T1,t1,w1,T2,t2,w2,rfl⟩:=hvv.bools;have hr9:=HR.out;obtain⟨hput,hkw,_⟩:=hr9.putEl (k:=v) hvn hvv;have HR2:=aH (show RRow (put4 Y2 b5 (o5+v*4) (.bool tb) (.slice T1 t1 w1) (.bool false) (.slice T2 t2 w2)) w.heap.size (.slice (some ⟨b5,o5,none⟩) nb c5) (M2.set v (M2.getD v 0+q))from hput);have HB2:=aH (cD (o:=o5+v*4) HB.out HB5.out (.bool tb) (.slice T1 t1 w1) (.bool false) (.slice T2 t2 w2));have hnq:gx≠b5:=fun e=>Nat.lt_irrefl _ (e▸HNX.out);have HBX2:=aH (show Blk (put4 Y2 b5 (o5+v*4) (.bool tb) (.slice T1 t1 w1) (.bool false) (.slice T2 t2 w2)) gx 122 #[.bool n0,.slice Q1 l1 j1,.bool false,.slice Q2 l2 j2]from(cR Y2 _ _ _ _ _ hnq).trans HBX.out);have HRB2:=aH (HRB.out.kw hkw);have HFK2:=aH (show FitL 10006 (M2.set v (M2.getD v 0+q))from(HFK.out.mono (by omega)).set v ((eK (HFK.out v) HQF.out).mono (by omega)));have HLN2:=aH (show(M2.set v (M2.getD v 0+q)).length=nb by rw[List.length_set];exact HLN.out);have z0:=HEL.out.c0;have y0:=HEL.out.f0;have z1:=HEL.out.c1;have y1:=HEL.out.f1;have z2:=HEL.out.c2;have y2:=HEL.out.f2;have z3:=HEL.out.c3;have y3:=HEL.out.f3;skip;clear HR HB HBX HRB HFK HLN hput hkw hvv hnq HEL hr9 CM;refine on1 21 fun K hK=>?_;go_simp;clear z0 z1 z2 z3 y0 y1 y2 y3;rw[iS];clear HC3;generalize(put4 Y2 b5 (o5+v*4) (.bool tb) (.slice T1 t1 w1) (.bool false) (.slice T2 t2 w2))=Z2 at*;generalize hM:(M2.set v (M2.getD v 0+q))=M3 at*;have HM2:=aH hM;clear hM;refine hK.out _ _ (fun h=>absurd h (by decide)) ?_;clear hK K;refine aG (by kernel_rfl) ?_ _;have HR:=HR2;have HB:=HB2;have HBX:=HBX2;have HRB:=HRB2;have HFK:=HFK2;have HLN:=HLN2;clear HR2 HB2 HBX2 HRB2 HFK2 HLN2;have HRN:=aH (show RRow Z2 w.heap.size (.slice (some ⟨b5,o5,none⟩) nb c5) (shK (is 2) (is 3) (ts 1) r (k+1)) by
    rw[HX.out,shQ,HM1.out,HM2.out];exact HR.out)
   clear HR HBX HRB HFK HLN HX HM1 HM2 HNX HB5 HQF HE2 HE3 HV3;go_wp2;go_roundg (ne-(k+1));case measure=>omega
   case rel=>exact⟨k+1,rfl,by go_num,by omega,HRN,HB⟩
  ·have hkn:k=ne:=by omega
   subst hkn;have HC:=aH (aIz base g rs is qs ts iv inv vs (shK (is 2) (is 3) (ts 1) r k) A5 c5 nb nf wa (HS.out.call HB.out) (HL.out.call HB.out) HR.out.rv NB.out hb NF.out hf4 HIN.out HFR.out hN HF.out);clear HR;go_wp2_with fail;refine HC.out.mono ?_;rintro e W9 ⟨v9,rfl,hr9,hb9⟩;clear HC;have HEND:=aH (show mQ w (thQ nb (is 4) inv (shK (is 2) (is 3) (ts 1) r k)) (.returned v9) W9 from⟨_,rfl,hr9.less HB.out.size,HB.out.trans (hb9.mono HB.out.size)⟩);obtain⟨A9,l9,c9,rfl⟩:=dB hr9.val;clear hr9 hb9 HB;go_wp2;go_ret;exact HEND.out
end
end Go.Proofs.YtenbglfkdldheaaGreatDoor
