/- A network without two branches: its flows by those of the whole network. Plain facts. The outage of two branches is that of one after the other. Plain facts. DoubleTurns: the walk. DoubleTurns returns true for every input: the order of two branches does not matter, and the outage of both is that of one after the other. No conditions. The row's listed variables hold what the program's text lays (the card ties them). -/
import Derived.Test.YtenbglfkdldheaaGreatDoorVXH
import Derived.Test.YtenbglfkdldheaaGreatDoorVPK
import Derived.Test.YtenbglfkdldheaaGreatDoorVDR
import Derived.ShutString
import Derived.ChangeMaps5
set_option maxRecDepth 100000
set_option maxHeartbeats 20000000
namespace Go.Proofs.YtenbglfkdldheaaGreatDoor
section
theorem outE_erase(x:Nat→Rat)(v:Nat):∀(es:List kU) (k:Nat) (e:kU),es[k]?=some e→ kY x v es=kY x v (es.eraseIdx k)+((if e.1=v then e.2.2*(x e.1-x e.2.1)else 0)+(if e.2.1=v then e.2.2*(x e.2.1-x e.1)else 0))
 |[],k,e,h=>by simp at h
 |c::es,0,e,h=>by
  obtain rfl:c=e:=by simpa using h
  rw[kY,List.eraseIdx_cons_zero];grind
 |c::es,k+1,e,h=>by
  rw[kY,List.eraseIdx_cons_succ,kY,outE_erase x v es k e (by simpa using h)];grind
def dA(n:NetD)(a b:Nat):NetD:=cD (cD n b) a
theorem aQo{n:NetD}(hc:aW n=0){a b:Nat}(hab:a<b)(hb:b<n.branches.length)(ha1:at_ (aB (dA n a b)) ((bB n).getD a 0)=at_ (aB (dA n a b)) ((toL n).getD a 0)) (hb1:at_ (aB (dA n a b)) ((bB n).getD b 0)=at_ (aB (dA n a b)) ((toL n).getD b 0)):aB (dA n a b)=aB n∧aB (cD n b)=aB n:=by
 have hcl:=uG hb;have hbr:(cD n b).branches[a]?=n.branches[a]?:=by
  show(n.branches.eraseIdx b)[a]?=_;rw[List.getElem?_eraseIdx,if_pos hab]
 have hg:∀g:BranchD→ByteArray,((cD n b).branches.map fun x=>aM n (g x)).getD a 0=(n.branches.map fun x=>aM n (g x)).getD a 0:=fun g=>by
  rw[gD,List.getElem?_map,hbr,gD,List.getElem?_map]
 have h1:=aBd (fR hc b) (k:=a) (by omega) (by
  show at_ (aB (dA n a b)) (((cD n b).branches.map fun x=>aM n x.src).getD a 0)=at_ (aB (dA n a b)) (((cD n b).branches.map fun x=>aM n x.dst).getD a 0);rw[hg BranchD.src,hg BranchD.dst];exact ha1)
 change aB (dA n a b)=_ at h1;rw[h1]at hb1;have h2:=aBd hc hb hb1;exact⟨h1.trans h2,h2⟩
section
variable {n:NetD} {a b:Nat} {ba bb:BranchD}
theorem aIs(hab:a<b)(ha:n.branches[a]?=some ba):(n.branches.eraseIdx b)[a]?=some ba:=by
 rw[List.getElem?_eraseIdx,if_pos hab];exact ha
def grB(n:NetD)(b:BranchD):List Rat:=gr0 (aM n b.src).toNat (aM n b.dst).toNat (nbN n)
theorem uI(n:NetD)(b:BranchD):(grB n b).length=nbN n:=aTi _ _ _
theorem aBk(hV:VNet n)(h:ba∈n.branches){v:Nat}(hv:v<nbN n):(grB n ba).getD v 0=(if(aM n ba.src).toNat=v then 1 else 0)-(if(aM n ba.dst).toNat=v then 1 else 0):=by
 obtain⟨h1,h2⟩:=aVv hV h;exact aVr hv h1 h2
theorem aTz(n:NetD){r p q:List Rat}(hr:r.length=nbN n)(hp:p.length=nbN n)(hq:q.length=nbN n)(x y:Rat)(v:Nat): (thN n (shN n (dG (dG r (gL x p)) (gL y q)))).getD v 0=(thN n (shN n r)).getD v 0+x*(thN n p).getD v 0+y*(thN n q).getD v 0:=by
 have l1:r.length=(gL x p).length:=by rw[gL,List.length_map];omega
 have l2:(dG r (gL x p)).length=(gL y q).length:=by rw[addQ1_len l1,gL,List.length_map];omega
 have hz:(aDy n).length=nbN n:=by simp[aDy]
 have e1:=zE (n:=n) (r:=dG (dG r (gL x p)) (gL y q)) (by rw[addQ1_len l2,addQ1_len l1];exact hr);have e2:=zE (n:=n) (r:=r) hr;have hs:(shN n (aDy n)).length=nbN n:=by rw[aTk];exact hz
 rw[e1,e2,tZ (by rw[addQ1_len l2,addQ1_len l1];omega),tZ l2,tZ l1,tZ (by omega),aIm,aIm];rw[dH (by rw[addQ1_len (by rw[addQ1_len (by rw[cV,gL,List.length_map,cV]),cV,gL,List.length_map,cV]),addQ1_len (by rw[cV,gL,List.length_map,cV]),cV,cV]),dH (by rw[addQ1_len (by rw[cV,gL,List.length_map,cV]),cV,gL,List.length_map,cV]),dH (by rw[cV,gL,List.length_map,cV]),dH (by rw[cV,cV]),kM,kM]
 grind
theorem aUa(hc:aW n=0)(hab:a<b)(ha:n.branches[a]?=some ba)(hb:n.branches[b]?=some bb)(hi:aB (dA n a b)=aB n){r:List Rat}(hr:r.length=nbN n)(v:Nat): (thN (dA n a b) (shN (dA n a b) r)).getD v 0=(thN n (shN n r)).getD v 0+flB n (fun u=>(thN (dA n a b) (shN (dA n a b) r)).getD u 0) ba*(thN n (grB n ba)).getD v 0+flB n (fun u=>(thN (dA n a b) (shN (dA n a b) r)).getD u 0) bb*(thN n (grB n bb)).getD v 0:=by
 have hV:=lE hc;have hW:VNet (dA n a b):=lE (fR (fR hc b) a);have hnb:nbN (dA n a b)=nbN n:=by unfold nbN;rw[hi]
 have hfr:aF (dA n a b)=aF n:=by unfold aF;rw[hi]
 generalize hx:flB n (fun u=>(thN (dA n a b) (shN (dA n a b) r)).getD u 0) ba=x;generalize hy:flB n (fun u=>(thN (dA n a b) (shN (dA n a b) r)).getD u 0) bb=y;rw[←aTz n hr (uI n ba) (uI n bb)];have l1:r.length=(gL x (grB n ba)).length:=by rw[gL,List.length_map,uI];exact hr
 have l2:(dG r (gL x (grB n ba))).length=(gL y (grB n bb)).length:=by rw[addQ1_len l1,gL,List.length_map,uI];exact hr
 refine aTl hV (r:=dG (dG r (gL x (grB n ba))) (gL y (grB n bb))) (x:=fun v=>(thN (dA n a b) (shN (dA n a b) r)).getD v 0) (by rw[addQ1_len l2,addQ1_len l1];exact hr) (fun v hv=>?_) (fun v hv=>?_) v
 ·exact vF (dA n a b) _ (by rw[hfr];exact hv)
 ·have h1:=aVu hW (r:=r) (by rw[hnb];exact hr) (v:=v) (by rw[hfr];exact hv);rw[dA,aGk,aGk,show(cD (cD n b) a).branches=(n.branches.eraseIdx b).eraseIdx a from rfl,←dA]at h1;rw[wN n _ v n.branches b bb hb,wN n _ v (n.branches.eraseIdx b) a ba (aIs hab ha),h1,dH l2,dH l1,kM,kM,aBk hV (List.mem_of_getElem? ha) (oO hv),aBk hV (List.mem_of_getElem? hb) (oO hv),hx,hy];grind
theorem aXh(hc:aW n=0)(hab:a<b)(ha:n.branches[a]?=some ba)(hb:n.branches[b]?=some bb)(hi:aB (dA n a b)=aB n){r:List Rat}(hr:r.length=nbN n)(d:BranchD): flB n (fun u=>(thN (dA n a b) (shN (dA n a b) r)).getD u 0) d=flB n (fun u=>(thN n (shN n r)).getD u 0) d+flB n (fun u=>(thN (dA n a b) (shN (dA n a b) r)).getD u 0) ba*(bQ d*((thN n (grB n ba)).getD (aM n d.src).toNat 0-(thN n (grB n ba)).getD (aM n d.dst).toNat 0)) +flB n (fun u=>(thN (dA n a b) (shN (dA n a b) r)).getD u 0) bb*(bQ d*((thN n (grB n bb)).getD (aM n d.src).toNat 0-(thN n (grB n bb)).getD (aM n d.dst).toNat 0)):=by
 have h:=aUa hc hab ha hb hi hr;have h1:=h (aM n d.src).toNat;have h2:=h (aM n d.dst).toNat;generalize hx:flB n (fun u=>(thN (dA n a b) (shN (dA n a b) r)).getD u 0) ba=x at*;generalize hy:flB n (fun u=>(thN (dA n a b) (shN (dA n a b) r)).getD u 0) bb=y at*;unfold flB;simp only;rw[h1,h2];grind
theorem aXf(hc:aW n=0)(hab:a<b)(ha:n.branches[a]?=some ba)(hb:n.branches[b]?=some bb)(hi:aB (dA n a b)=aB n){x y:Rat} (hx:x*(bQ ba*((thN n (grB n ba)).getD (aM n ba.src).toNat 0-(thN n (grB n ba)).getD (aM n ba.dst).toNat 0))+y*(bQ ba*((thN n (grB n bb)).getD (aM n ba.src).toNat 0-(thN n (grB n bb)).getD (aM n ba.dst).toNat 0))=x)
  (hy:x*(bQ bb*((thN n (grB n ba)).getD (aM n bb.src).toNat 0-(thN n (grB n ba)).getD (aM n bb.dst).toNat 0))+y*(bQ bb*((thN n (grB n bb)).getD (aM n bb.src).toNat 0-(thN n (grB n bb)).getD (aM n bb.dst).toNat 0))=y):x=0∧y=0:=by
 have hV:=lE hc;have hW:VNet (dA n a b):=lE (fR (fR hc b) a);have hfr:aF (dA n a b)=aF n:=by unfold aF;rw[hi]
 have key:∀v,x*(thN n (grB n ba)).getD v 0+y*(thN n (grB n bb)).getD v 0=0:=fun v=>by
  have h:=aHi hW (r:=[]) (x:=fun v=>x*(thN n (grB n ba)).getD v 0+y*(thN n (grB n bb)).getD v 0) (fun v hv=>?_) (fun v hv=>?_) v
  ·rw[show x*(thN n (grB n ba)).getD v 0+y*(thN n (grB n bb)).getD v 0=(thN (dA n a b) []).getD v 0 from h,aVs];exact fB _ fun j _=>Rat.mul_zero _
  ·rw[hfr]at hv;show x*_+y*_=0;rw[vF n _ hv,vF n _ hv];grind
  ·rw[hfr]at hv;have h1:=aEz hV (grB n ba) hv;have h2:=aEz hV (grB n bb) hv;rw[aBk hV (List.mem_of_getElem? ha) (oO hv)]at h1;rw[aBk hV (List.mem_of_getElem? hb) (oO hv)]at h2;have h3:=aCa x y (fun u=>(thN n (grB n ba)).getD u 0) (fun u=>(thN n (grB n bb)).getD u 0) v (esN n);rw[h1,h2,aBc,outE_erase _ v (n.branches.map (pG n)) b (pG n bb) (by rw[List.getElem?_map,hb];rfl),←sS,outE_erase _ v ((n.branches.eraseIdx b).map (pG n)) a (pG n ba) (by rw[List.getElem?_map,aIs hab ha];rfl),←sS]at h3
   rw[aBc];change kY _ v (((n.branches.eraseIdx b).eraseIdx a).map (pG n))=([]:List Rat).getD v 0;simp only[pG]at h3⊢;show _=(0:Rat);grind
 have k1:=key (aM n ba.src).toNat;have k2:=key (aM n ba.dst).toNat;have k3:=key (aM n bb.src).toNat;have k4:=key (aM n bb.dst).toNat;constructor
 ·rw[←hx];grind
 ·rw[←hy];grind
end
end
section
open Go.RowKit
theorem aEg{α:Type}(f:α→ByteArray)(x:ByteArray):∀(l:List α) (i:Nat),x∉l.map f→aL f x l i=-1
 |[],_,_=>rfl
 |a::l,i,h=>by
  rw[List.map_cons,List.mem_cons,not_or]at h;rw[aL,if_neg (fun e=>h.1 e.symm),aEg f x l (i+1) h.2]
theorem aEh{α:Type}(f:α→ByteArray):∀{l:List α} (k j:Nat) {a:α},(l.map f).Nodup→l[k]?=some a→aL f (f a) l j=((j+k:Nat):Int)
 |[],_,_,_,_,h=>by simp at h
 |c::l,0,j,a,_,h=>by
  obtain rfl:c=a:=by simpa using h
  rw[aL,if_pos rfl];rfl
 |c::l,k+1,j,a,hn,h=>by
  rw[List.map_cons,List.nodup_cons]at hn;have hk:l[k]?=some a:=by simpa using h
  rw[aL,if_neg (fun e=>hn.1 (by rw[e];exact List.mem_map.2 ⟨a,List.mem_of_getElem? hk,rfl⟩)),aEh f k (j+1) hn.2 hk];omega
theorem aGr{n:NetD}(hc:aW n=0){k:Nat}{b:BranchD}(hb:n.branches[k]?=some b):eU n b.name=(cD n k,0):=by
 have hnd:=(lE hc).nodup;have hit:n.items.map (·.1)=n.nodes++(n.switches.map SwitchD.name++(n.branches.map BranchD.name++(n.gens.map GenD.name++(n.loads.map LoadD.name++n.stores.map StoreD.name)))):=by
  unfold NetD.items;simp only[List.map_append,List.map_map];rw[show n.nodes.map ((fun x:ByteArray×List ByteArray×Bool=>x.1) ∘fun s=>(s,[],true))=n.nodes from List.map_id _];rfl
 rw[hit]at hnd;obtain⟨_,h2,h3⟩:=List.nodup_append.1 hnd;obtain⟨_,h4,h5⟩:=List.nodup_append.1 h2;obtain⟨h6,_,_⟩:=List.nodup_append.1 h4;have hbm:b.name∈n.branches.map BranchD.name:=List.mem_map.2 ⟨b,List.mem_of_getElem? hb,rfl⟩;have g0:¬0≤Lib.idxOfS n.nodes b.name:=fun k=>absurd rfl (h3 _ ((Lib.idxOfS_nonneg_iff _ _).1 k) _ (List.mem_append_right _ (List.mem_append_left _ hbm)));have g1:aL SwitchD.name b.name n.switches 0=-1:=aEg _ _ _ _ fun k=>absurd rfl (h5 _ k _ (List.mem_append_left _ hbm));have g2:aL BranchD.name b.name n.branches 0=(k:Int):=by rw[aEh BranchD.name k 0 h6 hb,Nat.zero_add]
 have hf:cU n b.name=(iD,(k:Int)):=by
  rw[cU,g1,g2,nQ,if_neg g0,if_neg (by decide),if_pos (by omega)];rfl
 have hF:fS n b.name=(iD,(k:Int),0):=by
  rw[fS,if_pos hc,hf];exact if_neg (by simp only;omega)
 rw[pF n b.name iD k hF (by decide)];rfl
theorem aUb{n m:NetD}{inj:List Int}(hn:m.nodes=n.nodes)(hb:aI m=aI n)(hi:aB m=aB n)(hc:aW m=0)(h:aR n inj=0):aR m inj=0:=by
 have hk:dM m=dM n:=by
  unfold dM mH;rw[hn,hb,hi]
 have h0:=(fF h).1;unfold aR at h⊢;rw[if_neg (fun k=>k h0)]at h;rw[if_neg (fun k=>k hc),hk,hn];exact h
theorem aLk(l:List Rat){k:Nat}(hk:k≤l.length)(x:Rat):(nR l k x).eraseIdx k=l:=by
 unfold nR;rw[List.eraseIdx_append_of_length_le (by rw[List.length_take];omega),List.length_take,Nat.min_eq_left hk,Nat.sub_self,List.eraseIdx_cons_zero,List.take_append_drop]
theorem aGs(l:List Rat)(i j:Nat):(l.eraseIdx i).getD j 0=if j<i then l.getD j 0 else l.getD (j+1) 0:=by
 rw[gD,List.getElem?_eraseIdx];split<;>rw[gD]
theorem aGt(l:List Rat){a b:Nat}(hab:a<b)(hb:b≤l.length+1)(x y:Rat):(nR (nR l a x) b y).eraseIdx a=nR l (b-1) y:=by
 have l1:=rQ (l:=l) (k:=a) (by omega) x;have l2:=rQ (l:=nR l a x) (k:=b) (by omega) y;have l3:=rQ (l:=l) (k:=b-1) (by omega) y;refine jX (by rw[List.length_eraseIdx_of_lt (by omega)];omega) fun j hj=>?_;have e1:=fun j=>aGl (l:=nR l a x) (k:=b) (by omega) y j;have e2:=fun j=>aGl (l:=l) (k:=a) (by omega) x j;have e3:=fun j=>aGl (l:=l) (k:=b-1) (by omega) y j;rw[aGs,e3];by_cases h1:j<a
 ·rw[if_pos h1,e1 j,if_pos (by omega),e2 j,if_pos h1,if_pos (by omega)]
 ·rw[if_neg h1,e1 (j+1)];by_cases h2:j+1<b
  ·rw[if_pos h2,e2 (j+1),if_neg (by omega),if_neg (by omega),if_pos (by omega),Nat.add_sub_cancel]
  ·rw[if_neg h2];by_cases h3:j+1=b
   ·rw[if_pos h3,if_neg (by omega),if_pos (by omega)]
   ·rw[if_neg h3,Nat.add_sub_cancel,e2 j,if_neg h1,if_neg (by omega),if_neg (by omega),if_neg (by omega)]
theorem wY{α:Type}:∀(l:List α) (a b:Nat),a<b→(l.eraseIdx a).eraseIdx (b-1)=(l.eraseIdx b).eraseIdx a
 |[],_,_,_=>rfl
 |c::l,0,b+1,_=>rfl
 |c::l,a+1,b+1,h=>by
  obtain⟨d,rfl⟩:∃d,b=d+1:=⟨b-1,by omega⟩;have ih:=wY l a (d+1) (by omega);rw[Nat.add_sub_cancel]at ih;show c::(l.eraseIdx a).eraseIdx d=c::(l.eraseIdx (d+1)).eraseIdx a;rw[ih]
theorem aQp(n:NetD){a b:Nat}(h:a<b):cD (cD n a) (b-1)=dA n a b:=by
 unfold dA cD;simp only[wY n.branches a b h]
theorem zH(n:NetD)(g:NetD→BranchD→Int)(hg:∀k,g (cD n k)=g n)(i j:Nat):((cD n i).branches.map (g (cD n i))).getD j 0=if j<i then(n.branches.map (g n)).getD j 0 else(n.branches.map (g n)).getD (j+1) 0:=by
 rw[hg];show((n.branches.eraseIdx i).map _).getD j 0=_;rw[gD,List.getElem?_map,List.getElem?_eraseIdx];split<;>rw[gD,List.getElem?_map]
theorem aIt(n:NetD)(i j:Nat):(bB (cD n i)).getD j 0=if j<i then(bB n).getD j 0 else(bB n).getD (j+1) 0:=zH n (fun n b=>aM n b.src) (fun _=>rfl) i j
theorem aQq(n:NetD)(i j:Nat):(toL (cD n i)).getD j 0=if j<i then(toL n).getD j 0 else(toL n).getD (j+1) 0:=zH n (fun n b=>aM n b.dst) (fun _=>rfl) i j
theorem aEi{n:NetD}{inj:List Int}{i k:Nat}(h:eR n inj i k=0)(hf:(cY n inj (eW i k)).all fA=true):qA (cD n i) inj (if i<k then(k:Int)-1 else k)=((cY n inj (eW i k)).eraseIdx i,0):=by
 obtain⟨hc,_,hi,_,hk,hne,hg⟩:=wR h;have hck:=(fF hc).1;have hi':i<n.branches.length:=by omega
 have hk':k<n.branches.length:=by omega
 have hne':i≠k:=by omega
 obtain⟨a,b,hab,hbn,hgd,hcase⟩:∃a b:Nat,a<b∧b<n.branches.length∧eW i k=[a,b]∧((i=a∧k=b)∨(i=b∧k=a)):=by
  by_cases hlt:i<k
  ·exact⟨i,k,hlt,hk',by unfold eW;rw[show(min (i:Int) k)=i by omega,show(max (i:Int) k)=k by omega,Int.toNat_natCast,Int.toNat_natCast],.inl ⟨rfl,rfl⟩⟩
  ·exact⟨k,i,by omega,hi',by unfold eW;rw[show(min (i:Int) k)=k by omega,show(max (i:Int) k)=i by omega,Int.toNat_natCast,Int.toNat_natCast],.inr ⟨rfl,rfl⟩⟩
 rw[hgd]at hg hf⊢;have hL:cX n [a,b]=dA n a b:=rfl;unfold mO aGm at hg;rw[hL]at hg;simp only[List.all_cons,List.all_nil,Bool.and_true,Bool.and_eq_true,decide_eq_true_eq]at hg;obtain⟨ha1,hb1⟩:=hg;obtain⟨i1,i2⟩:=aQo hck hab hbn ha1 hb1;have hll:(iN (dA n a b) inj).length+2=n.branches.length:=by
  rw[lA];have:=nS (oS hab hbn);rw[hL]at this;simpa using this
 have hQ:cY n inj [a,b]=nR (nR (iN (dA n a b) inj) a 0) b 0:=rfl;have key:∀(at_:Nat) (m:NetD),cD n i=m→cD m at_=dA n a b→aB m=aB n→at_<m.branches.length→(bB m).getD at_ 0=(bB n).getD k 0→(toL m).getD at_ 0=(toL n).getD k 0→ (cY n inj [a,b]).eraseIdx i=nR (iN (dA n a b) inj) at_ 0→qA m inj at_=((cY n inj [a,b]).eraseIdx i,0):=by
  intro t m hm h1 h2 h3 h4 h5 h6;have hcm:aW m=0:=by rw[←hm];exact fR hck i
  have hfm:aR m inj=0:=aUb (by rw[←hm];rfl) (by rw[←hm];rfl) h2 hcm hc;have hl:cY m inj [t]=(cY n inj [a,b]).eraseIdx i:=by
   rw[h6];show nR (iN (cD m t) inj) t 0=_;rw[h1]
  have hg2:mO m [t]=true:=by
   unfold mO aGm;rw[show cX m [t]=cD m t from rfl,h1,List.all_cons,List.all_nil,Bool.and_true,h4,h5];refine decide_eq_true ?_;rcases hcase with⟨_,e⟩|⟨_,e⟩
   ·rw[e];exact hb1
   ·rw[e];exact ha1
  unfold qA;rw[if_neg (fun c=>c hfm),if_neg (by omega),Int.toNat_natCast,if_neg (by rw[hg2];decide),hl,if_pos (List.all_eq_true.2 fun x hx=>List.all_eq_true.1 hf x (List.mem_of_mem_eraseIdx hx))]
 rcases hcase with⟨rfl,rfl⟩|⟨rfl,rfl⟩
 ·rw[if_pos hab,show((k:Int)-1)=((k-1:Nat):Int) by omega];have hcl:=uG hi';have hs:=aQp n hab;have e3:(bB (cD n i)).getD (k-1) 0=(bB n).getD k 0:=by rw[aIt,if_neg (by omega),show k-1+1=k by omega]
  have e4:(toL (cD n i)).getD (k-1) 0=(toL n).getD k 0:=by rw[aQq,if_neg (by omega),show k-1+1=k by omega]
  have hii:aB (cD n i)=aB n:=by
   have h9:=aBd (fR hck i) (k:=k-1) (by omega) (by rw[hs,e3,e4];exact hb1);rw[hs]at h9;exact h9.symm.trans i1
  exact key (k-1) _ rfl hs hii (by omega) e3 e4 (by rw[hQ];exact aGt _ hab (by omega) 0 0)
 ·rw[if_neg (by omega)];have hcl:=uG hi';exact key k _ rfl rfl i2 (by omega) (by rw[aIt,if_pos hab]) (by rw[aQq,if_pos hab]) (by rw[hQ];exact aLk _ (by rw[rQ (by omega)];omega) 0)
theorem zI(i k:Int):eW i k=eW k i:=by
 unfold eW;rw[show min i k=min k i by omega,show max i k=max k i by omega]
theorem aLl(n:NetD)(inj:List Int)(i k:Int):eR n inj i k=eR n inj k i:=by
 unfold eR;rw[zI i k];by_cases h0:aR n inj=0
 ·have hn:¬aR n inj≠0:=fun c=>c h0;rw[if_neg hn,if_neg hn];have e:(k<0∨(n.branches.length:Int)≤k∨i<0∨(n.branches.length:Int)≤i)↔(i<0∨(n.branches.length:Int)≤i∨k<0∨(n.branches.length:Int)≤k):=by omega
  by_cases h1:i<0∨(n.branches.length:Int)≤i∨k<0∨(n.branches.length:Int)≤k
  ·rw[if_pos h1,if_pos (e.2 h1)]
  ·rw[if_neg h1,if_neg (fun c=>h1 (e.1 c))];by_cases h2:i=k
   ·rw[if_pos h2,if_pos h2.symm]
   ·have h3:¬k=i:=fun e=>h2 e.symm;rw[if_neg h2,if_neg h3]
 ·rw[if_pos h0,if_pos h0]
theorem aLm(n:NetD)(inj:List Int)(i k:Int):eY n inj i k=eY n inj k i:=by
 unfold eY;rw[aLl n inj i k,zI i k]
theorem uJ{w:World}{r:List Rat×Int}{e:Ending}{w':World}(h:rO w r e w')(hr:r.2≠0→r.1=[]):∃A l c,e= .returned (.tuple #[.slice A l c,I r.2])∧l=r.1.length∧Row w' w.heap.size 51 1 (.slice A l c) l ((mkS (r.1.map cF)).map Sv)∧Below w.heap.size w w':=by
 obtain⟨v,h1,h2,h3,h4⟩:=h;by_cases h0:r.2=0
 ·have h5:=(h2 h0).2;obtain⟨A,c,rfl⟩:=h5.val;exact⟨A,_,c,h1,rfl,h5,h4⟩
 ·obtain rfl:=h3 h0;have hn:=hr h0;refine⟨none,0,0,h1,by rw[hn];rfl,?_,h4⟩;rw[hn];exact Row.nil _ _ _ _
theorem wZ(n:NetD)(inj:List Int)(i k:Int)(h:(eY n inj i k).2≠0):(eY n inj i k).1=[]:=by
 unfold eY at h⊢;split
 ·rfl
 ·split
  ·rename_i h1 h2;rw[if_neg h1,if_pos h2]at h;exact absurd rfl h
  ·rfl
theorem aEj{n:NetD}{inj:List Int}{i k:Int}(h:(eY n inj i k).2=0):eR n inj i k=0:=by
 unfold eY at h;by_cases h0:eR n inj i k=0
 ·exact h0
 ·rw[if_pos h0]at h;exact h
theorem aEk{n:NetD}{inj:List Int}{i k:Int}(h:(eY n inj i k).2=0):(eY n inj i k).1.length=n.branches.length:=by
 have hE:eR n inj i k=0:=by
  unfold eY at h;by_cases h0:eR n inj i k=0
  ·exact h0
  ·rw[if_pos h0]at h;exact h
 obtain⟨k0,k1,k2,k3,k4,k5,_⟩:=wR hE;unfold eY at h⊢;rw[if_neg (fun c=>c hE)]at h⊢;by_cases hf:(cY n inj (eW i k)).all fA=true
 ·rw[if_pos hf];show(cY n inj (eW i k)).length=_;unfold eW;exact oR (oS (by omega) (by omega)) inj
 ·rw[if_neg hf]at h;cases h
theorem aIu{w w0:World}{n:NetD}{v v0:NetV}{i:Nat}(h:NetIn w (cD n i) v)(hn:Net w0 n v0):Net w (cD n i) v:=by
 obtain⟨_,⟨o1,o2,o3,o4,o5,o6⟩,l1,l2,l3,l4,l5,l6⟩:=hn;have hl:(n.branches.eraseIdx i).length≤n.branches.length:=by
  rw[List.length_eraseIdx];split<;>omega
 exact⟨h,⟨o1,o2,fun s hs=>o3 s (List.mem_of_mem_eraseIdx hs),o4,o5,o6⟩,l1,l2,Nat.le_trans hl l3,l4,l5,l6⟩
theorem zJ{T:List Rat}{i:Nat}:((mkS (T.map cF)).map Sv).take i++((mkS (T.map cF)).map Sv).drop (i+1)=(mkS ((T.eraseIdx i).map cF)).map Sv:=by
 simp only[mkS,List.eraseIdx_eq_take_drop_succ,List.map_append,List.map_take,List.map_drop]
theorem aQr{n:NetD}{inj:List Int}{i k:Nat}(h:(eY n inj i k).2=0):qA (cD n i) inj (if i<k then(k:Int)-1 else k)=((eY n inj i k).1.eraseIdx i,0):=by
 have h1:=aEj h;unfold eY at h⊢;have h2:¬eR n inj i k≠0:=fun c=>c h1;rw[if_neg h2]at h⊢;by_cases hf:(cY n inj (eW i k)).all fA=true
 ·rw[if_pos hf];exact aEi h1 hf
 ·rw[if_neg hf]at h;cases h
theorem tP(n:NetD)(v:NetV)(inj:List Int)(m:Nat)(A:Option Addr)(c:Nat)(i k:Int)(w:World)(hN:Net w n v)(hj:Reads w w.heap.size 1 A m (inj.map I))(hm:m≤9223372036854775807)(htab:Tab w):Calls Tryz.prog 5 #[v.val n,.slice A m c,I i,I k] w fun e w'=>e= .returned (.bool true)∧Below w.heap.size w w':=by
 have hz:=aC w (Obj.cells (v.parts n) 29);have HN:=aH (hN.below hz);have HG:=aH (Blk.new w 29 (v.parts n));have HB:=aH hz;have HTB:=aH htab;have HJ:=aH ((hj.below hz).more hz.size);clear hz hN htab hj;unfold NetV.val NetV.parts at*;go_enter Tryz.func5,Tryz.ntmps5;have HC:=aH (wX (w.alloc (Obj.cells #[.slice v.na n.nodes.length v.nc,.slice v.sa n.switches.length v.sc,.slice v.ba n.branches.length v.bc,.slice v.ga n.gens.length v.gc,.slice v.la n.loads.length v.lc,.slice v.ta n.stores.length v.tc] 29)) (cE HTB.out HB.out));go_wp2_with fail;refine HC.out.mono ?_;rintro e w1 ⟨rfl,hb⟩;clear HC;have hbs:=HB.out.size;replace HB:=aH (HB.out.trans (hb.mono hbs));clear hbs;replace HN:=aH (HN.out.below hb);replace HG:=bL HG hb;replace HJ:=aH ((HJ.out.below hb).more hb.size);clear hb;have x0:=HG.out.cell 0;have x1:=HG.out.cell 1;have x2:=HG.out.cell 2;have x3:=HG.out.cell 3;have x4:=HG.out.cell 4;have x5:=HG.out.cell 5;have HC:=aH (aNd n v w1);unfold NetV.val NetV.parts at HC;go_wp2_with fail;refine HC.out.mono ?_;rintro e w2 ⟨rfl,hb⟩;clear HC;clear x0 x1 x2 x3 x4 x5;have hbs:=HB.out.size;replace HB:=aH (HB.out.trans (hb.mono hbs));clear hbs;replace HN:=aH (HN.out.below hb);replace HG:=bL HG hb;replace HJ:=aH ((HJ.out.below hb).more hb.size);clear hb;cases hw:sZ n with
 |true=>
  go_wp2;go_ret;exact⟨rfl,HB.out⟩
 |false=>
  have HW:=aH hw;clear hw;have hbb:=(vG HW.out).2.1;have x2:=HG.out.cell 2;by_cases h2:n.branches.length<2
  ·have t2:decide ((n.branches.length:Int)<2)=true:=decide_eq_true (by omega);go_wp2;go_ret;exact⟨rfl,HB.out⟩
  ·have t2:decide ((n.branches.length:Int)<2)=false:=decide_eq_false (by omega);obtain⟨nb,hnb⟩:∃x,n.branches.length=x:=⟨_,rfl⟩;have HNB:=aH hnb;go_upto_region 5 with(fail)
   clear t2 x2;have hb:=aP w2;have hbs:=HB.out.size;replace HB:=aH (HB.out.trans (hb.mono hbs));clear hbs;replace HN:=aH (HN.out.below hb);replace HG:=bL HG hb;replace HJ:=aH ((HJ.out.below hb).more hb.size);clear hb;have d2:w2.drew.cell? ⟨w.heap.size,2,none⟩=some (.slice v.ba nb v.bc):=by rw[←hnb];exact HG.out.cell 2
   rw[hnb]at hbb h2;clear hnb;refine aG (fun w'=>w'.cell? ⟨w.heap.size,2,none⟩=some (.slice v.ba nb v.bc)) 11 (by kernel_rfl) ?_;generalize w2.drew=wz at*;refine tq 0 (I i) rfl ?_ d2 ?_
   ·intro w hSw;have s0:=hSw;go_simp
   refine tq 1 (.pointer (some ⟨w.heap.size,2,none⟩)) rfl ?_ d2 ?_
   ·intro w hSw;have s0:=hSw;go_simp
   refine tq 2 (.slice v.ba nb v.bc) rfl ?_ d2 ?_
   ·intro w hSw;have s0:=hSw;go_simp
   refine tq 3 (I nb) rfl ?_ d2 ?_
   ·intro w hSw;have s0:=hSw;go_simp
   refine tq 5 (I k) rfl ?_ d2 ?_
   ·intro w hSw;have s0:=hSw;go_simp
   refine tq 6 (.pointer (some ⟨w.heap.size,2,none⟩)) rfl ?_ d2 ?_
   ·intro w hSw;have s0:=hSw;go_simp
   refine tq 7 (.slice v.ba nb v.bc) rfl ?_ d2 ?_
   ·intro w hSw;have s0:=hSw;go_simp
   refine tq 8 (I nb) rfl ?_ d2 ?_
   ·intro w hSw;have s0:=hSw;go_simp
   have HC:=aH (aHw i nb wz (by omega) (by omega));refine on1 4 fun K hK=>?_;go_simp;go_at_call 17;refine HC.out.mono ?_;rintro e wz ⟨rfl,rfl⟩;clear HC;refine hK.out _ _ (fun _=>d2) ?_;clear hK K;have HC:=aH (aHw k nb wz (by omega) (by omega));refine on1 9 fun K hK=>?_;go_simp;go_at_call 17;refine HC.out.mono ?_;rintro e wz ⟨rfl,rfl⟩;clear HC;refine hK.out _ _ (fun _=>d2) ?_;clear hK K;refine on1 10 fun K hK=>?_;go_simp;refine hK.out _ _ (fun _=>d2) ?_;clear hK K;refine on1 11 fun K hK=>?_;go_simp;refine hK.out _ _ (fun h=>absurd h (by decide)) ?_;clear hK K;refine aD (by kernel_rfl) ?_ _;have p1:=nG i (n:=(nb:Int)) (by omega);have p2:=nG k (n:=(nb:Int)) (by omega);generalize wC i (nb:Int)=i at*;generalize wC k (nb:Int)=k at*;obtain⟨i,rfl⟩:∃j:Nat,i=j:=Int.eq_ofNat_of_zero_le p1.1;obtain⟨k,rfl⟩:∃j:Nat,k=j:=Int.eq_ofNat_of_zero_le p2.1;clear d2;have x0:=HG.out.cell 0;have x1:=HG.out.cell 1;have x2:=HG.out.cell 2;have x3:=HG.out.cell 3;have x4:=HG.out.cell 4;have x5:=HG.out.cell 5;have HC:=aH (show Calls Tryz.prog 28 #[.agg #[.slice v.na n.nodes.length v.nc,.slice v.sa n.switches.length v.sc,.slice v.ba n.branches.length v.bc,.slice v.ga n.gens.length v.gc,.slice v.la n.loads.length v.lc,.slice v.ta n.stores.length v.tc],.slice A m c,I i,I k] wz (fun e w'=>∃A l c,e= .returned (.tuple #[.slice A l c,I (eY n inj i k).2])∧l=(eY n inj i k).1.length∧Row w' wz.heap.size 51 1 (.slice A l c) l ((mkS ((eY n inj i k).1.map cF)).map Sv)∧Below wz.heap.size wz w')from(jF n v inj m A c i k wz HN.out HJ.out hm (cE HTB.out HB.out)).mono fun e w' h=>uJ h (wZ n inj i k));go_wp2_with fail;refine HC.out.mono ?_;rintro e w3 ⟨FA,Fl,Fc,rfl,hF,hr,hb⟩;clear HC;clear x0 x1 x2 x3 x4 x5;have hbs:=HB.out.size;replace HB:=aH (HB.out.trans (hb.mono hbs));clear hbs;replace HN:=aH (HN.out.below hb);replace HG:=bL HG hb;replace HJ:=aH ((HJ.out.below hb).more hb.size);clear hb;have HF:=aH hr;have HFL:=aH hF;clear hr hF;have x0:=HG.out.cell 0;have x1:=HG.out.cell 1;have x2:=HG.out.cell 2;have x3:=HG.out.cell 3;have x4:=HG.out.cell 4;have x5:=HG.out.cell 5;have HC:=aH (show Calls Tryz.prog 28 #[.agg #[.slice v.na n.nodes.length v.nc,.slice v.sa n.switches.length v.sc,.slice v.ba n.branches.length v.bc,.slice v.ga n.gens.length v.gc,.slice v.la n.loads.length v.lc,.slice v.ta n.stores.length v.tc],.slice A m c,I k,I i] w3 (fun e w'=>∃A l c,e= .returned (.tuple #[.slice A l c,I (eY n inj k i).2])∧l=(eY n inj k i).1.length∧Row w' w3.heap.size 51 1 (.slice A l c) l ((mkS ((eY n inj k i).1.map cF)).map Sv)∧Below w3.heap.size w3 w')from(jF n v inj m A c k i w3 HN.out HJ.out hm (cE HTB.out HB.out)).mono fun e w' h=>uJ h (wZ n inj k i));go_wp2_with fail;refine HC.out.mono ?_;rintro e w4 ⟨EA,El,Ec,rfl,hE,hr,hb⟩;clear HC;clear x0 x1 x2 x3 x4 x5;have hbs:=HB.out.size;replace HB:=aH (HB.out.trans (hb.mono hbs));clear hbs;replace HN:=aH (HN.out.below hb);replace HG:=bL HG hb;replace HJ:=aH ((HJ.out.below hb).more hb.size);replace HF:=aH (HF.out.call hb);clear hb;have HE:=aH hr;have HEL:=aH hE;clear hr hE;have HTN:=aH (aLm n inj k i);rw[HTN.out]at HE HEL⊢;have HDF:=aH (fun h=>wZ n inj i k h);obtain⟨T,hT⟩:∃x,(eY n inj i k).1=x:=⟨_,rfl⟩;obtain⟨fc,hfc⟩:∃x,(eY n inj i k).2=x:=⟨_,rfl⟩;have HT:=aH hT;have HFC:=aH hfc;rw[hT]at HF HFL HE HEL;rw[hfc];clear hT hfc HTN;have HTL:=aH (show T.length≤1000 by
    by_cases h0:(eY n inj i k).2=0
    ·rw[←HT.out];have h5:=aEk h0;rw[h5,HNB.out];omega
    ·rw[←HT.out,HDF.out h0];decide)
   obtain rfl:El=Fl:=HEL.out.trans HFL.out.symm;have htl:=HTL.out;have hml:(mkS (T.map cF)).length=El:=by rw[zZ,HEL.out]
   have HC:=aH (lU (mkS (T.map cF)) (mkS (T.map cF)) El El FA EA Fc Ec w4 (HF.out.reads.more lR) (HE.out.reads.more lR) (by have:=HEL.out;omega));rw[decide_eq_true rfl]at HC;clear hml htl;go_wp2_with fail;refine HC.out.mono ?_;rintro e w5 ⟨rfl,hb⟩;clear HC;have hbs:=HB.out.size;replace HB:=aH (HB.out.trans (hb.mono hbs));clear hbs;replace HN:=aH (HN.out.below hb);replace HG:=bL HG hb;replace HJ:=aH ((HJ.out.below hb).more hb.size);replace HF:=aH (HF.out.call hb);replace HE:=aH (HE.out.call hb);clear hb;by_cases h0:fc=0;rotate_left
   ·have t0:(fc !=0)=true:=bne_iff_ne.2 h0;go_wp2;go_ret;exact⟨rfl,HB.out⟩
   subst h0;have hEl:El=nb:=by rw[HEL.out,←HT.out,aEk HFC.out,HNB.out]
   subst hEl;have x2:=HG.out.cell 2;rw[HNB.out]at x2;obtain⟨hfc,_,hi1,_,hk1,hne,hg⟩:=wR (aEj HFC.out);have HCK:=aH (fF hfc).1;have HIR:=aH (show i<n.branches.length by omega);clear hfc hi1 hk1 hg;obtain⟨b,hb⟩:∃b,n.branches[i]?=some b:=⟨_,gE HIR.out⟩;have HWO:=aH (aGr HCK.out hb);have HBI:=aH hb;clear hb;obtain⟨vna,vnc,vsa,vsc,vba,vbc,vga,vgc,vla,vlc,vta,vtc⟩:=v;dsimp only at HN HG x2⊢;obtain⟨bb,ob,eb,_,hcb⟩:=dJ (f:=BranchD.cells) (fun _=>rfl) (by decide) HN.out.net.branches (k:=i) HIR.out;change vba=_ at eb;subst eb;have hnm:w5.cell? ⟨bb,ob+i*9,none⟩=some (.string b.name):=by rw[←(List.getElem?_eq_some_iff.1 HBI.out).2];exact hcb 0 _ rfl
   clear hcb;have HN0:=HN;go_upto_region 12 with(fail)
   clear x2;go_cut [13,14] (fun s13 s14 wx=>∃gz mna mnc msa msc mba mbc mga mgc mla mlc mta mtc,s13= .pointer (some ⟨gz,0,none⟩)∧s14=I 0∧Hid (NetIn wx (cD n i) ⟨mna,mnc,msa,msc,mba,mbc,mga,mgc,mla,mlc,mta,mtc⟩)∧Hid (Blk wx gz 29 #[.slice mna (cD n i).nodes.length mnc,.slice msa (cD n i).switches.length msc,.slice mba (cD n i).branches.length mbc,.slice mga (cD n i).gens.length mgc,.slice mla (cD n i).loads.length mlc,.slice mta (cD n i).stores.length mtc])∧Hid (Row wx 0 51 1 (.slice FA El Fc) El ((mkS (T.map cF)).map Sv))∧Hid (Reads wx wx.heap.size 1 A m (inj.map I))∧Hid (Below w.heap.size w wx))
   case first=>
    have hd:=aP w5;have HNM:=aH (aA hnm hd);have hb:=hd;clear hnm hd;have hbs:=HB.out.size;replace HB:=aH (HB.out.trans (hb.mono hbs));clear hbs;replace HN:=aH (HN.out.below hb);replace HG:=bL HG hb;replace HJ:=aH ((HJ.out.below hb).more hb.size);replace HF:=aH (HF.out.call hb);replace HE:=aH (HE.out.call hb);clear hb;obtain⟨M,hM⟩:∃M,cD n i=M:=⟨_,rfl⟩;have HM:=aH hM;rw[hM]at HWO;clear hM;refine aG (fun w'=>w'.cell? ⟨w.heap.size,0,none⟩=some (.slice vna n.nodes.length vnc)∧w'.cell? ⟨w.heap.size,1,none⟩=some (.slice vsa n.switches.length vsc)∧w'.cell? ⟨w.heap.size,2,none⟩=some (.slice (some ⟨bb,ob,none⟩) n.branches.length vbc)∧w'.cell? ⟨w.heap.size,3,none⟩=some (.slice vga n.gens.length vgc)∧w'.cell? ⟨w.heap.size,4,none⟩=some (.slice vla n.loads.length vlc)∧w'.cell? ⟨w.heap.size,5,none⟩=some (.slice vta n.stores.length vtc)∧w'.cell? ⟨bb,ob+i*9,none⟩=some (.string b.name)) 7 (by kernel_rfl) ?_;generalize w5.drew=wz at*;have hib:(i:Int)<(n.branches.length:Int):=by have:=HIR.out;omega
    refine tkS ⟨HG.out.cell 0,HG.out.cell 1,HG.out.cell 2,HG.out.cell 3,HG.out.cell 4,HG.out.cell 5,HNM.out⟩ fun hSS=>?_;refine aZ 0 (.agg #[.slice vna n.nodes.length vnc,.slice vsa n.switches.length vsc,.slice (some ⟨bb,ob,none⟩) n.branches.length vbc,.slice vga n.gens.length vgc,.slice vla n.loads.length vlc,.slice vta n.stores.length vtc]) rfl hSS ?_;refine aZ 1 (.pointer (some ⟨w.heap.size,2,none⟩)) rfl hSS ?_;refine aZ 2 (.slice (some ⟨bb,ob,none⟩) n.branches.length vbc) rfl hSS ?_;refine aZ 3 (I i) rfl hSS ?_;refine aZ 4 (.pointer (some ⟨bb,ob+i*9,none⟩)) rfl hSS ?_;refine aZ 5 (.pointer (some ⟨bb,ob+i*9,none⟩)) rfl hSS ?_;refine aZ 6 (.string b.name) rfl hSS ?_;refine tG (i:=7) (j:=11) (by kernel_rfl) rfl rfl (fun K hK=>?_) (fun K hK=>?_)
    ·go_simp;have HP:=aH (tJ n ⟨vna,vnc,vsa,vsc,some ⟨bb,ob,none⟩,vbc,vga,vgc,vla,vlc,vta,vtc⟩ b.name wz HN.out);unfold NetV.val NetV.parts at HP;simp only at HP;go_at_call 30;refine HP.out.mono ?_;rintro e w6 ⟨v4,e4,hin,hb⟩;rw[HWO.out]at e4 hin;subst e4;obtain⟨mna,mnc,msa,msc,mba,mbc,mga,mgc,mla,mlc,mta,mtc⟩:=v4;unfold NetV.val NetV.parts;clear HP HNM;have hbs:=HB.out.size;replace HB:=aH (HB.out.trans (hb.mono hbs));clear hbs;replace HN:=aH (HN.out.below hb);replace HG:=bL HG hb;replace HJ:=aH ((HJ.out.below hb).more hb.size);replace HF:=aH (HF.out.call hb);replace HE:=aH (HE.out.call hb);clear hb;have HIN:=aH hin;clear hin;refine hK.out _ _ (fun h=>absurd h (by decide)) ?_;clear hK K;refine fP (i:=8) (oi:=_) (v:= .tuple #[.agg #[.slice mna M.nodes.length mnc,.slice msa M.switches.length msc,.slice mba M.branches.length mbc,.slice mga M.gens.length mgc,.slice mla M.loads.length mlc,.slice mta M.stores.length mtc],I 0]) rfl (by kernel_rfl) (by kernel_rfl) (by kernel_rfl) (by kernel_rfl) (fun _ _ _ h=>h) (Or.inl ⟨by rfl,?_⟩) (by kernel_rfl) ?_
     ·intro w _;go_simp
     refine fP (i:=9) (oi:=_) (v:= .agg #[.slice mna M.nodes.length mnc,.slice msa M.switches.length msc,.slice mba M.branches.length mbc,.slice mga M.gens.length mgc,.slice mla M.loads.length mlc,.slice mta M.stores.length mtc]) rfl (by kernel_rfl) (by kernel_rfl) (by kernel_rfl) (by kernel_rfl) (fun _ _ _ h=>h) (Or.inl ⟨by rfl,?_⟩) (by kernel_rfl) ?_
     ·intro w _;go_simp
     refine fP (i:=10) (oi:=_) (v:=I 0) rfl (by kernel_rfl) (by kernel_rfl) (by kernel_rfl) (by kernel_rfl) (fun _ _ _ h=>h) (Or.inl ⟨by rfl,?_⟩) (by kernel_rfl) ?_
     ·intro w _;go_simp
     have hzz:∀x0 x1 x2 x3 x4 x5,Below w6.heap.size w6 (set6 (w6.alloc (Obj.cells #[.slice none 0 0,.slice none 0 0,.slice none 0 0,.slice none 0 0,.slice none 0 0,.slice none 0 0] 29)) w6.heap.size x0 x1 x2 x3 x4 x5):=fun _ _ _ _ _ _=>(aC w6 _).trans (dX _ _ _ _ _ _ _ _ _ lR);have HZ0:=aH (Blk.new w6 29 #[.slice none 0 0,.slice none 0 0,.slice none 0 0,.slice none 0 0,.slice none 0 0,.slice none 0 0]);refine on1 11 fun K hK=>?_;go_simp;generalize w6.alloc (Obj.cells #[.slice none 0 0,.slice none 0 0,.slice none 0 0,.slice none 0 0,.slice none 0 0,.slice none 0 0] 29)=w7 at*;refine hK.out _ _ (fun h=>absurd h (by decide)) ?_;clear hK K;have hz:=hzz (.slice mna M.nodes.length mnc) (.slice msa M.switches.length msc) (.slice mba M.branches.length mbc) (.slice mga M.gens.length mgc) (.slice mla M.loads.length mlc) (.slice mta M.stores.length mtc);clear hzz;have q0:=HZ0.out.cell 0;have q1:=HZ0.out.cell 1;have q2:=HZ0.out.cell 2;have q3:=HZ0.out.cell 3;have q4:=HZ0.out.cell 4;have q5:=HZ0.out.cell 5;have f0:=HZ0.out.frozen 0;have f1:=HZ0.out.frozen 1;have f2:=HZ0.out.frozen 2;have f3:=HZ0.out.frozen 3;have f4:=HZ0.out.frozen 4;have f5:=HZ0.out.frozen 5;refine on1 12 fun K hK=>?_;go_simp;rw[←fH];clear q0 q1 q2 q3 q4 q5 f0 f1 f2 f3 f4 f5;have HZ:=aH (fY HZ0.out rfl (.slice mna M.nodes.length mnc) (.slice msa M.switches.length msc) (.slice mba M.branches.length mbc) (.slice mga M.gens.length mgc) (.slice mla M.loads.length mlc) (.slice mta M.stores.length mtc));clear HZ0;have hb:=hz;clear hz;have hbs:=HB.out.size;replace HB:=aH (HB.out.trans (hb.mono hbs));clear hbs;replace HN:=aH (HN.out.below hb);replace HG:=bL HG hb;replace HJ:=aH ((HJ.out.below hb).more hb.size);replace HF:=aH (HF.out.call hb);replace HE:=aH (HE.out.call hb);replace HIN:=aH (HIN.out.below hb);clear hb;generalize set6 w7 w6.heap.size (.slice mna M.nodes.length mnc) (.slice msa M.switches.length msc) (.slice mba M.branches.length mbc) (.slice mga M.gens.length mgc) (.slice mla M.loads.length mlc) (.slice mta M.stores.length mtc)=w8 at*;generalize w6.heap.size=gz at*;refine hK.out _ _ (fun h=>absurd h (by decide)) ?_;clear hK K;refine on1 13 fun K hK=>?_;go_simp;refine hK.out _ _ (fun h=>absurd h (by decide)) ?_;clear hK K;refine aD (by kernel_rfl) ?_ _;go_wp2_with fail;go_meet
     case rel=>
      rw[HM.out];exact⟨gz,mna,mnc,msa,msc,mba,mbc,mga,mgc,mla,mlc,mta,mtc,rfl,rfl,HIN,HZ,aH (HF.out.less (Nat.zero_le _)),HJ,HB⟩
    ·go_simp;have hz1:=aC wz (Obj.cells #[.slice none 0 0,.slice none 0 0,.slice none 0 0,.slice none 0 0,.slice none 0 0,.slice none 0 0] 29);have HZ0:=aH (Blk.new wz 29 #[.slice none 0 0,.slice none 0 0,.slice none 0 0,.slice none 0 0,.slice none 0 0,.slice none 0 0]);have HG2:=aH (HG.out.below hz1 HG.out.lt);replace HNM:=aH (aA HNM.out hz1);have HN2:=aH (HN.out.below hz1);generalize wz.alloc (Obj.cells #[.slice none 0 0,.slice none 0 0,.slice none 0 0,.slice none 0 0,.slice none 0 0,.slice none 0 0] 29)=w7 at*;refine hK.out _ _ (fun _=>⟨HG2.out.cell 0,HG2.out.cell 1,HG2.out.cell 2,HG2.out.cell 3,HG2.out.cell 4,HG2.out.cell 5,HNM.out⟩) ?_;clear hK K;have HP:=aH (tJ n ⟨vna,vnc,vsa,vsc,some ⟨bb,ob,none⟩,vbc,vga,vgc,vla,vlc,vta,vtc⟩ b.name w7 HN2.out);unfold NetV.val NetV.parts at HP;simp only at HP;refine on1 7 fun K hK=>?_;go_simp;go_at_call 30;refine HP.out.mono ?_;rintro e w6 ⟨v4,e4,hin,hb⟩;rw[HWO.out]at e4 hin;subst e4;obtain⟨mna,mnc,msa,msc,mba,mbc,mga,mgc,mla,mlc,mta,mtc⟩:=v4;unfold NetV.val NetV.parts;clear HP HNM HN2 HG2;have HZ6:=aH (HZ0.out.below hb HZ0.out.lt);have hz2:=hz1.trans (hb.mono hz1.size);clear hz1 hb HZ0;refine hK.out _ _ (fun h=>absurd h (by decide)) ?_;clear hK K;refine fP (i:=8) (oi:=_) (v:= .tuple #[.agg #[.slice mna M.nodes.length mnc,.slice msa M.switches.length msc,.slice mba M.branches.length mbc,.slice mga M.gens.length mgc,.slice mla M.loads.length mlc,.slice mta M.stores.length mtc],I 0]) rfl (by kernel_rfl) (by kernel_rfl) (by kernel_rfl) (by kernel_rfl) (fun _ _ _ h=>h) (Or.inl ⟨by rfl,?_⟩) (by kernel_rfl) ?_
     ·intro w _;go_simp
     refine fP (i:=9) (oi:=_) (v:= .agg #[.slice mna M.nodes.length mnc,.slice msa M.switches.length msc,.slice mba M.branches.length mbc,.slice mga M.gens.length mgc,.slice mla M.loads.length mlc,.slice mta M.stores.length mtc]) rfl (by kernel_rfl) (by kernel_rfl) (by kernel_rfl) (by kernel_rfl) (fun _ _ _ h=>h) (Or.inl ⟨by rfl,?_⟩) (by kernel_rfl) ?_
     ·intro w _;go_simp
     refine fP (i:=10) (oi:=_) (v:=I 0) rfl (by kernel_rfl) (by kernel_rfl) (by kernel_rfl) (by kernel_rfl) (fun _ _ _ h=>h) (Or.inl ⟨by rfl,?_⟩) (by kernel_rfl) ?_
     ·intro w _;go_simp
     have q0:=HZ6.out.cell 0;have q1:=HZ6.out.cell 1;have q2:=HZ6.out.cell 2;have q3:=HZ6.out.cell 3;have q4:=HZ6.out.cell 4;have q5:=HZ6.out.cell 5;have f0:=HZ6.out.frozen 0;have f1:=HZ6.out.frozen 1;have f2:=HZ6.out.frozen 2;have f3:=HZ6.out.frozen 3;have f4:=HZ6.out.frozen 4;have f5:=HZ6.out.frozen 5;refine on1 12 fun K hK=>?_;go_simp;rw[←fH];clear q0 q1 q2 q3 q4 q5 f0 f1 f2 f3 f4 f5;have HZ:=aH (fY HZ6.out rfl (.slice mna M.nodes.length mnc) (.slice msa M.switches.length msc) (.slice mba M.branches.length mbc) (.slice mga M.gens.length mgc) (.slice mla M.loads.length mlc) (.slice mta M.stores.length mtc));have HIN:=aH (hin.set6 HZ6.out (.slice mna M.nodes.length mnc) (.slice msa M.switches.length msc) (.slice mba M.branches.length mbc) (.slice mga M.gens.length mgc) (.slice mla M.loads.length mlc) (.slice mta M.stores.length mtc));have hb:Below wz.heap.size wz (set6 w6 wz.heap.size (.slice mna M.nodes.length mnc) (.slice msa M.switches.length msc) (.slice mba M.branches.length mbc) (.slice mga M.gens.length mgc) (.slice mla M.loads.length mlc) (.slice mta M.stores.length mtc)):=hz2.trans (dX _ _ _ _ _ _ _ _ _ lR);clear hz2 hin HZ6;have hbs:=HB.out.size;replace HB:=aH (HB.out.trans (hb.mono hbs));clear hbs;replace HN:=aH (HN.out.below hb);replace HG:=bL HG hb;replace HJ:=aH ((HJ.out.below hb).more hb.size);replace HF:=aH (HF.out.call hb);replace HE:=aH (HE.out.call hb);clear hb;generalize set6 w6 wz.heap.size (.slice mna M.nodes.length mnc) (.slice msa M.switches.length msc) (.slice mba M.branches.length mbc) (.slice mga M.gens.length mgc) (.slice mla M.loads.length mlc) (.slice mta M.stores.length mtc)=w8 at*;generalize wz.heap.size=gz at*;refine hK.out _ _ (fun h=>absurd h (by decide)) ?_;clear hK K;refine on1 13 fun K hK=>?_;go_simp;refine hK.out _ _ (fun h=>absurd h (by decide)) ?_;clear hK K;refine aD (by kernel_rfl) ?_ _;go_wp2_with fail;go_meet
     case rel=>
      rw[HM.out];exact⟨gz,mna,mnc,msa,msc,mba,mbc,mga,mgc,mla,mlc,mta,mtc,rfl,rfl,HIN,HZ,aH (HF.out.less (Nat.zero_le _)),HJ,HB⟩
   case rest=>
    obtain⟨gz,mna,mnc,msa,msc,mba,mbc,mga,mgc,mla,mlc,mta,mtc,rfl,rfl,HIN,HZ,HF2,HJ2,HB2⟩:=hcut;clear HF HE HJ HB;have HF:=HF2;have HJ:=HJ2;have HB:=HB2;clear HF2 HJ2 HB2;obtain⟨w10,rfl⟩:=wE wc;have HPS:=aH (aQr HFC.out);rw[HT.out]at HPS;have hie:i<El:=by have:=HIR.out;have:=HNB.out;omega
    skip;have hel:=HTL.out;have HLE:=aH (show(T.eraseIdx i).length=El-1 by rw[List.length_eraseIdx,if_pos (by have:=HEL.out;omega)];have:=HEL.out;omega);by_cases hlt:i<k
    ·have t1:decide ((i:Int)<(k:Int))=true:=decide_eq_true (by omega);have x0:=HZ.out.cell 0;have x1:=HZ.out.cell 1;have x2:=HZ.out.cell 2;have x3:=HZ.out.cell 3;have x4:=HZ.out.cell 4;have x5:=HZ.out.cell 5;have HC:=aH (show Calls Tryz.prog 31 #[.agg #[.slice mna (cD n i).nodes.length mnc,.slice msa (cD n i).switches.length msc,.slice mba (cD n i).branches.length mbc,.slice mga (cD n i).gens.length mgc,.slice mla (cD n i).loads.length mlc,.slice mta (cD n i).stores.length mtc],.slice A m c,I ((k:Int)-1)] w10 (fun e w'=>∃A l c,e= .returned (.tuple #[.slice A l c,I 0])∧l=(T.eraseIdx i).length∧Row w' w10.heap.size 51 1 (.slice A l c) l ((mkS ((T.eraseIdx i).map cF)).map Sv)∧Below w10.heap.size w10 w')from(wQ (cD n i) ⟨mna,mnc,msa,msc,mba,mbc,mga,mgc,mla,mlc,mta,mtc⟩ inj m A c ((k:Int)-1) w10 (aIu HIN.out HN0.out) HJ.out hm (cE HTB.out HB.out)).mono fun e w' h=>by
       have hs:=HPS.out;rw[if_pos hlt]at hs;rw[hs]at h;exact uJ h (fun c=>absurd rfl c))
     go_wp2_with fail;refine HC.out.mono ?_;rintro e w11 ⟨SA,sl,sc,rfl,hsl,hrs,hb⟩;clear HC;clear x0 x1 x2 x3 x4 x5 HIN HZ HJ;have hbs:=HB.out.size;replace HB:=aH (HB.out.trans (hb.mono hbs));clear hbs;replace HF:=aH (HF.out.call hb);clear hb;rw[HLE.out]at hsl;subst hsl;have HS:=aH hrs;clear hrs;have hb:=aC w11 (.cells #[I 0,I 0] 34);have hx:=Blk.new w11 34 #[I 0,I 0];have hbs:=HB.out.size;replace HB:=aH (HB.out.trans (hb.mono hbs));clear hbs;replace HF:=aH (HF.out.call hb);replace HS:=aH (HS.out.call hb);clear hb;have HX:=aH hx;clear hx;have HC:=aH (wA [0,0] 2 (some ⟨w11.heap.size,0,none⟩) 2 (w11.alloc (.cells #[I 0,I 0] 34)) (w11.alloc (.cells #[I 0,I 0] 34)).heap.size (bI (n:=2) (sz:=1) HX.out rfl) (by decide));rw[show kK [0,0]=true from rfl]at HC;go_wp2_with fail;refine HC.out.mono ?_;rintro e w12 ⟨rfl,rfl⟩;clear HC;clear HX;generalize(w11.alloc (.cells #[I 0,I 0] 34))=w13 at*;have HC:=aH (wT (mkS (T.map cF)) El FA Fc w13 (HF.out.reads.more lR) (by omega));go_wp2_with fail;refine HC.out.mono ?_;rintro e w14 ⟨vc,rfl,hcr,hb⟩;clear HC;clear HF;have hb0:=HB.out.size;have hcl:=hb;have hsz9:=hb.size;have HS0:=HS;have hbs:=HB.out.size;replace HB:=aH (HB.out.trans (hb.mono hbs));clear hbs;replace HS:=aH (HS.out.call hb);clear hb;have hcr2:=hcr.row;rw[show((mkS (T.map cF)).map Sv).length=El by rw[List.length_map,zZ,HEL.out]]at hcr2;obtain⟨CA,cc,rfl⟩:=hcr2.val;clear hcr;have HC:=aH (show Calls Tryz.prog 33 #[.slice CA El cc,I i,I ((i:Int)+1)] w14 (fun e w'=>e= .returned (.slice CA (El-1) cc)∧Row w' w13.heap.size 51 1 (.slice CA (El-1) cc) (El-1) ((mkS ((T.eraseIdx i).map cF)).map Sv)∧Below w13.heap.size w14 w')from by
       have h:=wW CA El cc i _ w14 w13.heap.size hcr2 (fun u hu=>by obtain⟨s,_,rfl⟩:=List.mem_map.1 hu;rfl) hie (by omega) hsz9;rw[show((i+1:Nat):Int)=(i:Int)+1 by omega,zJ]at h;exact h.mono fun e w' h=>⟨h.1,h.2.1,h.2.2.1⟩)
     go_wp2_with fail;refine HC.out.mono ?_;rintro e w15 ⟨rfl,hdr,hb⟩;clear HC;have HS:=aH (HS0.out.call (hcl.trans hb));replace HB:=aH (HB.out.trans (hb.mono hb0));clear hcl hb hb0 hsz9 HS0 hcr2;have HC:=aH (lU (mkS ((T.eraseIdx i).map cF)) (mkS ((T.eraseIdx i).map cF)) (El-1) (El-1) SA CA sc cc w15 (HS.out.reads.more lR) (hdr.reads.more lR) (by omega));rw[decide_eq_true rfl]at HC;clear hdr;go_wp2_with fail;refine HC.out.mono ?_;rintro e w16 ⟨rfl,hb⟩;clear HC;have hbs:=HB.out.size;replace HB:=aH (HB.out.trans (hb.mono hbs));clear hbs;replace HS:=aH (HS.out.call hb);clear hb;go_wp2;go_ret;exact⟨rfl,HB.out⟩
    ·have t1:decide ((i:Int)<(k:Int))=false:=decide_eq_false (by omega);have x0:=HZ.out.cell 0;have x1:=HZ.out.cell 1;have x2:=HZ.out.cell 2;have x3:=HZ.out.cell 3;have x4:=HZ.out.cell 4;have x5:=HZ.out.cell 5;have HC:=aH (show Calls Tryz.prog 31 #[.agg #[.slice mna (cD n i).nodes.length mnc,.slice msa (cD n i).switches.length msc,.slice mba (cD n i).branches.length mbc,.slice mga (cD n i).gens.length mgc,.slice mla (cD n i).loads.length mlc,.slice mta (cD n i).stores.length mtc],.slice A m c,I ((k:Int))] w10 (fun e w'=>∃A l c,e= .returned (.tuple #[.slice A l c,I 0])∧l=(T.eraseIdx i).length∧Row w' w10.heap.size 51 1 (.slice A l c) l ((mkS ((T.eraseIdx i).map cF)).map Sv)∧Below w10.heap.size w10 w')from(wQ (cD n i) ⟨mna,mnc,msa,msc,mba,mbc,mga,mgc,mla,mlc,mta,mtc⟩ inj m A c ((k:Int)) w10 (aIu HIN.out HN0.out) HJ.out hm (cE HTB.out HB.out)).mono fun e w' h=>by
       have hs:=HPS.out;rw[if_neg hlt]at hs;rw[hs]at h;exact uJ h (fun c=>absurd rfl c))
     go_wp2_with fail;refine HC.out.mono ?_;rintro e w11 ⟨SA,sl,sc,rfl,hsl,hrs,hb⟩;clear HC;clear x0 x1 x2 x3 x4 x5 HIN HZ HJ;have hbs:=HB.out.size;replace HB:=aH (HB.out.trans (hb.mono hbs));clear hbs;replace HF:=aH (HF.out.call hb);clear hb;rw[HLE.out]at hsl;subst hsl;have HS:=aH hrs;clear hrs;have hb:=aC w11 (.cells #[I 0,I 0] 34);have hx:=Blk.new w11 34 #[I 0,I 0];have hbs:=HB.out.size;replace HB:=aH (HB.out.trans (hb.mono hbs));clear hbs;replace HF:=aH (HF.out.call hb);replace HS:=aH (HS.out.call hb);clear hb;have HX:=aH hx;clear hx;have HC:=aH (wA [0,0] 2 (some ⟨w11.heap.size,0,none⟩) 2 (w11.alloc (.cells #[I 0,I 0] 34)) (w11.alloc (.cells #[I 0,I 0] 34)).heap.size (bI (n:=2) (sz:=1) HX.out rfl) (by decide));rw[show kK [0,0]=true from rfl]at HC;go_wp2_with fail;refine HC.out.mono ?_;rintro e w12 ⟨rfl,rfl⟩;clear HC;clear HX;generalize(w11.alloc (.cells #[I 0,I 0] 34))=w13 at*;have HC:=aH (wT (mkS (T.map cF)) El FA Fc w13 (HF.out.reads.more lR) (by omega));go_wp2_with fail;refine HC.out.mono ?_;rintro e w14 ⟨vc,rfl,hcr,hb⟩;clear HC;clear HF;have hb0:=HB.out.size;have hcl:=hb;have hsz9:=hb.size;have HS0:=HS;have hbs:=HB.out.size;replace HB:=aH (HB.out.trans (hb.mono hbs));clear hbs;replace HS:=aH (HS.out.call hb);clear hb;have hcr2:=hcr.row;rw[show((mkS (T.map cF)).map Sv).length=El by rw[List.length_map,zZ,HEL.out]]at hcr2;obtain⟨CA,cc,rfl⟩:=hcr2.val;clear hcr;have HC:=aH (show Calls Tryz.prog 33 #[.slice CA El cc,I i,I ((i:Int)+1)] w14 (fun e w'=>e= .returned (.slice CA (El-1) cc)∧Row w' w13.heap.size 51 1 (.slice CA (El-1) cc) (El-1) ((mkS ((T.eraseIdx i).map cF)).map Sv)∧Below w13.heap.size w14 w')from by
       have h:=wW CA El cc i _ w14 w13.heap.size hcr2 (fun u hu=>by obtain⟨s,_,rfl⟩:=List.mem_map.1 hu;rfl) hie (by omega) hsz9;rw[show((i+1:Nat):Int)=(i:Int)+1 by omega,zJ]at h;exact h.mono fun e w' h=>⟨h.1,h.2.1,h.2.2.1⟩)
     go_wp2_with fail;refine HC.out.mono ?_;rintro e w15 ⟨rfl,hdr,hb⟩;clear HC;have HS:=aH (HS0.out.call (hcl.trans hb));replace HB:=aH (HB.out.trans (hb.mono hb0));clear hcl hb hb0 hsz9 HS0 hcr2;have HC:=aH (lU (mkS ((T.eraseIdx i).map cF)) (mkS ((T.eraseIdx i).map cF)) (El-1) (El-1) SA CA sc cc w15 (HS.out.reads.more lR) (hdr.reads.more lR) (by omega));rw[decide_eq_true rfl]at HC;clear hdr;go_wp2_with fail;refine HC.out.mono ?_;rintro e w16 ⟨rfl,hb⟩;clear HC;have hbs:=HB.out.size;replace HB:=aH (HB.out.trans (hb.mono hbs));clear hbs;replace HS:=aH (HS.out.call hb);clear hb;go_wp2;go_ret;exact⟨rfl,HB.out⟩
theorem tQ(n:NetD)(v:NetV)(inj:List Int)(A:Option Addr)(c:Nat)(i k:Int)(w:World)(hN:Net w n v)(hj:Reads w w.heap.size 1 A inj.length (inj.map I))(hm:inj.length≤9223372036854775807)(_hi:-9223372036854775808≤i∧i≤9223372036854775807)(_hk:-9223372036854775808≤k∧k≤9223372036854775807)(htab:Tab w):Calls Tryz.prog 5 #[v.val n,.slice A inj.length c,I i,I k] w fun e w'=>e= .returned (.bool true)∧Below w.heap.size w w':=tP n v inj inj.length A c i k w hN hj hm htab
end
section
open Go.ChangeShapes Go.WideShapes Go.ChangeAt Go.RowKit Go.ChangeMaps
theorem sW(os:Os)(args:Array Value):laidMetH Tryz.prog Rows.doubleTurnsRow.laid ((World.doorLaid Tryz.prog 62 os).forCall (fun _ _=>0) ⟨#[],args,[]⟩).memory:=laidMetH_of_parts3 (fuel:=8) (laidMet_of_run' 8 (by kernel_rfl) (by kernel_rfl)) (by kernel_rfl) (by kernel_rfl)
set_option linter.unusedVariables false in
theorem qE(os:Os)(started:os.Started)(H:Type)(enc:TypeId×Value→H): ReturnsInHanded {} Tryz.checked os 5 .any (fun w args=>(Rows.doubleTurnsSpec.pre enc Tryz.prog Tryz.f5 [] false w args∧laidMetH Tryz.prog Rows.doubleTurnsRow.laid w)∧sizedMet enc Tryz.prog Tryz.f5 (OpenSpec.ofChange Rows.doubleTurnsSpec) false w args) (Rows.doubleTurnsSpec.post enc Tryz.prog Tryz.f5 false true false false):=by
 refine returnsInHanded_of_change_and (C:=Tryz.checked) (X:=fun w _=>laidMetH Tryz.prog Rows.doubleTurnsRow.laid w) (fun _ _ _ hh h=>h.of_heap hh) own started (by kernel_rfl) Tryz.func5 (ChangeSpec.witness_shaped (enc:=enc) (C:=Tryz.checked) (os:=os) (X:=fun w _=>laidMetH Tryz.prog Rows.doubleTurnsRow.laid w) false (World.doorLaid Tryz.prog 62 os) #[.agg #[.slice none 0 0,.slice none 0 0,.slice none 0 0,.slice none 0 0,.slice none 0 0,.slice none 0 0],.slice none 0 0,.int .i64 0,.int .i64 0] 8 rfl (World.shaped_of_RefB (by kernel_rfl) (by kernel_rfl)) (by kernel_rfl) (by kernel_rfl) (by kernel_rfl) (sW os _)) ?_
 intro W base args ds gs before hval0 hW _ _ hL _;have hval:∀(j:Nat) t v,Tryz.f5.params[j]?=some t→args[j]?=some v→Value.okWide Tryz.prog W .any base t v:=hval0;have hW':=hW;obtain⟨p,q,hA0,hV,rfl,hfz,hnd⟩:=hW;have hA:DataW.TrodAll enc Tryz.prog W 0 (fun _=>true) true Tryz.f5.params.toList args.toList ds p:=hA0;rw[Tryz.params5]at hA hval;obtain⟨v0,vs0,d0,ds0,p0,q0,hargs,rfl,rfl,h0,r0⟩:=trodAll_cons hA;obtain⟨v1,vs1,d1,ds1,p1,q1,rfl,rfl,rfl,h1,r1⟩:=trodAll_cons r0;obtain⟨v2,vs2,d2,ds2,p2,q2,rfl,rfl,rfl,h2,r2⟩:=trodAll_cons r1;obtain⟨v3,vs3,d3,ds3,p3,q3,rfl,rfl,rfl,h3,r3⟩:=trodAll_cons r2;obtain⟨rfl,rfl,rfl⟩:=trodAll_nil r3;obtain rfl:args=#[v0,v1,v2,v3]:=by cases args;simp_all
 obtain⟨rfl,rfl⟩:=trodVars_none hV;have k0:=h0;have lt0:∀x∈p0,x.block<W.heap.size:=by obtain⟨m,hm⟩:=k0;exact DataW.trod_lt m _ _ _ hm
 obtain⟨n0,nv0,rfl,hn0⟩:=aMc (hval 0 29 v0 rfl rfl) h0;have k1:=h1;have lt1:∀x∈p1,x.block<W.heap.size:=by obtain⟨m,hm⟩:=k1;exact DataW.trod_lt m _ _ _ hm
 obtain⟨a1,len1,cap1,rfl⟩:=okWide_slice Tryz.underlying31 (hval 1 31 v1 rfl rfl);obtain⟨fu1,ho1⟩:=h1;obtain⟨m1,A1,c1,e1,hm1,hl1⟩:=aJc Tryz.underlying31 (u:= .slice a1 len1 cap1) ho1;injection e1 with ea1 eb1 ec1;subst ea1 eb1 ec1;obtain⟨s2,rfl,rfl,rfl,ws2⟩:=open_int Tryz.underlying3 (hval 2 3 v2 rfl rfl) h2;obtain⟨s3,rfl,rfl,rfl,ws3⟩:=open_int Tryz.underlying3 (hval 3 3 v3 rfl rfl) h3;clear hA0 hval0;refine(tQ n0 nv0 m1 _ _ s2 s3 W hn0 hm1 hl1 (aBq ws2) (aBq ws3) (tab_of_laid3 hL)).mono fun e W' ⟨he,bel⟩=>?_;subst he;exact⟨_,rfl,_,_,_,[],_,[],hW',trodAll_mk1 (shut_bool Tryz.underlying4 _),(trodAll_cons_mk (Below.trod aGy (by kernel_rfl) (of_decide_eq_true (by kernel_rfl)) k0 bel lt0) (trodAll_cons_mk (Below.trod aGy (by kernel_rfl) (of_decide_eq_true (by kernel_rfl)) k1 bel lt1) (trodAll_cons_mk (shut_int Tryz.underlying3 ws2) (trodAll_cons_mk (shut_int Tryz.underlying3 ws3) trodAll_mk0)))),rfl,bel.frame _,fun h=>by cases h⟩
end
end Go.Proofs.YtenbglfkdldheaaGreatDoor
