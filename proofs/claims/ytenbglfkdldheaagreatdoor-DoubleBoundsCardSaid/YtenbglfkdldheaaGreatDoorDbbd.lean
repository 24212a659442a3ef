/- A network without two branches: its flows by those of the whole network. Plain facts. The outage of two branches is that of one after the other. Plain facts. No branch carries more than its bound after the outage of two branches. Plain facts. DoubleBounds: the walk. DoubleBounds returns true for every input: no branch carries more than its bound after the outage of two branches. No conditions. The row's listed variables hold what the program's text lays (the card ties them). -/
import Derived.Test.YtenbglfkdldheaaGreatDoorYXH
import Derived.Test.YtenbglfkdldheaaGreatDoorYDR
import Derived.ShutString
import Derived.ChangeMaps5
set_option maxRecDepth 100000
set_option maxHeartbeats 20000000
namespace Go.Proofs.YtenbglfkdldheaaGreatDoor
section
theorem outE_erase(x:Nat→Rat)(v:Nat):∀(es:List kB) (k:Nat) (e:kB),es[k]?=some e→ lN x v es=lN x v (es.eraseIdx k)+((if e.1=v then e.2.2*(x e.1-x e.2.1)else 0)+(if e.2.1=v then e.2.2*(x e.2.1-x e.1)else 0))
 |[],k,e,h=>by simp at h
 |c::es,0,e,h=>by
  obtain rfl:c=e:=by simpa using h
  rw[lN,List.eraseIdx_cons_zero];grind
 |c::es,k+1,e,h=>by
  rw[lN,List.eraseIdx_cons_succ,lN,outE_erase x v es k e (by simpa using h)];grind
def bE(n:NetD)(a b:Nat):NetD:=fD (fD n b) a
theorem aHg{n:NetD}(hc:bI n=0){a b:Nat}(hab:a<b)(hb:b<n.branches.length)(ha1:at_ (aB (bE n a b)) ((aW n).getD a 0)=at_ (aB (bE n a b)) ((toL n).getD a 0)) (hb1:at_ (aB (bE n a b)) ((aW n).getD b 0)=at_ (aB (bE n a b)) ((toL n).getD b 0)):aB (bE n a b)=aB n∧aB (fD n b)=aB n:=by
 have hcl:=vX hb;have hbr:(fD n b).branches[a]?=n.branches[a]?:=by
  show(n.branches.eraseIdx b)[a]?=_;rw[List.getElem?_eraseIdx,if_pos hab]
 have hg:∀g:BranchD→ByteArray,((fD n b).branches.map fun x=>aK n (g x)).getD a 0=(n.branches.map fun x=>aK n (g x)).getD a 0:=fun g=>by
  rw[gD,List.getElem?_map,hbr,gD,List.getElem?_map]
 have h1:=aDf (eJ hc b) (k:=a) (by omega) (by
  show at_ (aB (bE n a b)) (((fD n b).branches.map fun x=>aK n x.src).getD a 0)=at_ (aB (bE n a b)) (((fD n b).branches.map fun x=>aK n x.dst).getD a 0);rw[hg BranchD.src,hg BranchD.dst];exact ha1)
 change aB (bE n a b)=_ at h1;rw[h1]at hb1;have h2:=aDf hc hb hb1;exact⟨h1.trans h2,h2⟩
section
variable {n:NetD} {a b:Nat} {ba bb:BranchD}
theorem aMi(hab:a<b)(ha:n.branches[a]?=some ba):(n.branches.eraseIdx b)[a]?=some ba:=by
 rw[List.getElem?_eraseIdx,if_pos hab];exact ha
def grB(n:NetD)(b:BranchD):List Rat:=gr0 (aK n b.src).toNat (aK n b.dst).toNat (nbN n)
theorem vZ(n:NetD)(b:BranchD):(grB n b).length=nbN n:=aMa _ _ _
theorem aDm(hV:VNet n)(h:ba∈n.branches){v:Nat}(hv:v<nbN n):(grB n ba).getD v 0=(if(aK n ba.src).toNat=v then 1 else 0)-(if(aK n ba.dst).toNat=v then 1 else 0):=by
 obtain⟨h1,h2⟩:=aUv hV h;exact aUr hv h1 h2
theorem aYq(n:NetD){r p q:List Rat}(hr:r.length=nbN n)(hp:p.length=nbN n)(hq:q.length=nbN n)(x y:Rat)(v:Nat): (thN n (shN n (dI (dI r (gM x p)) (gM y q)))).getD v 0=(thN n (shN n r)).getD v 0+x*(thN n p).getD v 0+y*(thN n q).getD v 0:=by
 have l1:r.length=(gM x p).length:=by rw[gM,List.length_map];omega
 have l2:(dI r (gM x p)).length=(gM y q).length:=by rw[addQ1_len l1,gM,List.length_map];omega
 have hz:(aGw n).length=nbN n:=by simp[aGw]
 have e1:=aBa (n:=n) (r:=dI (dI r (gM x p)) (gM y q)) (by rw[addQ1_len l2,addQ1_len l1];exact hr);have e2:=aBa (n:=n) (r:=r) hr;have hs:(shN n (aGw n)).length=nbN n:=by rw[aYd];exact hz
 rw[e1,e2,vP (by rw[addQ1_len l2,addQ1_len l1];omega),vP l2,vP l1,vP (by omega),aMb,aMb];rw[dJ (by rw[addQ1_len (by rw[addQ1_len (by rw[cX,gM,List.length_map,cX]),cX,gM,List.length_map,cX]),addQ1_len (by rw[cX,gM,List.length_map,cX]),cX,cX]),dJ (by rw[addQ1_len (by rw[cX,gM,List.length_map,cX]),cX,gM,List.length_map,cX]),dJ (by rw[cX,gM,List.length_map,cX]),dJ (by rw[cX,cX]),kZ,kZ]
 grind
theorem aYr(hc:bI n=0)(hab:a<b)(ha:n.branches[a]?=some ba)(hb:n.branches[b]?=some bb)(hi:aB (bE n a b)=aB n){r:List Rat}(hr:r.length=nbN n)(v:Nat): (thN (bE n a b) (shN (bE n a b) r)).getD v 0=(thN n (shN n r)).getD v 0+flB n (fun u=>(thN (bE n a b) (shN (bE n a b) r)).getD u 0) ba*(thN n (grB n ba)).getD v 0+flB n (fun u=>(thN (bE n a b) (shN (bE n a b) r)).getD u 0) bb*(thN n (grB n bb)).getD v 0:=by
 have hV:=lD hc;have hW:VNet (bE n a b):=lD (eJ (eJ hc b) a);have hnb:nbN (bE n a b)=nbN n:=by unfold nbN;rw[hi]
 have hfr:aE (bE n a b)=aE n:=by unfold aE;rw[hi]
 generalize hx:flB n (fun u=>(thN (bE n a b) (shN (bE n a b) r)).getD u 0) ba=x;generalize hy:flB n (fun u=>(thN (bE n a b) (shN (bE n a b) r)).getD u 0) bb=y;rw[←aYq n hr (vZ n ba) (vZ n bb)];have l1:r.length=(gM x (grB n ba)).length:=by rw[gM,List.length_map,vZ];exact hr
 have l2:(dI r (gM x (grB n ba))).length=(gM y (grB n bb)).length:=by rw[addQ1_len l1,gM,List.length_map,vZ];exact hr
 refine aYe hV (r:=dI (dI r (gM x (grB n ba))) (gM y (grB n bb))) (x:=fun v=>(thN (bE n a b) (shN (bE n a b) r)).getD v 0) (by rw[addQ1_len l2,addQ1_len l1];exact hr) (fun v hv=>?_) (fun v hv=>?_) v
 ·exact wU (bE n a b) _ (by rw[hfr];exact hv)
 ·have h1:=bAz hW (r:=r) (by rw[hnb];exact hr) (v:=v) (by rw[hfr];exact hv);rw[bE,aJp,aJp,show(fD (fD n b) a).branches=(n.branches.eraseIdx b).eraseIdx a from rfl,←bE]at h1;rw[yK n _ v n.branches b bb hb,yK n _ v (n.branches.eraseIdx b) a ba (aMi hab ha),h1,dJ l2,dJ l1,kZ,kZ,aDm hV (List.mem_of_getElem? ha) (pX hv),aDm hV (List.mem_of_getElem? hb) (pX hv),hx,hy];grind
theorem aYs(hc:bI n=0)(hab:a<b)(ha:n.branches[a]?=some ba)(hb:n.branches[b]?=some bb)(hi:aB (bE n a b)=aB n){r:List Rat}(hr:r.length=nbN n)(d:BranchD): flB n (fun u=>(thN (bE n a b) (shN (bE n a b) r)).getD u 0) d=flB n (fun u=>(thN n (shN n r)).getD u 0) d+flB n (fun u=>(thN (bE n a b) (shN (bE n a b) r)).getD u 0) ba*(bQ d*((thN n (grB n ba)).getD (aK n d.src).toNat 0-(thN n (grB n ba)).getD (aK n d.dst).toNat 0)) +flB n (fun u=>(thN (bE n a b) (shN (bE n a b) r)).getD u 0) bb*(bQ d*((thN n (grB n bb)).getD (aK n d.src).toNat 0-(thN n (grB n bb)).getD (aK n d.dst).toNat 0)):=by
 have h:=aYr hc hab ha hb hi hr;have h1:=h (aK n d.src).toNat;have h2:=h (aK n d.dst).toNat;generalize hx:flB n (fun u=>(thN (bE n a b) (shN (bE n a b) r)).getD u 0) ba=x at*;generalize hy:flB n (fun u=>(thN (bE n a b) (shN (bE n a b) r)).getD u 0) bb=y at*;unfold flB;simp only;rw[h1,h2];grind
theorem aVh(hc:bI n=0)(hab:a<b)(ha:n.branches[a]?=some ba)(hb:n.branches[b]?=some bb)(hi:aB (bE n a b)=aB n){x y:Rat} (hx:x*(bQ ba*((thN n (grB n ba)).getD (aK n ba.src).toNat 0-(thN n (grB n ba)).getD (aK n ba.dst).toNat 0))+y*(bQ ba*((thN n (grB n bb)).getD (aK n ba.src).toNat 0-(thN n (grB n bb)).getD (aK n ba.dst).toNat 0))=x)
  (hy:x*(bQ bb*((thN n (grB n ba)).getD (aK n bb.src).toNat 0-(thN n (grB n ba)).getD (aK n bb.dst).toNat 0))+y*(bQ bb*((thN n (grB n bb)).getD (aK n bb.src).toNat 0-(thN n (grB n bb)).getD (aK n bb.dst).toNat 0))=y):x=0∧y=0:=by
 have hV:=lD hc;have hW:VNet (bE n a b):=lD (eJ (eJ hc b) a);have hfr:aE (bE n a b)=aE n:=by unfold aE;rw[hi]
 have key:∀v,x*(thN n (grB n ba)).getD v 0+y*(thN n (grB n bb)).getD v 0=0:=fun v=>by
  have h:=aKr hW (r:=[]) (x:=fun v=>x*(thN n (grB n ba)).getD v 0+y*(thN n (grB n bb)).getD v 0) (fun v hv=>?_) (fun v hv=>?_) v
  ·rw[show x*(thN n (grB n ba)).getD v 0+y*(thN n (grB n bb)).getD v 0=(thN (bE n a b) []).getD v 0 from h,bAx];exact fA _ fun j _=>Rat.mul_zero _
  ·rw[hfr]at hv;show x*_+y*_=0;rw[wU n _ hv,wU n _ hv];grind
  ·rw[hfr]at hv;have h1:=aIb hV (grB n ba) hv;have h2:=aIb hV (grB n bb) hv;rw[aDm hV (List.mem_of_getElem? ha) (pX hv)]at h1;rw[aDm hV (List.mem_of_getElem? hb) (pX hv)]at h2;have h3:=aEd x y (fun u=>(thN n (grB n ba)).getD u 0) (fun u=>(thN n (grB n bb)).getD u 0) v (esN n);rw[h1,h2,aDe,outE_erase _ v (n.branches.map (qN n)) b (qN n bb) (by rw[List.getElem?_map,hb];rfl),←uA,outE_erase _ v ((n.branches.eraseIdx b).map (qN n)) a (qN n ba) (by rw[List.getElem?_map,aMi hab ha];rfl),←uA]at h3
   rw[aDe];change lN _ v (((n.branches.eraseIdx b).eraseIdx a).map (qN n))=([]:List Rat).getD v 0;simp only[qN]at h3⊢;show _=(0:Rat);grind
 have k1:=key (aK n ba.src).toNat;have k2:=key (aK n ba.dst).toNat;have k3:=key (aK n bb.src).toNat;have k4:=key (aK n bb.dst).toNat;constructor
 ·rw[←hx];grind
 ·rw[←hy];grind
end
end
section
open Go.RowKit
theorem aHh{α:Type}(f:α→ByteArray)(x:ByteArray):∀(l:List α) (i:Nat),x∉l.map f→mG f x l i=-1
 |[],_,_=>rfl
 |a::l,i,h=>by
  rw[List.map_cons,List.mem_cons,not_or]at h;rw[mG,if_neg (fun e=>h.1 e.symm),aHh f x l (i+1) h.2]
theorem aHi{α:Type}(f:α→ByteArray):∀{l:List α} (k j:Nat) {a:α},(l.map f).Nodup→l[k]?=some a→mG f (f a) l j=((j+k:Nat):Int)
 |[],_,_,_,_,h=>by simp at h
 |c::l,0,j,a,_,h=>by
  obtain rfl:c=a:=by simpa using h
  rw[mG,if_pos rfl];rfl
 |c::l,k+1,j,a,hn,h=>by
  rw[List.map_cons,List.nodup_cons]at hn;have hk:l[k]?=some a:=by simpa using h
  rw[mG,if_neg (fun e=>hn.1 (by rw[e];exact List.mem_map.2 ⟨a,List.mem_of_getElem? hk,rfl⟩)),aHi f k (j+1) hn.2 hk];omega
theorem bBl{n:NetD}(hc:bI n=0){k:Nat}{b:BranchD}(hb:n.branches[k]?=some b):yI n b.name=(fD n k,0):=by
 have hnd:=(lD hc).nodup;have hit:n.items.map (·.1)=n.nodes++(n.switches.map SwitchD.name++(n.branches.map BranchD.name++(n.gens.map GenD.name++(n.loads.map LoadD.name++n.stores.map StoreD.name)))):=by
  unfold NetD.items;simp only[List.map_append,List.map_map];rw[show n.nodes.map ((fun x:ByteArray×List ByteArray×Bool=>x.1) ∘fun s=>(s,[],true))=n.nodes from List.map_id _];rfl
 rw[hit]at hnd;obtain⟨_,h2,h3⟩:=List.nodup_append.1 hnd;obtain⟨_,h4,h5⟩:=List.nodup_append.1 h2;obtain⟨h6,_,_⟩:=List.nodup_append.1 h4;have hbm:b.name∈n.branches.map BranchD.name:=List.mem_map.2 ⟨b,List.mem_of_getElem? hb,rfl⟩;have g0:¬0≤Lib.idxOfS n.nodes b.name:=fun k=>absurd rfl (h3 _ ((Lib.idxOfS_nonneg_iff _ _).1 k) _ (List.mem_append_right _ (List.mem_append_left _ hbm)));have g1:mG SwitchD.name b.name n.switches 0=-1:=aHh _ _ _ _ fun k=>absurd rfl (h5 _ k _ (List.mem_append_left _ hbm));have g2:mG BranchD.name b.name n.branches 0=(k:Int):=by rw[aHi BranchD.name k 0 h6 hb,Nat.zero_add]
 have hf:aGq n b.name=(nF,(k:Int)):=by
  rw[aGq,g1,g2,aZf,if_neg g0,if_neg (by decide),if_pos (by omega)];rfl
 have hF:uX n b.name=(nF,(k:Int),0):=by
  rw[uX,if_pos hc,hf];exact if_neg (by simp only;omega)
 rw[yY n b.name nF k hF (by decide)];rfl
theorem aYt{n m:NetD}{inj:List Int}(hn:m.nodes=n.nodes)(hb:aF m=aF n)(hi:aB m=aB n)(hc:bI m=0)(h:bD n inj=0):bD m inj=0:=by
 have hk:dN m=dN n:=by
  unfold dN nJ;rw[hn,hb,hi]
 have h0:=(gI h).1;unfold bD at h⊢;rw[if_neg (fun k=>k h0)]at h;rw[if_neg (fun k=>k hc),hk,hn];exact h
theorem aPr(l:List Rat){k:Nat}(hk:k≤l.length)(x:Rat):(kR l k x).eraseIdx k=l:=by
 unfold kR;rw[List.eraseIdx_append_of_length_le (by rw[List.length_take];omega),List.length_take,Nat.min_eq_left hk,Nat.sub_self,List.eraseIdx_cons_zero,List.take_append_drop]
theorem aJu(l:List Rat)(i j:Nat):(l.eraseIdx i).getD j 0=if j<i then l.getD j 0 else l.getD (j+1) 0:=by
 rw[gD,List.getElem?_eraseIdx];split<;>rw[gD]
theorem aJv(l:List Rat){a b:Nat}(hab:a<b)(hb:b≤l.length+1)(x y:Rat):(kR (kR l a x) b y).eraseIdx a=kR l (b-1) y:=by
 have l1:=pY (l:=l) (k:=a) (by omega) x;have l2:=pY (l:=kR l a x) (k:=b) (by omega) y;have l3:=pY (l:=l) (k:=b-1) (by omega) y;refine kE (by rw[List.length_eraseIdx_of_lt (by omega)];omega) fun j hj=>?_;have e1:=fun j=>uB (l:=kR l a x) (k:=b) (by omega) y j;have e2:=fun j=>uB (l:=l) (k:=a) (by omega) x j;have e3:=fun j=>uB (l:=l) (k:=b-1) (by omega) y j;rw[aJu,e3];by_cases h1:j<a
 ·rw[if_pos h1,e1 j,if_pos (by omega),e2 j,if_pos h1,if_pos (by omega)]
 ·rw[if_neg h1,e1 (j+1)];by_cases h2:j+1<b
  ·rw[if_pos h2,e2 (j+1),if_neg (by omega),if_neg (by omega),if_pos (by omega),Nat.add_sub_cancel]
  ·rw[if_neg h2];by_cases h3:j+1=b
   ·rw[if_pos h3,if_neg (by omega),if_pos (by omega)]
   ·rw[if_neg h3,Nat.add_sub_cancel,e2 j,if_neg h1,if_neg (by omega),if_neg (by omega),if_neg (by omega)]
theorem yO{α:Type}:∀(l:List α) (a b:Nat),a<b→(l.eraseIdx a).eraseIdx (b-1)=(l.eraseIdx b).eraseIdx a
 |[],_,_,_=>rfl
 |c::l,0,b+1,_=>rfl
 |c::l,a+1,b+1,h=>by
  obtain⟨d,rfl⟩:∃d,b=d+1:=⟨b-1,by omega⟩;have ih:=yO l a (d+1) (by omega);rw[Nat.add_sub_cancel]at ih;show c::(l.eraseIdx a).eraseIdx d=c::(l.eraseIdx (d+1)).eraseIdx a;rw[ih]
theorem aVi(n:NetD){a b:Nat}(h:a<b):fD (fD n a) (b-1)=bE n a b:=by
 unfold bE fD;simp only[yO n.branches a b h]
theorem aBd(n:NetD)(g:NetD→BranchD→Int)(hg:∀k,g (fD n k)=g n)(i j:Nat):((fD n i).branches.map (g (fD n i))).getD j 0=if j<i then(n.branches.map (g n)).getD j 0 else(n.branches.map (g n)).getD (j+1) 0:=by
 rw[hg];show((n.branches.eraseIdx i).map _).getD j 0=_;rw[gD,List.getElem?_map,List.getElem?_eraseIdx];split<;>rw[gD,List.getElem?_map]
theorem aMj(n:NetD)(i j:Nat):(aW (fD n i)).getD j 0=if j<i then(aW n).getD j 0 else(aW n).getD (j+1) 0:=aBd n (fun n b=>aK n b.src) (fun _=>rfl) i j
theorem aVj(n:NetD)(i j:Nat):(toL (fD n i)).getD j 0=if j<i then(toL n).getD j 0 else(toL n).getD (j+1) 0:=aBd n (fun n b=>aK n b.dst) (fun _=>rfl) i j
theorem aZj{n:NetD}{inj:List Int}{i k:Nat}(h:fV n inj i k=0)(hf:(cN n inj (eK i k)).all cG=true):bBb (fD n i) inj (if i<k then(k:Int)-1 else k)=((cN n inj (eK i k)).eraseIdx i,0):=by
 obtain⟨hc,_,hi,_,hk,hne,hg⟩:=uF h;have hck:=(gI hc).1;have hi':i<n.branches.length:=by omega
 have hk':k<n.branches.length:=by omega
 have hne':i≠k:=by omega
 obtain⟨a,b,hab,hbn,hgd,hcase⟩:∃a b:Nat,a<b∧b<n.branches.length∧eK i k=[a,b]∧((i=a∧k=b)∨(i=b∧k=a)):=by
  by_cases hlt:i<k
  ·exact⟨i,k,hlt,hk',by unfold eK;rw[show(min (i:Int) k)=i by omega,show(max (i:Int) k)=k by omega,Int.toNat_natCast,Int.toNat_natCast],.inl ⟨rfl,rfl⟩⟩
  ·exact⟨k,i,by omega,hi',by unfold eK;rw[show(min (i:Int) k)=k by omega,show(max (i:Int) k)=i by omega,Int.toNat_natCast,Int.toNat_natCast],.inr ⟨rfl,rfl⟩⟩
 rw[hgd]at hg hf⊢;have hL:cV n [a,b]=bE n a b:=rfl;unfold pA aGx at hg;rw[hL]at hg;simp only[List.all_cons,List.all_nil,Bool.and_true,Bool.and_eq_true,decide_eq_true_eq]at hg;obtain⟨ha1,hb1⟩:=hg;obtain⟨i1,i2⟩:=aHg hck hab hbn ha1 hb1;have hll:(eL (bE n a b) inj).length+2=n.branches.length:=by
  rw[kD];have:=mK (nH hab hbn);rw[hL]at this;simpa using this
 have hQ:cN n inj [a,b]=kR (kR (eL (bE n a b) inj) a 0) b 0:=rfl;have key:∀(at_:Nat) (m:NetD),fD n i=m→fD m at_=bE n a b→aB m=aB n→at_<m.branches.length→(aW m).getD at_ 0=(aW n).getD k 0→(toL m).getD at_ 0=(toL n).getD k 0→ (cN n inj [a,b]).eraseIdx i=kR (eL (bE n a b) inj) at_ 0→bBb m inj at_=((cN n inj [a,b]).eraseIdx i,0):=by
  intro t m hm h1 h2 h3 h4 h5 h6;have hcm:bI m=0:=by rw[←hm];exact eJ hck i
  have hfm:bD m inj=0:=aYt (by rw[←hm];rfl) (by rw[←hm];rfl) h2 hcm hc;have hl:cN m inj [t]=(cN n inj [a,b]).eraseIdx i:=by
   rw[h6];show kR (eL (fD m t) inj) t 0=_;rw[h1]
  have hg2:pA m [t]=true:=by
   unfold pA aGx;rw[show cV m [t]=fD m t from rfl,h1,List.all_cons,List.all_nil,Bool.and_true,h4,h5];refine decide_eq_true ?_;rcases hcase with⟨_,e⟩|⟨_,e⟩
   ·rw[e];exact hb1
   ·rw[e];exact ha1
  unfold bBb;rw[if_neg (fun c=>c hfm),if_neg (by omega),Int.toNat_natCast,if_neg (by rw[hg2];decide),hl,if_pos (List.all_eq_true.2 fun x hx=>List.all_eq_true.1 hf x (List.mem_of_mem_eraseIdx hx))]
 rcases hcase with⟨rfl,rfl⟩|⟨rfl,rfl⟩
 ·rw[if_pos hab,show((k:Int)-1)=((k-1:Nat):Int) by omega];have hcl:=vX hi';have hs:=aVi n hab;have e3:(aW (fD n i)).getD (k-1) 0=(aW n).getD k 0:=by rw[aMj,if_neg (by omega),show k-1+1=k by omega]
  have e4:(toL (fD n i)).getD (k-1) 0=(toL n).getD k 0:=by rw[aVj,if_neg (by omega),show k-1+1=k by omega]
  have hii:aB (fD n i)=aB n:=by
   have h9:=aDf (eJ hck i) (k:=k-1) (by omega) (by rw[hs,e3,e4];exact hb1);rw[hs]at h9;exact h9.symm.trans i1
  exact key (k-1) _ rfl hs hii (by omega) e3 e4 (by rw[hQ];exact aJv _ hab (by omega) 0 0)
 ·rw[if_neg (by omega)];have hcl:=vX hi';exact key k _ rfl rfl i2 (by omega) (by rw[aMj,if_pos hab]) (by rw[aVj,if_pos hab]) (by rw[hQ];exact aPr _ (by rw[pY (by omega)];omega) 0)
theorem aBe{a b c d e f x y:Rat}(h1:a*x+b*y=e)(h2:c*x+d*y=f)(hreg:∀u v,a*u+b*v=0→c*u+d*v=0→u=0∧v=0):tX [[a,b],[c,d]] [e,f] 2=([x,y],1):=by
 have hm:=aDk a b c d;have hsm:∀(z:Nat→Rat),(sm 2 fun k=>at2 [[a,b],[c,d]] 0 k*z k)=a*z 0+b*z 1∧(sm 2 fun k=>at2 [[a,b],[c,d]] 1 k*z k)=c*z 0+d*z 1:=fun z=>by
  constructor
  ·show 0+a*z 0+b*z 1=_;grind
  ·show 0+c*z 0+d*z 1=_;grind
 have hd:det 2 (at2 [[a,b],[c,d]])≠0:=fun h0=>by
  obtain⟨z,hz,i,hi,hne⟩:=null_of_det hm h0;have k0:=hz 0 (by decide);have k1:=hz 1 (by decide);rw[(hsm z).1]at k0;rw[(hsm z).2]at k1;obtain⟨g0,g1⟩:=hreg _ _ k0 k1;match i,hi with
  |0,_=>exact hne g0
  |1,_=>exact hne g1
 obtain⟨π,δ,ε,hI⟩:=(dU hm 2).inv;have hl:(aX [[a,b],[c,d]] 2).2.length=2:=hI.full (γ:=fun j=>j) (fun j hj=>hj) hd;have hle:(aX (cZ [[a,b],[c,d]] [e,f]) 2).2.length=2:=by rw[aUh hm];exact hl
 have hR:=(dU (jZ hm [e,f]) 2).rect;have hA:=hR.1;have hz:¬nzAt 2 ((aX (cZ [[a,b],[c,d]] [e,f]) 2).1.drop 2) 2<(aX (cZ [[a,b],[c,d]] [e,f]) 2).1.length:=by
  rw[List.drop_of_length_le (by omega),hA];exact Nat.lt_irrefl 2
 have hs:=aJc hm hle hz;have k0:=hs 0 (by decide);have k1:=hs 1 (by decide);rw[(hsm fun j=>at2 (aX (cZ [[a,b],[c,d]] [e,f]) 2).1 j 2).1]at k0;rw[(hsm fun j=>at2 (aX (cZ [[a,b],[c,d]] [e,f]) 2).1 j 2).2]at k1;have e3:tX [[a,b],[c,d]] [e,f] 2=(((aX (cZ [[a,b],[c,d]] [e,f]) 2).1.take 2).map (fun r=>r.getD 2 0),1):=by
  unfold tX;simp only;rw[hle,if_neg hz,if_neg (by omega)]
 rw[e3];clear e3 hs hz hle hR hI hl hd hsm;obtain⟨r,s,hrs⟩:=aMh hA;rw[hrs]at k0 k1⊢;change a*r.getD 2 0+b*s.getD 2 0=e at k0;change c*r.getD 2 0+d*s.getD 2 0=f at k1;obtain⟨g0,g1⟩:=hreg (r.getD 2 0-x) (s.getD 2 0-y) (by grind) (by grind);have e0:r.getD 2 0=x:=by grind
 have e1:s.getD 2 0=y:=by grind
 show([r.getD 2 0,s.getD 2 0],1)=_;rw[e0,e1]
theorem aVk{n:NetD}{inj:List Int}{a b:Nat}(hab:a<b)(hb:b<n.branches.length)(hi:aB (bE n a b)=aB n){l:Nat}{d:BranchD}(hd:n.branches[l]?=some d): (cN n inj [a,b]).getD l 0=if l=a∨l=b then 0 else flB n (fun u=>(thN (bE n a b) (shN (bE n a b) (smN n inj))).getD u 0) d:=by
 have hQ:cN n inj [a,b]=kR (kR (eL (bE n a b) inj) a 0) b 0:=rfl;have hll:(eL (bE n a b) inj).length+2=n.branches.length:=by
  rw[kD];have:=mK (nH hab hb);rw[show cV n [a,b]=bE n a b from rfl]at this;simpa using this
 have hsm:smN (bE n a b) inj=smN n inj:=by
  show smQ (aF n) inj (nbN (bE n a b)) n.nodes.length=_;rw[show nbN (bE n a b)=nbN n by unfold nbN;rw[hi]];rfl
 have hG:∀(i:Nat) (x:BranchD),(bE n a b).branches[i]?=some x→(eL (bE n a b) inj).getD i 0=flB n (fun u=>(thN (bE n a b) (shN (bE n a b) (smN n inj))).getD u 0) x:=fun i x h=>by
  have:=aJq (n:=bE n a b) (aHx (bE n a b) (smN (bE n a b) inj)) h;rw[hsm]at this;rw[eL,bBu,hsm];exact this
 have h2:l≠b→l≠a→∀i,i=(if l<b then(if l<a then l else l-1)else l-2)→(bE n a b).branches[i]?=some d:=fun e1 e2 i e=>by
  have c1:=aJr (k:=b) hd e1;by_cases h:l<b
  ·rw[if_pos h]at c1 e;have c2:=aJr (k:=a) c1 e2;rw[e];exact c2
  ·rw[if_neg h]at c1 e;have c2:=aJr (k:=a) c1 (by omega);rw[if_neg (by omega)]at c2;rw[e,show l-2=l-1-1 by omega];exact c2
 rw[hQ,uB (by rw[pY (by omega)];omega),uB (by omega),uB (by omega)];by_cases hlb:l<b
 ·rw[if_pos hlb];by_cases hla:l<a
  ·rw[if_pos hla,if_neg (by omega)];exact hG _ _ (h2 (by omega) (by omega) l (by rw[if_pos hlb,if_pos hla]))
  ·rw[if_neg hla];by_cases he:l=a
   ·rw[if_pos he,if_pos (.inl he)]
   ·rw[if_neg he,if_neg (by omega)];exact hG _ _ (h2 (by omega) he (l-1) (by rw[if_pos hlb,if_neg hla]))
 ·rw[if_neg hlb];by_cases he:l=b
  ·rw[if_pos he,if_pos (.inr he)]
  ·rw[if_neg he,if_neg (by omega),if_neg (by omega),if_neg (by omega)];exact hG _ _ (h2 he (by omega) (l-1-1) (by rw[if_neg hlb];omega))
theorem aVl{n:NetD}{k:Nat}{b:BranchD}(h:n.branches[k]?=some b):(aW n).getD k 0=aK n b.src∧(toL n).getD k 0=aK n b.dst:=by
 obtain⟨hk,rfl⟩:=List.getElem?_eq_some_iff.1 h;exact⟨by simp[aW,hk],by simp[toL,hk]⟩
theorem aYu{n:NetD}{i:Nat}{b:BranchD}(h:n.branches[i]?=some b):cH n i=grN n (aK n b.src).toNat (aK n b.dst).toNat:=by
 rw[cH,(aVl h).1,(aVl h).2]
theorem nI{n:NetD}{i l:Nat}{b d:BranchD}(h:n.branches[i]?=some b)(hd:n.branches[l]?=some d): (cH n i).getD l 0=bQ d*((thN n (grB n b)).getD (aK n d.src).toNat 0-(thN n (grB n b)).getD (aK n d.dst).toNat 0):=by
 rw[aYu h];exact bBa hd
theorem aYv{n:NetD}{inj:List Int}{a b:Nat}{ba bb:BranchD}(hc:bI n=0)(hab:a<b)(ha:n.branches[a]?=some ba)(hb:n.branches[b]?=some bb)(hi:aB (bE n a b)=aB n): let t:=fun u=>(thN (bE n a b) (shN (bE n a b) (smN n inj))).getD u 0
  nQ n inj a b=([flB n t ba,flB n t bb],1)∧nQ n inj b a=([flB n t bb,flB n t ba],1)∧
  ∀(l:Nat) (d:BranchD),n.branches[l]?=some d→(cN n inj [a,b]).getD l 0=0∨(cN n inj [a,b]).getD l 0=(eL n inj).getD l 0+flB n t ba*(cH n a).getD l 0+flB n t bb*(cH n b).getD l 0:=by
 intro t;have hF:∀(i:Nat) (x:BranchD),n.branches[i]?=some x→(eL n inj).getD i 0=flB n (fun u=>(thN n (shN n (smN n inj))).getD u 0) x:=fun i x h=>aJq _ h;have hfl:∀(l:Nat) (d:BranchD),n.branches[l]?=some d→flB n t d=(eL n inj).getD l 0+flB n t ba*(cH n a).getD l 0+flB n t bb*(cH n b).getD l 0:=fun l d hd=>by
  rw[hF l d hd,nI ha hd,nI hb hd];exact aYs hc hab ha hb hi (aWd n inj) d
 have e1:=hfl a ba ha;have e2:=hfl b bb hb;have hreg:∀u v:Rat,u*(cH n a).getD a 0+v*(cH n b).getD a 0=u→u*(cH n a).getD b 0+v*(cH n b).getD b 0=v→u=0∧v=0:=fun u v h1 h2=>by
  rw[nI ha ha,nI hb ha]at h1;rw[nI ha hb,nI hb hb]at h2;exact aVh hc hab ha hb hi h1 h2
 refine⟨?_,?_,fun l d hd=>?_⟩
 ·unfold nQ bBf;exact aBe (by grind) (by grind) fun u v h1 h2=>hreg u v (by grind) (by grind)
 ·unfold nQ bBf;refine aBe (by grind) (by grind) fun u v h1 h2=>?_;obtain⟨g1,g2⟩:=hreg v u (by grind) (by grind);exact⟨g2,g1⟩
 ·have hbl:=(List.getElem?_eq_some_iff.1 hb).1;rw[aVk hab hbl hi hd];split
  ·exact .inl rfl
  ·exact .inr (hfl l d hd)
theorem aJw{k:Nat}{e q:Rat}(h:Ov k e q):Ov k e (fE q):=by
 unfold fE;split
 ·exact h.neg
 ·exact h
theorem aMk{q:Rat}{k:Nat}(h:SzQ q k)(h1:1≤k)(h2:k≤2000):cG q=true:=h.fit h1 h2
theorem aVm(a b c:Rat):(sm 3 fun j=>([a,b,c]).getD j 0)=a+b+c:=by
 show 0+a+b+c=_;grind
theorem bBm{f p q x y e d:Rat}(he:Ten 830 e)(hd:Ten 913 d)(he0:e≠0)(hd0:d≠0)(hf:Ov 829 e f)(hp:Ov 828 e p)(hq:Ov 828 e q)(hx:Ov 920 d x)(hy:Ov 920 d y): cG (sm 3 fun j=>([fE f,fE (p*x),fE (q*y)]).getD j 0)=true:=by
 have h1:=aJw ((hf.up hd).mono (show 829+913≤1748 by omega));have h2:=aJw ((hp.mul hx).mono (show 828+920≤1748 by omega));have h3:=aJw ((hq.mul hy).mono (show 828+920≤1749 by omega));have h4:=(h1.add h2).add h3;rw[aVm];exact aMk ((h4.mono (show 1749+1≤1755 by omega)).sz ((eG he hd).ten (show 830+913≤1755 by omega)) (pK he0 hd0)) (by omega) (by omega)
theorem aJx(x:Rat):x≤fE x∧-x≤fE x∧0≤fE x:=by
 unfold fE;split
 ·rename_i h;have:x<0:=Rat.not_le.1 fun c=>absurd (Rat.num_nonneg.2 c) (by omega);grind
 ·rename_i h;have:0≤x:=Rat.num_nonneg.1 (by omega);grind
theorem aMl{l:List Rat}{k:Nat}{x q:Rat}(h:q∈kR l k x):q=x∨q∈l:=by
 unfold kR at h;rcases List.mem_append.1 h with h|h
 ·exact .inr (List.mem_of_mem_take h)
 ·rcases List.mem_cons.1 h with h|h
  ·exact .inl h
  ·exact .inr (List.mem_of_mem_drop h)
theorem aMm{n:NetD}(h:VNet n)(hb:n.branches.length≤10){b:BranchD}(hm:b∈n.branches){d:Rat}(hd:Ten 830 d){t:Nat→Rat}(ht:∀v,Ov 828 d (t v)):Ov 920 (d*(1000*DN n)) (flB n t b):=by
 have hK:Ten 3 (1000:Rat):=⟨1000,rfl,by decide⟩;have h1:=aWj h hb hm;have h2:=aZx h hb hm;have h3:=(ht (aK n b.src).toNat).sub (ht (aK n b.dst).toNat);have h4:=eG (eG h1 hK) h3;have h5:=eG h2 hd;have h6:=aHz (k:=919) (h4.ten (by omega)) (h5.ten (by omega));unfold Ov flB;rw[show(bQ b*(t (aK n b.src).toNat-t (aK n b.dst).toNat)+cQ b)*(d*(1000*DN n))=DN n*bQ b*1000*((t (aK n b.src).toNat-t (aK n b.dst).toNat)*d)+1000*(DN n*cQ b)*d by grind];exact h6
theorem aJy{n:NetD}{inj:List Int}{i k:Nat}(hw:lP n=false)(h:fV n inj i k=0): (cN n inj (eK i k)).all cG=true∧(mM n inj i k n.branches.length).all cG=true∧(nQ n inj i k).2=1∧
  ∀l,l<n.branches.length→(cN n inj (eK i k)).getD l 0≤tB n inj i k l∧-(cN n inj (eK i k)).getD l 0≤tB n inj i k l:=by
 obtain⟨hc,_,hi,_,hk,hne,hg⟩:=uF h;obtain⟨hck,_,hbd⟩:=gI hc;have hi':i<n.branches.length:=by omega
 have hk':k<n.branches.length:=by omega
 obtain⟨a,b,hab,hbn,hgd,hcase⟩:∃a b:Nat,a<b∧b<n.branches.length∧eK i k=[a,b]∧((i=a∧k=b)∨(i=b∧k=a)):=by
  by_cases hlt:i<k
  ·exact⟨i,k,hlt,hk',by unfold eK;rw[show(min (i:Int) k)=i by omega,show(max (i:Int) k)=k by omega,Int.toNat_natCast,Int.toNat_natCast],.inl ⟨rfl,rfl⟩⟩
  ·exact⟨k,i,by omega,hi',by unfold eK;rw[show(min (i:Int) k)=k by omega,show(max (i:Int) k)=i by omega,Int.toNat_natCast,Int.toNat_natCast],.inr ⟨rfl,rfl⟩⟩
 rw[hgd]at hg⊢;have hL:cV n [a,b]=bE n a b:=rfl;unfold pA aGx at hg;rw[hL]at hg;simp only[List.all_cons,List.all_nil,Bool.and_true,Bool.and_eq_true,decide_eq_true_eq]at hg;obtain⟨ha1,hb1⟩:=hg;obtain⟨i1,_⟩:=aHg hck hab hbn ha1 hb1;have hV:=lD hck;have hW:VNet (bE n a b):=lD (eJ (eJ hck b) a);obtain⟨hn8,hb10,hs10⟩:=oB hw;have hcl:(bE n a b).branches.length≤n.branches.length:=by
  show((n.branches.eraseIdx b).eraseIdx a).length≤_;rw[List.length_eraseIdx,List.length_eraseIdx];split<;>split<;>omega
 have hw2:lP (bE n a b)=false:=by
  unfold lP;rw[Bool.or_eq_false_iff,Bool.or_eq_false_iff];exact⟨⟨decide_eq_false (show¬8<n.nodes.length by omega),decide_eq_false (by omega)⟩,decide_eq_false (show¬10<n.switches.length by omega)⟩
 obtain⟨e,hE⟩:=aEf hV hw;obtain⟨d,hD⟩:=aEf hW hw2;obtain⟨ba,hba⟩:∃x,n.branches[a]?=some x:=⟨_,gE (by omega)⟩;obtain⟨bb,hbb⟩:∃x,n.branches[b]?=some x:=⟨_,gE hbn⟩;have hsm:smN (bE n a b) inj=smN n inj:=by
  show smQ (aF n) inj (nbN (bE n a b)) n.nodes.length=_;rw[show nbN (bE n a b)=nbN n by unfold nbN;rw[i1]];rfl
 have hS1:Small n (shN n (smN n inj)):=aEg hV hb10 (aRm hn8 hbd);have hS2:Small (bE n a b) (shN (bE n a b) (smN n inj)):=aEg hW (by omega) (aRm hn8 hbd);obtain⟨t1,t2,t3⟩:=aYv (inj:=inj) hck hab hba hbb i1;have hX:=aMm hV hb10 (List.mem_of_getElem? hba) hD.sz (hD.th _ hS2);have hY:=aMm hV hb10 (List.mem_of_getElem? hbb) hD.sz (hD.th _ hS2);generalize flB n (fun u=>(thN (bE n a b) (shN (bE n a b) (smN n inj))).getD u 0) ba=X at*;generalize flB n (fun u=>(thN (bE n a b) (shN (bE n a b) (smN n inj))).getD u 0) bb=Y at*;have hK:Ten 3 (1000:Rat):=⟨1000,rfl,by decide⟩;have hd2:Ten 913 (d*(1000*DN n)):=eG hD.sz (eG hK (aKs hV hb10));have hd0:d*(1000*DN n)≠0:=pK hD.ne (pK (by decide) (aRj n));have hf:∀l x,n.branches[l]?=some x→Ov 829 e ((eL n inj).getD l 0):=fun l x hx=>by
  rw[show(eL n inj).getD l 0=flB n (fun u=>(thN n (shN n (smN n inj))).getD u 0) x from aJq _ hx];exact(hE.df _ hS1 x (List.mem_of_getElem? hx) _ _).add (hE.cc x (List.mem_of_getElem? hx))
 have hp:∀j y l x,n.branches[j]?=some y→n.branches[l]?=some x→Ov 828 e ((cH n j).getD l 0):=fun j y l x hy hx=>by
  rw[nI hy hx];obtain⟨g1,g2⟩:=aUv hV (List.mem_of_getElem? hy);exact hE.df _ (aPj hV hb10 g1 g2) x (List.mem_of_getElem? hx) _ _
 have hleft:(cN n inj [a,b]).all cG=true:=List.all_eq_true.2 fun q hq=>by
  rcases aMl (show q∈kR (kR (eL (bE n a b) inj) a 0) b 0 from hq)with rfl|hq
  ·decide+kernel
  ·rcases aMl hq with rfl|hq
   ·decide+kernel
   ·have hq2:q∈flN (bE n a b) (thN (bE n a b) (shN (bE n a b) (smN n inj))):=by rw[←hsm];exact hq
    exact aMk (bBy hD hS2 q hq2) (by omega) (by omega)
 have key:∀{i k:Nat} {p q:Rat} {bi bk:BranchD},n.branches[i]?=some bi→n.branches[k]?=some bk→Ov 920 (d*(1000*DN n)) p→Ov 920 (d*(1000*DN n)) q→nQ n inj i k=([p,q],1)→ (∀(l:Nat) (x:BranchD),n.branches[l]?=some x→(cN n inj [a,b]).getD l 0=0∨(cN n inj [a,b]).getD l 0=(eL n inj).getD l 0+p*(cH n i).getD l 0+q*(cH n k).getD l 0)→
   (mM n inj i k n.branches.length).all cG=true∧(nQ n inj i k).2=1∧∀l,l<n.branches.length→(cN n inj [a,b]).getD l 0≤tB n inj i k l∧-(cN n inj [a,b]).getD l 0≤tB n inj i k l:=by
  intro i k p q bi bk h1 h2 h3 h4 h5 h6;have hat:∀l,tB n inj i k l=sm 3 fun j=>([fE ((eL n inj).getD l 0),fE ((cH n i).getD l 0*p),fE ((cH n k).getD l 0*q)]).getD j 0:=fun l=>by
   rw[tB,h5];rfl
  refine⟨List.all_eq_true.2 fun x hx=>?_,by rw[h5],fun l hl=>?_⟩
  ·obtain⟨l,hl,rfl⟩:=List.mem_map.1 hx;have hl:=gE (List.mem_range.1 hl);rw[hat];exact bBm hE.sz hd2 hE.ne hd0 (hf l _ hl) (hp i bi l _ h1 hl) (hp k bk l _ h2 hl) h3 h4
  ·rw[hat,aVm];obtain⟨f1,f2,f3⟩:=aJx ((eL n inj).getD l 0);obtain⟨p1,p2,p3⟩:=aJx ((cH n i).getD l 0*p);obtain⟨q1,q2,q3⟩:=aJx ((cH n k).getD l 0*q);rcases h6 l _ (gE hl)with g|g
   ·rw[g];constructor<;>grind
   ·rw[g,Rat.mul_comm p,Rat.mul_comm q];generalize(cH n i).getD l 0*p=P at*;generalize(cH n k).getD l 0*q=Q at*;constructor<;>grind
 refine⟨hleft,?_⟩;rcases hcase with⟨rfl,rfl⟩|⟨rfl,rfl⟩
 ·exact key hba hbb hX hY t1 t3
 ·refine key hbb hba hY hX t2 fun l x hx=>?_;rcases t3 l x hx with g|g
  ·exact .inl g
  ·exact .inr (by rw[g];grind)
theorem aHj{w:World}{r:List Rat×Int}{e:Ending}{w':World}(h:uZ w r e w')(hr:r.2≠0→r.1=[]):∃A l c,e= .returned (.tuple #[.slice A l c,I r.2])∧l=r.1.length∧Row w' w.heap.size 51 1 (.slice A l c) l ((mkS (r.1.map bH)).map Sv)∧Below w.heap.size w w':=by
 obtain⟨v,h1,h2,h3,h4⟩:=h;by_cases h0:r.2=0
 ·have h5:=(h2 h0).2;obtain⟨A,c,rfl⟩:=h5.val;exact⟨A,_,c,h1,rfl,h5,h4⟩
 ·obtain rfl:=h3 h0;have hn:=hr h0;refine⟨none,0,0,h1,by rw[hn];rfl,?_,h4⟩;rw[hn];exact Row.nil _ _ _ _
theorem aBf(n:NetD)(inj:List Int)(i k:Int)(h:(iD n inj i k).2≠0):(iD n inj i k).1=[]:=by
 unfold iD at h⊢;split
 ·rfl
 ·split
  ·rename_i h1 h2;rw[if_neg h1,if_pos h2]at h;exact absurd rfl h
  ·rfl
theorem aPs(n:NetD)(inj:List Int)(i k:Int)(h:(jQ n inj i k).2≠0):(jQ n inj i k).1=[]:=by
 unfold jQ at h⊢;split
 ·rfl
 ·rename_i h1;rw[if_neg h1]at h;split
  ·rfl
  ·rename_i h2;rw[if_neg h2]at h;split
   ·rename_i h3;rw[if_pos h3]at h;exact absurd rfl h
   ·rfl
structure BndOk(t b:List Rat):Prop where
 len:b.length=t.length
 few:t.length≤1000
 ft:t.all cG=true
 fb:b.all cG=true
 le:∀l,l<t.length→t.getD l 0≤b.getD l 0∧-t.getD l 0≤b.getD l 0
theorem aYw{n:NetD}{inj:List Int}{i k:Int}(hw:lP n=false):(jQ n inj i k).2=(iD n inj i k).2∧BndOk (iD n inj i k).1 (jQ n inj i k).1:=by
 by_cases h0:(iD n inj i k).2=0
 ·have hE:=aMg h0;obtain⟨_,hi0,hi1,hk0,hk1,_⟩:=uF hE;obtain⟨i,rfl⟩:∃j:Nat,i=j:=Int.eq_ofNat_of_zero_le hi0;obtain⟨k,rfl⟩:∃j:Nat,k=j:=Int.eq_ofNat_of_zero_le hk0;obtain⟨h1,h2,h3,h4⟩:=aJy hw hE;have eD:iD n inj i k=(cN n inj (eK i k),0):=by
   unfold iD;have h9:¬fV n inj i k≠0:=fun c=>c hE;rw[if_neg h9,if_pos h1]
  have eB:jQ n inj i k=(mM n inj i k n.branches.length,0):=by
   have h9:¬(iD n inj i k).2≠0:=fun c=>c h0;have h8:¬(nQ n inj i k).2≠1:=fun c=>c h3;rw[jQ,if_neg h9,Int.toNat_natCast,Int.toNat_natCast,if_neg h8,if_pos h2]
  have hl:(cN n inj (eK i k)).length=n.branches.length:=by
   obtain⟨k0,k1,k2,k3,k4,k5,_⟩:=uF hE;unfold eK;exact uD (nH (by omega) (by omega)) inj
  have hb10:=(oB hw).2.1;rw[eD,eB];refine⟨rfl,by rw[tC,hl],by rw[hl];omega,h1,h2,fun l hlt=>?_⟩;rw[hl]at hlt;have e:(mM n inj i k n.branches.length).getD l 0=tB n inj i k l:=by
   rw[mM,gD,List.getElem?_map,List.getElem?_range hlt];rfl
  rw[e];exact h4 l hlt
 ·have e:jQ n inj i k=([],(iD n inj i k).2):=by rw[jQ,if_pos h0]
  rw[e,aBf n inj i k h0];exact⟨rfl,rfl,by decide,rfl,rfl,fun l h=>by simp at h⟩
theorem aYx{q:Rat}(h:cG q=true)(h2:cG (-q)=true):aCj (bH q)=(bH (-q),0):=by
 have ho:=xL q h;rw[aCj,rOp,if_pos (aFv (by simp[ho.1];decide)),ho.2,lX,if_pos h2]
theorem yP{q:Rat}(h:cG q=true):cG (-q)=true:=by
 unfold cG at h⊢;rw[Rat.neg_num,Rat.neg_den];simpa using h
theorem aMn{p q:Rat}(hp:cG p=true)(hq:cG q=true)(h:p≤q):∃c:Int,qV (bH p) (bH q)=(c,0)∧decide (0<c)=false:=by
 have h1:=xL p hp;have h2:=xL q hq;refine⟨sI p q,by rw[qV,if_pos (aFv (by simp[h1.1,h2.1])),h1.2,h2.2],decide_eq_false fun c=>?_⟩;rcases xM p q with g|g|g
 ·omega
 ·omega
 ·exact absurd ((aLb p q).1 g) (Rat.not_lt.2 h)
theorem aJz{q:Rat}(h:cG q=true):(⟨(bH q).toArray⟩:ByteArray).size≤9223372036854775807:=by
 have:=aTg h;show(bH q).toArray.size≤_;rw[List.size_toArray];omega
theorem aVn{t:List Rat}{l:Nat}(h:l<t.length):(mkS (t.map bH))[l]?=some ⟨(bH (t.getD l 0)).toArray⟩:=by
 unfold mkS;rw[List.getElem?_map,List.getElem?_map,gE h,gD,gE h];rfl
theorem aMo{t:List Rat}{l:Nat}(h:t.all cG=true)(hl:l<t.length):cG (t.getD l 0)=true:=by
 rw[gD,gE hl];exact List.all_eq_true.1 h _ (List.getElem_mem hl)
theorem uG(n:NetD)(v:NetV)(inj:List Int)(m:Nat)(A:Option Addr)(c:Nat)(i k:Int)(w:World)(hN:Net w n v)(hj:Reads w w.heap.size 1 A m (inj.map I))(hm:m≤9223372036854775807)(htab:Tab w):Calls Tryz.prog 11 #[v.val n,.slice A m c,I i,I k] w fun e w'=>e= .returned (.bool true)∧Below w.heap.size w w':=by
 have hz:=aC w (Obj.cells (v.parts n) 29);have HN:=aH (hN.below hz);have HG:=aH (Blk.new w 29 (v.parts n));have HB:=aH hz;have HTB:=aH htab;have HJ:=aH ((hj.below hz).more hz.size);clear hz hN htab hj;unfold NetV.val NetV.parts at*;go_enter Tryz.func11,Tryz.ntmps11;have HC:=aH (yN (w.alloc (Obj.cells #[.slice v.na n.nodes.length v.nc,.slice v.sa n.switches.length v.sc,.slice v.ba n.branches.length v.bc,.slice v.ga n.gens.length v.gc,.slice v.la n.loads.length v.lc,.slice v.ta n.stores.length v.tc] 29)) (aR HTB.out HB.out));go_wp2_with fail;refine HC.out.mono ?_;rintro e w1 ⟨rfl,hb⟩;clear HC;have hbs:=HB.out.size;replace HB:=aH (HB.out.trans (hb.mono hbs));clear hbs;replace HN:=aH (HN.out.below hb);replace HG:=bL HG hb;replace HJ:=aH ((HJ.out.below hb).more hb.size);clear hb;have x0:=HG.out.cell 0;have x1:=HG.out.cell 1;have x2:=HG.out.cell 2;have x3:=HG.out.cell 3;have x4:=HG.out.cell 4;have x5:=HG.out.cell 5;have HC:=aH (aRq n v w1);unfold NetV.val NetV.parts at HC;go_wp2_with fail;refine HC.out.mono ?_;rintro e w2 ⟨rfl,hb⟩;clear HC;clear x0 x1 x2 x3 x4 x5;have hbs:=HB.out.size;replace HB:=aH (HB.out.trans (hb.mono hbs));clear hbs;replace HN:=aH (HN.out.below hb);replace HG:=bL HG hb;replace HJ:=aH ((HJ.out.below hb).more hb.size);clear hb;cases hw:lP n with
 |true=>
  go_wp2;go_ret;exact⟨rfl,HB.out⟩
 |false=>
  have HW:=aH hw;have HBO:=aH (aYw (inj:=inj) (i:=i) (k:=k) hw);clear hw;have x0:=HG.out.cell 0;have x1:=HG.out.cell 1;have x2:=HG.out.cell 2;have x3:=HG.out.cell 3;have x4:=HG.out.cell 4;have x5:=HG.out.cell 5;have HC:=aH (show Calls Tryz.prog 28 #[.agg #[.slice v.na n.nodes.length v.nc,.slice v.sa n.switches.length v.sc,.slice v.ba n.branches.length v.bc,.slice v.ga n.gens.length v.gc,.slice v.la n.loads.length v.lc,.slice v.ta n.stores.length v.tc],.slice A m c,I i,I k] w2 (fun e w'=>∃A l c,e= .returned (.tuple #[.slice A l c,I (iD n inj i k).2])∧l=(iD n inj i k).1.length∧Row w' w2.heap.size 51 1 (.slice A l c) l ((mkS ((iD n inj i k).1.map bH)).map Sv)∧Below w2.heap.size w2 w')from(lA n v inj m A c i k w2 HN.out HJ.out hm (aR HTB.out HB.out)).mono fun e w' h=>aHj h (aBf n inj i k));go_wp2_with fail;refine HC.out.mono ?_;rintro e w3 ⟨FA,Fl,Fc,rfl,hF,hr,hb⟩;clear HC;clear x0 x1 x2 x3 x4 x5;have hbs:=HB.out.size;replace HB:=aH (HB.out.trans (hb.mono hbs));clear hbs;replace HN:=aH (HN.out.below hb);replace HG:=bL HG hb;replace HJ:=aH ((HJ.out.below hb).more hb.size);clear hb;have HF:=aH hr;have HFL:=aH hF;clear hr hF;have x0:=HG.out.cell 0;have x1:=HG.out.cell 1;have x2:=HG.out.cell 2;have x3:=HG.out.cell 3;have x4:=HG.out.cell 4;have x5:=HG.out.cell 5;have HC:=aH (show Calls Tryz.prog 48 #[.agg #[.slice v.na n.nodes.length v.nc,.slice v.sa n.switches.length v.sc,.slice v.ba n.branches.length v.bc,.slice v.ga n.gens.length v.gc,.slice v.la n.loads.length v.lc,.slice v.ta n.stores.length v.tc],.slice A m c,I i,I k] w3 (fun e w'=>∃A l c,e= .returned (.tuple #[.slice A l c,I (jQ n inj i k).2])∧l=(jQ n inj i k).1.length∧Row w' w3.heap.size 51 1 (.slice A l c) l ((mkS ((jQ n inj i k).1.map bH)).map Sv)∧Below w3.heap.size w3 w')from(tD n v inj m A c i k w3 HN.out HJ.out hm HW.out (aR HTB.out HB.out)).mono fun e w' h=>aHj h (aPs n inj i k));go_wp2_with fail;refine HC.out.mono ?_;rintro e w4 ⟨EA,El,Ec,rfl,hE,hr,hb⟩;clear HC;clear x0 x1 x2 x3 x4 x5;have hbs:=HB.out.size;replace HB:=aH (HB.out.trans (hb.mono hbs));clear hbs;replace HN:=aH (HN.out.below hb);replace HG:=bL HG hb;replace HJ:=aH ((HJ.out.below hb).more hb.size);replace HF:=aH (HF.out.call hb);clear hb;have HE:=aH hr;have HEL:=aH hE;clear hr hE;clear HN HG HJ;obtain⟨hcode,hbo⟩:=HBO.out;have hE:=HEL.out;have hF:=HFL.out;clear HEL HFL;rw[hcode];rw[hbo.len]at hE;obtain rfl:El=Fl:=hE.trans hF.symm;clear hE hcode HBO;generalize(iD n inj i k).2=fc at*;generalize(iD n inj i k).1=T at*;generalize(jQ n inj i k).1=B at*;have HBO:=aH hbo;have HL:=aH hF;have hf1000:El≤1000:=by rw[hF];exact hbo.few
  clear hF hbo;have t0:(fc !=fc)=false:=by simp
  have t1:((El:Int) !=(El:Int))=false:=by simp
  have HB0:=aH (Below.refl w4.heap.size w4);have HBW:=HB;clear HB;have HTB2:=aH (aR HTB.out HBW.out);go_wp2;clear t0 t1;go_loopg [53] (El-0) (fun r v wr=>∃l:Nat,r=El-l∧v=I l∧l≤El∧Hid (Below w4.heap.size w4 wr));case atStart=>exact⟨0,rfl,rfl,by omega,HB0⟩
  case round=>
   clear HB0;obtain⟨l,rfl,rfl,hl,HB⟩:=hrel;obtain⟨wa,rfl⟩:=wE wr;by_cases hlt:l<El
   ·have hf:=(HF.out.call HB.out).reads.at1 hlt;have hlT:l<T.length:=by have:=HL.out;omega
    have hlB:l<B.length:=by rw[HBO.out.len];exact hlT
    obtain⟨bf,of,u,ef,_,hu,hc⟩:=hf;obtain rfl:u=Sv ⟨(bH (T.getD l 0)).toArray⟩:=by
     rw[List.getElem?_map,aVn hlT]at hu;exact(Option.some.inj hu).symm
    have HCF:=aH hc;clear hu hc;obtain⟨bb,ob,u,eb,_,hu,hc⟩:=(HE.out.call HB.out).reads.at1 hlt;obtain rfl:u=Sv ⟨(bH (B.getD l 0)).toArray⟩:=by
     rw[List.getElem?_map,aVn hlB]at hu;exact(Option.some.inj hu).symm
    have HCB:=aH hc;clear hu hc;subst ef eb;have fT:=aMo HBO.out.ft hlT;have fB:=aMo HBO.out.fb hlB;obtain⟨le1,le2⟩:=HBO.out.le l hlT;obtain⟨c1,q1,d1⟩:=aMn fT fB le1;obtain⟨c2,q2,d2⟩:=aMn (yP fT) fB le2;have nT:=aYx fT (yP fT);have z1:=aJz fT;have z2:=aJz fB;have z3:=aJz (yP fT);generalize bH (-T.getD l 0)=X3 at*;generalize bH (T.getD l 0)=X1 at*;generalize bH (B.getD l 0)=X2 at*;have NT:=aH nT;have Q1:=aH q1;have Q2:=aH q2;have Z1:=aH z1;have Z2:=aH z2;have Z3:=aH z3;have DD1:=aH d1;have DD2:=aH d2;clear nT q1 q2 z1 z2 z3 d1 d2 fT fB le1 le2 hlT hlB;have cf:=HCF.out;have HC:=aH (show Calls Tryz.prog 49 #[.string ⟨X1.toArray⟩] wa (RetTx wa (X3,0))from by
      have h:=aIx ⟨X1.toArray⟩ wa Z1.out (aR HTB2.out HB.out);rw[show SL ⟨X1.toArray⟩=X1 from rfl,NT.out]at h;exact h)
    go_wp2_with fail;refine HC.out.mono ?_;rintro e w21 ⟨rfl,hb⟩;clear HC cf;replace HB:=bT HB hb;replace HCF:=aH (aA HCF.out hb);replace HCB:=aH (aA HCB.out hb);clear hb;have cb:=HCB.out;have HC:=aH (show Calls Tryz.prog 50 #[.string ⟨X1.toArray⟩,.string ⟨X2.toArray⟩] w21 (aFy w21 (c1,0))from by
      have h:=yB ⟨X1.toArray⟩ ⟨X2.toArray⟩ w21 Z1.out Z2.out (aR HTB2.out HB.out);rw[show SL ⟨X1.toArray⟩=X1 from rfl,show SL ⟨X2.toArray⟩=X2 from rfl,Q1.out]at h;exact h)
    go_wp2_with fail;refine HC.out.mono ?_;rintro e w22 ⟨rfl,hb⟩;clear HC cb;replace HB:=bT HB hb;replace HCF:=aH (aA HCF.out hb);replace HCB:=aH (aA HCB.out hb);clear hb;have cb:=HCB.out;have HC:=aH (show Calls Tryz.prog 50 #[.string ⟨X3.toArray⟩,.string ⟨X2.toArray⟩] w22 (aFy w22 (c2,0))from by
      have h:=yB ⟨X3.toArray⟩ ⟨X2.toArray⟩ w22 Z3.out Z2.out (aR HTB2.out HB.out);rw[show SL ⟨X3.toArray⟩=X3 from rfl,show SL ⟨X2.toArray⟩=X2 from rfl,Q2.out]at h;exact h)
    go_wp2_with fail;refine HC.out.mono ?_;rintro e w23 ⟨rfl,hb⟩;clear HC cb;replace HB:=bT HB hb;replace HCF:=aH (aA HCF.out hb);replace HCB:=aH (aA HCB.out hb);clear hb;clear HCF HCB;have hb:=aC w23 (.cells #[I 0,I 0,I 0] 34);have hx:=Blk.new w23 34 #[I 0,I 0,I 0];replace HB:=bT HB hb;clear hb;have HC:=aH (aFs [0,0,0] 3 (some ⟨w23.heap.size,0,none⟩) 3 (w23.alloc (.cells #[I 0,I 0,I 0] 34)) (w23.alloc (.cells #[I 0,I 0,I 0] 34)).heap.size (cA (n:=3) (sz:=1) hx rfl) (by decide));rw[show lZ [0,0,0]=true from rfl]at HC;clear hx;have d1:=DD1.out;have d2:=DD2.out;go_wp2_with fail;refine HC.out.mono ?_;rintro e w24 ⟨rfl,rfl⟩;clear HC;go_wp2;go_roundg (El-(l+1));case measure=>omega
    case rel=>exact⟨l+1,rfl,by go_num,by omega,HB⟩
   ·obtain rfl:l=El:=by omega
    have HE2:=aH (HBW.out.trans (HB.out.mono HBW.out.size));clear HF HE HB HBO HL;go_wp2;go_ret;exact⟨rfl,HE2.out⟩
theorem uH(n:NetD)(v:NetV)(inj:List Int)(A:Option Addr)(c:Nat)(i k:Int)(w:World)(hN:Net w n v)(hj:Reads w w.heap.size 1 A inj.length (inj.map I))(hm:inj.length≤9223372036854775807)(_hi:-9223372036854775808≤i∧i≤9223372036854775807)(_hk:-9223372036854775808≤k∧k≤9223372036854775807)(htab:Tab w):Calls Tryz.prog 11 #[v.val n,.slice A inj.length c,I i,I k] w fun e w'=>e= .returned (.bool true)∧Below w.heap.size w w':=uG n v inj inj.length A c i k w hN hj hm htab
end
section
open Go.ChangeShapes Go.WideShapes Go.ChangeAt Go.RowKit Go.ChangeMaps
theorem tE(os:Os)(args:Array Value):laidMetH Tryz.prog Rows.doubleBoundsRow.laid ((World.doorLaid Tryz.prog 62 os).forCall (fun _ _=>0) ⟨#[],args,[]⟩).memory:=laidMetH_of_parts3 (fuel:=8) (laidMet_of_run' 8 (by kernel_rfl) (by kernel_rfl)) (by kernel_rfl) (by kernel_rfl)
set_option linter.unusedVariables false in
theorem qA(os:Os)(started:os.Started)(H:Type)(enc:TypeId×Value→H): ReturnsInHanded {} Tryz.checked os 11 .any (fun w args=>(Rows.doubleBoundsSpec.pre enc Tryz.prog Tryz.f11 [] false w args∧laidMetH Tryz.prog Rows.doubleBoundsRow.laid w)∧sizedMet enc Tryz.prog Tryz.f11 (OpenSpec.ofChange Rows.doubleBoundsSpec) false w args) (Rows.doubleBoundsSpec.post enc Tryz.prog Tryz.f11 false true false false):=by
 refine returnsInHanded_of_change_and (C:=Tryz.checked) (X:=fun w _=>laidMetH Tryz.prog Rows.doubleBoundsRow.laid w) (fun _ _ _ hh h=>h.of_heap hh) own started (by kernel_rfl) Tryz.func11 (ChangeSpec.witness_shaped (enc:=enc) (C:=Tryz.checked) (os:=os) (X:=fun w _=>laidMetH Tryz.prog Rows.doubleBoundsRow.laid w) false (World.doorLaid Tryz.prog 62 os) #[.agg #[.slice none 0 0,.slice none 0 0,.slice none 0 0,.slice none 0 0,.slice none 0 0,.slice none 0 0],.slice none 0 0,.int .i64 0,.int .i64 0] 8 rfl (World.shaped_of_RefB (by kernel_rfl) (by kernel_rfl)) (by kernel_rfl) (by kernel_rfl) (by kernel_rfl) (tE os _)) ?_
 intro W base args ds gs before hval0 hW _ _ hL _;have hval:∀(j:Nat) t v,Tryz.f11.params[j]?=some t→args[j]?=some v→Value.okWide Tryz.prog W .any base t v:=hval0;have hW':=hW;obtain⟨p,q,hA0,hV,rfl,hfz,hnd⟩:=hW;have hA:DataW.TrodAll enc Tryz.prog W 0 (fun _=>true) true Tryz.f11.params.toList args.toList ds p:=hA0;rw[Tryz.params11]at hA hval;obtain⟨v0,vs0,d0,ds0,p0,q0,hargs,rfl,rfl,h0,r0⟩:=trodAll_cons hA;obtain⟨v1,vs1,d1,ds1,p1,q1,rfl,rfl,rfl,h1,r1⟩:=trodAll_cons r0;obtain⟨v2,vs2,d2,ds2,p2,q2,rfl,rfl,rfl,h2,r2⟩:=trodAll_cons r1;obtain⟨v3,vs3,d3,ds3,p3,q3,rfl,rfl,rfl,h3,r3⟩:=trodAll_cons r2;obtain⟨rfl,rfl,rfl⟩:=trodAll_nil r3;obtain rfl:args=#[v0,v1,v2,v3]:=by cases args;simp_all
 obtain⟨rfl,rfl⟩:=trodVars_none hV;have k0:=h0;have lt0:∀x∈p0,x.block<W.heap.size:=by obtain⟨m,hm⟩:=k0;exact DataW.trod_lt m _ _ _ hm
 obtain⟨n0,nv0,rfl,hn0⟩:=aQi (hval 0 29 v0 rfl rfl) h0;have k1:=h1;have lt1:∀x∈p1,x.block<W.heap.size:=by obtain⟨m,hm⟩:=k1;exact DataW.trod_lt m _ _ _ hm
 obtain⟨a1,len1,cap1,rfl⟩:=okWide_slice Tryz.underlying31 (hval 1 31 v1 rfl rfl);obtain⟨fu1,ho1⟩:=h1;obtain⟨m1,A1,c1,e1,hm1,hl1⟩:=aMw Tryz.underlying31 (u:= .slice a1 len1 cap1) ho1;injection e1 with ea1 eb1 ec1;subst ea1 eb1 ec1;obtain⟨s2,rfl,rfl,rfl,ws2⟩:=open_int Tryz.underlying3 (hval 2 3 v2 rfl rfl) h2;obtain⟨s3,rfl,rfl,rfl,ws3⟩:=open_int Tryz.underlying3 (hval 3 3 v3 rfl rfl) h3;clear hA0 hval0;refine(uH n0 nv0 m1 _ _ s2 s3 W hn0 hm1 hl1 (aDs ws2) (aDs ws3) (tab_of_laid hL)).mono fun e W' ⟨he,bel⟩=>?_;subst he;exact⟨_,rfl,_,_,_,[],_,[],hW',trodAll_mk1 (shut_bool Tryz.underlying4 _),(trodAll_cons_mk (Below.trod aKe (by kernel_rfl) (of_decide_eq_true (by kernel_rfl)) k0 bel lt0) (trodAll_cons_mk (Below.trod aKe (by kernel_rfl) (of_decide_eq_true (by kernel_rfl)) k1 bel lt1) (trodAll_cons_mk (shut_int Tryz.underlying3 ws2) (trodAll_cons_mk (shut_int Tryz.underlying3 ws3) trodAll_mk0)))),rfl,bel.frame _,fun h=>by cases h⟩
end
end Go.Proofs.YtenbglfkdldheaaGreatDoor
