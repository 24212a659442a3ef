/- The flows are those without injections, and the factors times the injections: the plain law of ShiftAdds. ShiftAdds: plain facts, and flow.Solve with its slices named. -/
import Derived.Test.YtenbglfkdldheaaGreatDoorKXF
namespace Go.Proofs.YtenbglfkdldheaaGreatDoor
section
theorem addQ1_len{a b:List Rat}(hl:a.length=b.length):(cK a b).length=a.length:=by simp[cK,hl]
theorem zD{r l:List Rat}(hl:r.length=l.length)(u:Nat)(x:Rat):(cK r l).set u (r.getD u 0+x)=cK r (l.set u x):=by
 refine jI (by simp[cK]) fun j hj=>?_;rw[dJ,eB hl,eB (a:=r) (b:=l.set u x) (by rw[List.length_set];exact hl),dJ,addQ1_len hl];by_cases e:u=j
 ·subst e;by_cases h:u<r.length
  ·rw[if_pos ⟨rfl,h⟩,if_pos ⟨rfl,by omega⟩]
  ·rw[if_neg (fun k=>h k.2),if_neg (fun k=>h (by omega))]
 ·rw[if_neg (fun k=>e k.1),if_neg (fun k=>e k.1)]
theorem aVr{r l:List Rat}(hl:r.length=l.length)(u v:Nat)(c:Rat):shQ u v c (cK r l)=cK r (shQ u v c l):=by
 unfold shQ;have h1:(cK r l).set u ((cK r l).getD u 0-c)=cK r (l.set u (l.getD u 0-c)):=by
  rw[←zD hl,eB hl,show r.getD u 0+l.getD u 0-c=r.getD u 0+(l.getD u 0-c) by grind]
 have hl2:r.length=(l.set u (l.getD u 0-c)).length:=by rw[List.length_set];exact hl
 rw[h1,←zD hl2,eB hl2,show∀a b:Rat,a+b+c=a+(b+c)from fun a b=>by grind]
theorem aJh{frm tu:List Int}{C r l:List Rat}(hl:r.length=l.length):∀k,shK frm tu C (cK r l) k=cK r (shK frm tu C l k)
 |0=>rfl
 |k+1=>by rw[shK,aJh hl k,aVr (by rw[tK];exact hl),←shK]
def zE(n:NetD):List Rat:=List.replicate (nbN n) 0
theorem aHb{r:List Rat}{k:Nat}(h:r.length=k):cK r (List.replicate k 0)=r:=by
 refine jI (by rw[addQ1_len (by rw[List.length_replicate];exact h)]) fun j _=>?_;rw[eB (by rw[List.length_replicate];exact h),jG];grind
theorem aMl{n:NetD}{r:List Rat}(h:r.length=nbN n):shN n r=cK r (shN n (zE n)):=by
 unfold shN zE;rw[←aJh (by rw[List.length_replicate];exact h),aHb h]
theorem aVs(n:NetD)(r:List Rat):(shN n r).length=r.length:=tK _ _ _ _ _
theorem aSl{n:NetD}{a b:List Rat}(hl:a.length=b.length):flN n (cK a b)=cK (grK (bR n) (toL n) (bLQ n) a n.branches.length) (flN n b):=by
 have h2:(grK (bR n) (toL n) (bLQ n) a n.branches.length).length=(flN n b).length:=by rw[oC];exact(qK _ _ _ _ _ _).symm
 refine jI (by rw[addQ1_len h2,oC];exact qK _ _ _ _ _ _) fun j hj=>?_;have hj:j<n.branches.length:=by rw[flN,qK]at hj;exact hj
 rw[eB h2,aHa hj];unfold flN;rw[aOx hj,aOx hj];unfold aKb wW;rw[eB hl,eB hl];grind
def zI(n:NetD):List Int:=List.replicate n.nodes.length 0
theorem aWh(n:NetD)(j:Nat):(zI n).getD j 0=0:=by
 unfold zI;rw[gD,List.getElem?_replicate];split<;>rfl
theorem aSm(n:NetD):smN n (zI n)=zE n:=by
 refine jI (by rw[qM];simp[zE]) fun j hj=>?_;rw[qM]at hj;unfold zE smN smQ;rw[jG,gD,List.getElem?_map];have h:=aOv (bus:=aC n) (inj:=zI n) hj n.nodes.length;rw[zZ _ fun j _=>by rw[aWh];split<;>rfl,gD]at h;cases e:(smI (aC n) (zI n) (nbN n) n.nodes.length)[j]? with
 |none=>rfl
 |some z=>
  rw[e]at h;show((z:Int):Rat)=0;rw[show z=0 from h];rfl
theorem aMm(n:NetD)(inj:List Int):jV n inj=cK (grK (bR n) (toL n) (bLQ n) (thN n (smN n inj)) n.branches.length) (jV n (zI n)):=by
 have h1:∀r,aOh n r=thN n (shN n r):=fun r=>rfl;unfold jV wX;rw[h1,h1,aSm,aMl (qM n inj),aTx (by rw[aVs,qM];simp[zE]),aSl (by rw[qN,qN])]
theorem pF(x:Int):∀(zs:List Int) (i f:Nat),Lib.idxFrom zs x i=((i+f:Nat):Int)→x∉zs.take f
 |[],i,f,h=>by simp
 |z::zs,i,f,h=>by
  rw[Lib.idxFrom]at h;split at h
  ·obtain rfl:f=0:=by omega
   simp
  ·rename_i e;have hg:=lO x zs (i+1);cases f with
   |zero=>omega
   |succ f=>
    have ih:=pF x zs (i+1) f (by rw[h];congr 1;omega);rw[List.take_succ_cons,List.mem_cons];rintro(h2|h2)
    ·exact e h2.symm
    ·exact ih h2
theorem sW{n:NetD}{b:Nat}(hb:b<nbN n):eA n b<nbN n∧((eA n b:Nat):Int)∉aN n:=by
 obtain⟨h1,h2,h3⟩:=aEo (zs:=aA n) (x:=(aA n).getD b 0) (bC hb);have hf:Lib.idxOf (aA n) ((aA n).getD b 0)=(eA n b:Nat):=by unfold eA;omega
 have hlt:eA n b<nbN n:=by unfold eA nbN;omega
 refine⟨hlt,fun h=>?_⟩;obtain⟨j,_,he,hc⟩:=iZ.1 h;obtain rfl:eA n b=j:=by omega
 have hv:(aA n).getD (eA n b) 0=(aA n).getD b 0:=by
  rw[gD (l:=aA n) (i:=eA n b)];unfold eA;rw[h3];rfl
 rw[hv,List.contains_iff_mem]at hc;exact pF _ _ 0 _ (by rw[Nat.zero_add];exact hf) hc
def gP(n:NetD)(j v:Nat):Rat:=eE (plN n) (fun i=>at2 (kN n) i j) v
def frN(n:NetD)(j:Nat):Nat:=((aN n).getD j 0).toNat
theorem wP{n:NetD}{j:Nat}(hj:j<nfN n):(aN n).getD j 0=(frN n j:Nat)∧frN n j<nbN n:=by
 have:=qL (n:=n) _ (bC (l:=aN n) (k:=j) hj);unfold frN;omega
theorem aSn{n:NetD}{i j:Nat}(hi:i<nfN n)(hj:j<nfN n)(h:frN n i=frN n j):i=j:=by
 have h1:=qJ (pL n) (i:=i) hi;have h2:=qJ (pL n) (i:=j) hj;rw[(wP hi).1,h,←(wP hj).1,h2]at h1;omega
theorem zF{n:NetD}{j:Nat}(hj:j<nfN n){f:Nat}(hf:f<nbN n)(hs:(f:Int)∉aN n){k:Nat}(hk:k<nfN n): (bY (aN n) (gr0 (frN n j) f (nbN n))).getD k 0=if k=j then 1 else 0:=by
 obtain⟨h1,h2⟩:=wP hk;rw[kO hk];show(gr0 (frN n j) f (nbN n)).getD (frN n k) 0=_;rw[aSk h2 (wP hj).2 hf,if_neg (show¬f=frN n k from fun e=>hs (by rw[e,←h1];exact bC hk))];by_cases e:k=j
 ·subst e;rw[if_pos rfl,if_pos rfl];decide+kernel
 ·rw[if_neg (fun k1=>e (aSn hj hk k1).symm),if_neg e];decide+kernel
theorem aEs{n:NetD}{i:Nat}(hi:i<nfN n):((kN n).getD i []).length=nfN n:=(mY n).rowlen hi
theorem aSo{n:NetD}{j:Nat}(hj:j<nfN n){f:Nat}(hf:f<nbN n)(hs:(f:Int)∉aN n)(v:Nat):(thN n (gr0 (frN n j) f (nbN n))).getD v 0=gP n j v:=by
 rw[oD,gP,eE,eE];split
 ·have hl:=aOp n v;rw[xN,cR,aEs (by omega),kI j _ hj fun k hk hne=>by rw[zF hj hf hs hk,if_neg hne,Rat.mul_zero],zF hj hf hs hj,if_pos rfl,Rat.mul_one];rfl
 ·rfl
theorem aSp(n:NetD)(r:List Rat)(v:Nat):(thN n r).getD v 0=sm (nfN n) fun j=>gP n j v*r.getD (frN n j) 0:=by
 rw[oD,eE];split
 ·rename_i h;have hl:=aOp n v;rw[xN,cR,aEs (by omega)];refine aW _ fun j hj=>?_;rw[kO hj,gP,eE,if_pos h];rfl
 ·rename_i h;rw[gL _ fun j _=>by rw[gP,eE,if_neg h,Rat.zero_mul]]
theorem aSq{n:NetD}{i:Nat}(hi:i<n.branches.length)(r:List Rat): (grK (bR n) (toL n) (bLQ n) (thN n r) n.branches.length).getD i 0=sm (nfN n) fun j=>(grN n (frN n j) (eA n (frN n j))).getD i 0*r.getD (frN n j) 0:=by
 rw[aHa hi,wW,aSp,aSp];have e:∀j,j<nfN n→(grN n (frN n j) (eA n (frN n j))).getD i 0*r.getD (frN n j) 0=(bLQ n).getD i 0*(1*(gP n j ((bR n).getD i 0).toNat*r.getD (frN n j) 0)+(-1)*(gP n j ((toL n).getD i 0).toNat*r.getD (frN n j) 0)):=fun j hj=>by
  obtain⟨h1,h2⟩:=sW (wP hj).2;rw[grN,aHa hi,wW,aSo hj h1 h2,aSo hj h1 h2];grind
 rw[aW _ e,jO,aAz];grind
theorem aSr{row:List Rat}(r:List Rat){b:Nat}(hb:b<row.length)(x:Rat):cR (row.set b x) r=cR row r+(x-row.getD b 0)*r.getD b 0:=by
 unfold cR;rw[List.length_set];have e:∀k,k<row.length→(row.set b x).getD k 0*r.getD k 0=row.getD k 0*r.getD k 0+(if k=b then(x-row.getD b 0)*r.getD b 0 else 0):=fun k hk=>by
  rw[dJ];by_cases h:b=k
  ·subst h;rw[if_pos ⟨rfl,hk⟩,if_pos rfl];grind
  ·rw[if_neg (fun c=>h c.1),if_neg (fun c=>h c.symm)];grind
 rw[aW _ e,pT,kI (f:=fun k=>if k=b then(x-row.getD b 0)*r.getD b 0 else 0) b _ hb fun k _ hne=>if_neg hne,if_pos rfl]
theorem aBo{M:List (List Rat)}(b:Nat)(gr:List Rat){i:Nat}(hi:i<M.length):∀k,k≤M.length→(nV M b gr k).getD i []=if i<k then(M.getD i []).set b (gr.getD i 0)else M.getD i []
 |0,_=>by rw[nV,if_neg (by omega)]
 |k+1,hk=>by
  have hl:(nV M b gr k).length=M.length:=by
   have:=oP (M:=M) (n:=M.length) (k:=0);clear this;exact colJ_len M b gr k
  rw[nV];by_cases e:k=i
  ·subst e;rw[gD,List.getElem?_set_self (by omega),Option.getD_some,aBo b gr hi k (by omega),if_neg (by omega),if_pos (by omega)]
  ·rw[gD,List.getElem?_set_ne e,←gD,aBo b gr hi k (by omega)];by_cases h:i<k
   ·rw[if_pos h,if_pos (by omega)]
   ·rw[if_neg h,if_neg (by omega)]
where
 colJ_len (M:List (List Rat)) (b:Nat) (gr:List Rat):∀k,(nV M b gr k).length=M.length
  |0=>rfl
  |k+1=>by rw[nV,List.length_set,colJ_len M b gr k]
theorem aBp{i k:Nat}(hi:i<k){r:List Rat}:(List.replicate k r).getD i []=r:=by
 rw[gD,List.getElem?_replicate,if_pos hi];rfl
theorem wQ{n:NetD}{i:Nat}(hi:i<n.branches.length)(j:Nat):(fZ n (j+1)).getD i []=((fZ n j).getD i []).set (frN n j) ((grN n (frN n j) (eA n (frN n j))).getD i 0):=by
 have hl:=(fW n j).len;rw[fZ];have:=aBo (M:=fZ n j) ((aN n).getD j 0).toNat (grN n ((aN n).getD j 0).toNat (eA n ((aN n).getD j 0).toNat)) (i:=i) (by rw[hl];exact hi) n.branches.length (by rw[hl];exact Nat.le_refl _);rw[this,if_pos hi];rfl
theorem zG{n:NetD}{i:Nat}(hi:i<n.branches.length):∀j,∀x,(∀k,k<j→frN n k≠x)→((fZ n j).getD i []).getD x 0=0
 |0,x,_=>by
  rw[fZ,aBp hi,jG]
 |j+1,x,h=>by
  rw[wQ hi,dJ,if_neg (fun c=>h j (by omega) c.1)];exact zG hi j x fun k hk=>h k (by omega)
theorem aEt{n:NetD}{i:Nat}(hi:i<n.branches.length)(r:List Rat):∀j,j≤nfN n→cR ((fZ n j).getD i []) r=sm j fun k=>(grN n (frN n k) (eA n (frN n k))).getD i 0*r.getD (frN n k) 0
 |0,_=>by
  rw[fZ,aBp hi,cR];exact gL _ fun k _=>by rw[jG,Rat.zero_mul]
 |j+1,hj=>by
  have hr:=(fW n j).rowlen (i:=i) hi;rw[wQ hi,aSr r (by rw[hr];exact(wP (by omega)).2),aEt hi r j (by omega),zG hi j _ fun k hk e=>absurd (aSn (by omega) (by omega) e) (by omega),sm];grind
def pZ(n:NetD)(r:List Rat):List Rat:=(oU n).map fun row=>cR row r
theorem aBq(n:NetD)(r:List Rat):pZ n r=grK (bR n) (toL n) (bLQ n) (thN n r) n.branches.length:=by
 have hl:=(fW n (nfN n)).len;refine jI (by rw[oC];simp[pZ,oU,hl]) fun i hi=>?_;have hi:i<n.branches.length:=by simpa[pZ,oU,hl]using hi
 rw[aSq hi,←aEt hi r _ lR,pZ,gD,List.getElem?_map,gD,oU,gE (by rw[hl];exact hi)];rfl
theorem aSs(n:NetD)(inj:List Int):jV n inj=cK (pZ n (smN n inj)) (jV n (zI n)):=by rw[aBq];exact aMm n inj
theorem aVt{n:NetD}{row:List Rat}(hr:row∈oU n){x:Rat}(hx:x∈row):x=0∨∃u v,u<nbN n∧v<nbN n∧x∈grN n u v:=by
 have hl:=(fW n (nfN n)).len;obtain⟨i,hi,rfl⟩:=List.mem_iff_getElem.1 hr;have hi2:i<n.branches.length:=by rw[←hl];exact hi
 have key:∀j,j≤nfN n→∀y∈(fZ n j).getD i [],y=0∨∃u v,u<nbN n∧v<nbN n∧y∈grN n u v:=by
  intro j;induction j with
  |zero=>
   intro _ y hy;rw[fZ,aBp hi2]at hy;exact .inl (List.mem_replicate.1 hy).2
  |succ j ih=>
   intro hj y hy;rw[wQ hi2]at hy;rcases List.mem_or_eq_of_mem_set hy with h|h
   ·exact ih (by omega) y h
   ·have h2:=(wP (n:=n) (j:=j) (by omega)).2;refine .inr ⟨_,_,h2,(sW h2).1,?_⟩;rw[h,gD,gE (by rw[oO];exact hi2)];exact List.getElem_mem _
 refine key (nfN n) lR x ?_;rw[gD,gE (show i<(fZ n (nfN n)).length from hi)];exact hx
theorem aVu{n:NetD}(h:VNet n)(hw:jH n=false):(oU n).all (fun r=>r.all bJ)=true:=by
 rw[List.all_eq_true];intro r hr;rw[List.all_eq_true];intro x hx;rcases aVt hr hx with rfl|⟨u,v,hu,hv,hm⟩
 ·decide+kernel
 ·exact List.all_eq_true.1 (aYe h hw hu hv) x hm
theorem aEu{n:NetD}(h:VNet n)(hw:jH n=false){inj:List Int}(hi:∀i,-100000≤inj.getD i 0∧inj.getD i 0≤100000):(pZ n (smN n inj)).all bJ=true:=by
 obtain⟨e,he⟩:=uR h hw;obtain⟨h8,hb,-⟩:=iI hw;have hK:IB (10^3) (1000:Rat):=⟨1000,rfl,by decide⟩;have hs:Small n (smN n inj):=fun i=>IB.ten (k:=3+(80+6)) (gF hK (gF (aHu h hb) (aOt h8 hi i))) (by omega);rw[aBq,List.all_eq_true];intro q hq;obtain⟨i,hi,rfl⟩:=List.mem_map.1 hq;have hi:=List.mem_range.1 hi;have e2:wW (bR n) (toL n) (bLQ n) (thN n (smN n inj)) i=bQ n.branches[i]*((thN n (smN n inj)).getD (aU n n.branches[i].src).toNat 0-(thN n (smN n inj)).getD (aU n n.branches[i].dst).toNat 0):=by
  simp[wW,bR,toL,bLQ,hi]
 rw[e2];exact(((he.df _ hs _ (List.getElem_mem hi) _ _).mono (show 828≤830 by omega)).sz he.sz he.ne).fit (by omega) (by omega)
end
section
open Go.RowKit
theorem aSt{n:NetD}(h:aT n=0):bP n (zI n)=0:=by
 have hl:(zI n).length=n.nodes.length:=by simp[zI]
 rw[aKj h hl,if_neg,if_pos]
 ·refine List.all_eq_true.2 fun x _=>?_;rw[beq_iff_eq,aHx _ _ _ (by rw[kS,hl]),kS];exact zZ _ fun j _=>by rw[aWh];split<;>rfl
 ·intro h2;obtain⟨p,hp,ho⟩:=List.any_eq_true.1 h2;rw[zI]at hp;rw[(List.mem_replicate.1 hp).2]at ho;exact absurd ho (by decide)
theorem zH{n:NetD}(hw:jH n=false)(h:aT n=0):eW n (zI n)=0:=by rw[aTv hw];exact aSt h
theorem aJi{z:Int}(h:z.natAbs<10^8):SzQ (z:Rat) 8:=⟨by rw[Rat.num_intCast];exact h,by rw[Rat.den_intCast];decide⟩
theorem aMn{z:Int}(h:z.natAbs<10^8):wC z 1=(aJ (z:Rat),0):=by
 rw[wC,if_neg (by decide),show Rat.divInt z 1=(z:Rat)from Rat.mkRat_one z,qX,if_pos ((aJi h).fit (by decide) (by decide))]
theorem aSu{l:List Rat}(h:l.all bJ=true):dL (l.map aJ)=l:=by
 rw[dL,List.map_map];exact(List.map_congr_left fun q hq=>(nG q (List.all_eq_true.1 h q hq)).2).trans (List.map_id l)
theorem aSv(n:NetD)(inj:List Int):(smN n inj).length=nbN n:=by rw[smN,smQ,List.length_map,jZ]
theorem zJ{n:NetD}(h:VNet n){inj:List Int}(hi:∀i,-100000≤inj.getD i 0∧inj.getD i 0≤100000):∀z∈smI (aC n) inj (nbN n) n.nodes.length,z.natAbs<10^8:=fun z hz=>by
 obtain⟨i,hl,rfl⟩:=List.mem_iff_getElem.1 hz;have h1:=fQ (bus:=aC n) (nb:=nbN n) hi n.nodes.length i;rw[gD,gE hl,Option.getD_some]at h1;have:=h.hn;have e:(10:Nat)^8=100000000:=by decide
 omega
theorem aEv{n:NetD}(h:VNet n){inj:List Int}(hi:∀i,-100000≤inj.getD i 0∧inj.getD i 0≤100000):(smN n inj).all bJ=true:=List.all_eq_true.2 fun q hq=>by
 obtain⟨z,hz,rfl⟩:=List.mem_map.1 hq;exact(aJi (zJ h hi z hz)).fit (by decide) (by decide)
theorem aMo{n:NetD}(h:VNet n)(hc:aT n=0)(hw:jH n=false)(h0:0<n.branches.length){inj:List Int}(hi:∀i,-100000≤inj.getD i 0∧inj.getD i 0≤100000): aBm n=((oU n).map fun r=>r.map aJ,0)∧eL ((oU n).map fun r=>r.map aJ) ((smN n inj).map aJ)=((pZ n (smN n inj)).map aJ,0):=by
 have hr:=fW n (nfN n);have hf:=aVu h hw;obtain⟨h8,hb,-⟩:=iI hw;have hnb:=aFl h h8;have b:=aQu hr (by omega) (Or.inl (by omega)) hf;have hs:=aEv h hi;have hl:=aSv n inj;have hv:eG ((smN n inj).map aJ)=0:=by
  have:=aWz hs (by omega);rwa [nO]at this
 refine⟨by rw[aBm,if_neg (fun k=>k hc)];exact aBe hf,?_⟩;rw[eL,if_neg (fun k=>k b.1.chk),if_neg (fun k=>k hv),if_neg,show oU n=fZ n (nfN n)from rfl,b.2,aSu hs]
 ·have:=aEu h hw hi;exact(show txV (pZ n (smN n inj))=_ by rw[txV,if_pos this])
 ·intro k;refine k.2 ?_;have e:=aZf b.1.rect h0;rw[show fZ n (nfN n)=oU n from rfl]at e;rw[e,List.length_map,hl]
theorem zK(n:NetD)(v:NetV)(inj:List Int)(m:Nat)(A:Option Addr)(c:Nat)(w:World)(hN:Net w n v)(hj:Reads w w.heap.size 1 A m (inj.map I))(hm:m≤9223372036854775807)(htab:Tab w):Calls Tryz.prog 36 #[v.val n,.slice A m c] w fun e w'=>
  ∃SA la ca SB lb cb,e= .returned (.tuple #[.agg #[.slice SA la ca,.slice SB lb cb],I (eW n inj)])∧(eW n inj=0→lb=n.branches.length∧Row w' w.heap.size mD 1 (.slice SB lb cb) lb ((mkS ((jV n inj).map aJ)).map Sv))∧Below w.heap.size w w':=(aKe n v inj m A c w hN hj hm htab).mono fun e w' hh=>by
  obtain⟨a,b,h1,h2,h3,_,h5⟩:=hh;by_cases hc:eW n inj=0
  ·obtain⟨ha,hb⟩:=h2 hc;obtain⟨SA,ca,rfl⟩:=ha.val;obtain⟨SB,cb,rfl⟩:=hb.val;rw[uS]at hb h1;exact⟨_,_,_,_,_,_,h1,fun _=>⟨rfl,hb⟩,h5⟩
  ·obtain⟨rfl,rfl⟩:=h3 hc;exact⟨_,_,_,_,_,_,h1,fun h=>absurd h hc,h5⟩
end
end Go.Proofs.YtenbglfkdldheaaGreatDoor
