/- matrix.Mul. 'm[i][k] = q' at matrices of numbers. slices.Repeat at vectors of texts, of one element. matrix.Dot, matrix.Apply. -/
import Derived.Test.YtenbglfkdldheaaGreatDoorKT
import Derived.Test.YtenbglfkdldheaaGreatDoorKS
import Derived.Laws.CopyOwn
import Derived.Deep.RegionLaw
set_option maxRecDepth 100000
set_option maxHeartbeats 4000000
namespace Go.Proofs.YtenbglfkdldheaaGreatDoor
open Go.RowKit
theorem fI{N M:Nat}{x y:Rat}(hx:FitR N x)(hy:FitR M y):FitR (N+M+1) (x+y):=by
 have h:=vH x y;have h1:=jD (x.num*(y.den:Int)+y.num*(x.den:Int)) ((x.den:Int)*(y.den:Int));rw[h]at h1;have f1:=(hx.1.mul hy.2).add (show Fits (N+M) (y.num*(x.den:Int)) by rw[Nat.add_comm];exact hy.1.mul hx.2);have f2:=(hx.2.mul hy.2).mono (show N+M≤N+M+1 by omega);unfold FitR Fits at*;have hd:(1:Int)≤((x.den:Int)*(y.den:Int)).natAbs:=by
  have:=vK (pP x) (pP y);omega
 exact⟨by omega,by omega⟩
theorem eD:FitR 1 0:=⟨xJ 1,by unfold Fits;decide⟩
theorem wL{N:Nat}{f:Nat→Rat}:∀(n:Nat),(∀i,i<n→FitR N (f i))→FitR (n*(N+1)+1) (sm n f)
 |0,_=>eD.mono (by omega)
 |n+1,h=>by
  rw[sm];exact(fI (wL n fun i hi=>h i (by omega)) (h n (by omega))).mono (by rw[Nat.succ_mul];omega)
theorem aGs{N M K:Nat}{a b:List Rat}(hl:a.length≤K)(hM:K*(N+N+1)+1≤M)(hN:N≤M)(ha:∀i,i<a.length→FitR N (a.getD i 0))(hb:∀i,i<a.length→FitR N (b.getD i 0)):DotFit M a b:=⟨fun i hi=>(ha i hi).mono hN,fun i hi=>(hb i hi).mono hN,fun k hk=>(wL k fun i hi=>lE (ha i (by omega)) (hb i (by omega))).mono (Nat.le_trans (Nat.add_le_add_right (Nat.mul_le_mul_right _ (Nat.le_trans hk hl)) 1) hM)⟩
def Fit1(l:List Rat):Prop:=∀q∈l,FitR 210 q
def Fit2(m:List (List Rat)):Prop:=∀r∈m,Fit1 r
theorem Fit1.at_{l:List Rat}(h:Fit1 l)(i:Nat):FitR 210 (l.getD i 0):=by
 rw[gD];cases e:l[i]? with
 |none=>exact eD.mono (by decide)
 |some q=>exact h q (List.mem_of_getElem? e)
theorem Fit2.at_{m:List (List Rat)}(h:Fit2 m)(i:Nat):Fit1 (m.getD i []):=by
 rw[gD];cases e:m[i]? with
 |none=>intro q hq;cases hq
 |some q=>exact h q (List.mem_of_getElem? e)
theorem zA{l:List (List UInt8)}(h:∀s∈l,fY s=0):Fit1 (dL l):=by
 intro q hq;obtain⟨s,hs,rfl⟩:=List.mem_map.1 hq;exact aUv (aDb s (h s hs))
theorem oN{m:MT}{n k:Nat}(h:VM m n k):Fit2 (bU m):=by
 intro r hr;obtain⟨l,hl,rfl⟩:=List.mem_map.1 hr;exact zA (h.ok l hl)
theorem tV{m:List (List ByteArray)}{n k:Nat}(h:VM (tx2 m) n k):aZh m:=by
 intro l hl;have hm:tx1 l∈tx2 m:=List.mem_map.2 ⟨l,hl,rfl⟩;refine⟨fun s hs=>h.ok _ hm _ (List.mem_map.2 ⟨s,hs,rfl⟩),?_⟩;have h1:=h.rect.row _ hm;rw[tx1,List.length_map]at h1;rcases h.hk with h2|h2
 ·omega
 ·have:=h.rect.len;rw[h2]at this;rw[List.eq_nil_of_length_eq_zero this]at hm;cases hm
theorem aBj(a b:Int):cM [a,b]=if a≠0 then a else b:=by
 simp only[cM];split
 ·rfl
 ·split
  ·rfl
  ·rename_i h;exact(Decidable.not_not.1 h).symm
theorem rG(w:World)(t:TypeId)(a b:Int):Reads (w.alloc (.cells #[I a,I b] t)) (w.alloc (.cells #[I a,I b] t)).heap.size 1 (some ⟨w.heap.size,0,none⟩) 2 ([a,b].map I):=by
 have:=vX w t ([a,b].map I);rw[World.size_alloc];exact this
abbrev oT:TypeId:=34
theorem aGt(a b:Int)(r:MT×Int)(h:cM [a,b]≠0):aGf a b r=([],cM [a,b]):=by
 rw[aBj]at h⊢;unfold aGf;by_cases ha:a≠0
 ·rw[if_pos ha,if_pos ha]
 ·rw[if_neg ha]at h⊢;rw[if_neg ha,if_pos h]
theorem wM{a b:Int}(h:cM [a,b]=0):a=0∧b=0:=by
 rw[aBj]at h;split at h
 ·rename_i h1;exact absurd h h1
 ·rename_i h1;exact⟨Decidable.not_not.1 h1,h⟩
theorem aBk{A B:Option Addr}{n c n' c':Nat}(h:Value.slice A n c= .slice B n' c'):A=B:=by
 injection h
theorem RRow.putEl{w:World}{base g off n c:Nat}{qs:List Rat}(h:RRow w base (.slice (some ⟨g,off,none⟩) n c) qs){k:Nat}(hk:k<n){u0 u1 u2 u3:Value}{r:Rat}(hr:Rt w (.agg #[u0,u1,u2,u3]) r): RRow (put4 w g (off+k*4) u0 u1 u2 u3) base (.slice (some ⟨g,off,none⟩) n c) (qs.set k r)∧Kw w (put4 w g (off+k*4) u0 u1 u2 u3)∧base≤g:=by
 obtain⟨⟨xs,hrow,hxs⟩,hnw⟩:=h;have hn:qs.length=n:=by
  obtain⟨A',c',e⟩:=hrow.val;injection e with _ e _;exact e.symm
 rw[hn]at hrow;obtain⟨hb,hlt,cur,hB⟩:=own_lt hrow (g:=g) rfl;obtain⟨n0,n1,n2,n3⟩:=hr.noW;have hcw:=oJ hB (fun o x=>hnw g o x rfl);have hkw:=aIp hB hcw (off+k*4) (u3:=u3) n0 n1 n2;obtain⟨cs',hB',hw'⟩:=aQw hB hcw (off+k*4) n0 n1 n2 n3;have h0:=hrow.set_at (j:=k*4) (by omega) u0;have h1:=h0.set_at (j:=k*4+1) (by omega) u1;have h2:=h1.set_at (j:=k*4+2) (by omega) u2;have h3:=h2.set_at (j:=k*4+3) (by omega) u3;refine⟨⟨⟨nM xs k u0 u1 u2 u3,?_,(hxs.kw hkw).set_ (hr.kw hkw) k (by omega)⟩,fun g' o x hg'=>?_⟩,hkw,hb⟩
 ·rw[List.length_set,hn];exact h3
 ·have hg':g=g':=by simpa[Value.ownBlock]using hg'
  subst hg';exact dZ hB' hw' o x
theorem LM.elem{w:World}{base g off cap n:Nat}{vs:List Value}{m:List (List Rat)}(h:LM w base (.slice (some ⟨g,off,none⟩) n cap) vs m)(hn:m.length=n){i k:Nat}(hi:i<n)(hk:k<(m.getD i []).length): ∃b o c nb B1 l1 c1 B2 l2 c2,vs[i]?=some (.slice (some ⟨b,o,none⟩) (m.getD i []).length c)∧w.cell? ⟨g,off+i,none⟩=some (.slice (some ⟨b,o,none⟩) (m.getD i []).length c)∧ C4 w b (o+k*4) (.bool nb) (.slice B1 l1 c1) (.bool false) (.slice B2 l2 c2)∧Rt w (.agg #[.bool nb,.slice B1 l1 c1,.bool false,.slice B2 l2 c2]) ((m.getD i []).getD k 0)∧(∀j,w.frozen? ⟨b,j,none⟩=false)∧base≤g∧g<w.heap.size∧base≤b∧b<w.heap.size∧g≠b:=by
 subst hn;obtain⟨g',off',cap',B,c,e,hb,hlt,hu,hc,hf,hr⟩:=h.at_ hi;obtain⟨rfl,rfl⟩:=mB e;have hq:(m.getD i [])[k]?=some ((m.getD i []).getD k 0):=by rw[gD (l:=m.getD i []),gE hk];rfl
 obtain⟨b,o,nb,B1,l1,c1,B2,l2,c2,rfl,hbl,hC,hrt⟩:=hr.rv.form hk _ hq;obtain⟨cur,hB⟩:=hr.blk (g:=b) rfl;obtain⟨cs,hO⟩:∃cs,Blk w g bN cs:=by
  obtain⟨g',off',cap',cur,e,_,hh,_⟩:=h.outer.form (by omega);obtain⟨rfl,rfl⟩:=mB e;exact⟨_,hh⟩
 exact⟨b,o,c,nb,B1,l1,c1,B2,l2,c2,hu,hc,hC,hrt,fun j=>hB.frozen j,hb,hlt,(hr.lt (g:=b) rfl).1,hbl,fun e=>hr.ne_outer hO (by rw[e];rfl)⟩
theorem LM.putEl{w:World}{base g off cap n:Nat}{vs:List Value}{m:List (List Rat)}(h:LM w base (.slice (some ⟨g,off,none⟩) n cap) vs m)(hn:m.length=n){i k b o l c:Nat}(hi:i<n)(hu:vs[i]?=some (.slice (some ⟨b,o,none⟩) l c))(hk:k<l) {u0 u1 u2 u3:Value}{r:Rat}(hr:Rt w (.agg #[u0,u1,u2,u3]) r):
  LM (put4 w b (o+k*4) u0 u1 u2 u3) base (.slice (some ⟨g,off,none⟩) n cap) vs (m.set i ((m.getD i []).set k r))∧Kw w (put4 w b (o+k*4) u0 u1 u2 u3):=by
 subst hn;have hmi:m[i]?=some (m.getD i []):=by rw[gD,gE hi];rfl
 have hrow:=h.inner i _ _ hu hmi;obtain⟨h1,hkw,_⟩:=hrow.putEl hk hr;obtain⟨cur,hB⟩:=hrow.blk (g:=b) rfl;have hne:∀{x:Value} {xs:List Value} {n':Nat},Row w base bN 1 x n' xs→∀g',x.ownBlock=some g'→g'≠b:=by
  intro x xs n' hx g' hg' e;subst e;obtain⟨_,_,cs,hC⟩:=own_lt hx hg';unfold Blk at hC hB;rw[hC]at hB;injection hB with hB;injection hB with _ ht;exact absurd ht (by decide)
 refine⟨⟨?_,fun j u qs h2 h3=>?_,h.apart⟩,hkw⟩
 ·have ho:=h.outer;rw[List.length_set];obtain⟨k1,k2⟩:=id ho;refine⟨k1,k2.imp id ?_⟩;rintro⟨g',off',cap',cur',hv',hb',hh',r'⟩;exact⟨g',off',cap',cur',hv',hb',(cO w _ _ _ _ _ (hne ho g' (by rw[hv'];rfl))).trans hh',r'⟩
 ·by_cases hij:i=j
  ·subst hij;rw[hu]at h2;injection h2 with h2;subst h2;rw[List.getElem?_set_self hi]at h3;injection h3 with h3;subst h3;exact h1
  ·rw[List.getElem?_set_ne hij]at h3;have hj:=h.inner j u qs h2 h3;exact hj.keep hkw fun g' hg'=>cO w _ _ _ _ _ fun e=>h.apart i j _ u b hij hu h2 rfl (by rw[hg',e])
theorem cA{w w':World}{B g o:Nat}(hb:Below B w w')(hg:B≤g)(u0 u1 u2 u3:Value):Below B w (put4 w' g o u0 u1 u2 u3):=(((hb.setCell (p:=⟨g,o,none⟩) hg u0).setCell (p:=⟨g,o+1,none⟩) hg u1).setCell (p:=⟨g,o+2,none⟩) hg u2).setCell (p:=⟨g,o+3,none⟩) hg u3
theorem LM.keepB{w w':World}{base:Nat}{v:Value}{vs:List Value}{m:List (List Rat)}(h:LM w base v vs m)(k:Kw w w')(hk:∀g,base≤g→g<w.heap.size→w'.heap[g]?=w.heap[g]?):LM w' base v vs m:=⟨h.outer.keep hk,fun i u qs h1 h2=>(h.inner i u qs h1 h2).keep k fun g hg=>hk g ((h.inner i u qs h1 h2).lt hg).1 ((h.inner i u qs h1 h2).lt hg).2,h.apart⟩
structure El(w:World)(b o:Nat)(x0 x1 x2 x3:Value):Prop where
 c0:w.cell? ⟨b,o,none⟩=some x0
 c1:w.cell? ⟨b,o+1,none⟩=some x1
 c2:w.cell? ⟨b,o+2,none⟩=some x2
 c3:w.cell? ⟨b,o+3,none⟩=some x3
 f0:w.frozen? ⟨b,o,none⟩=false
 f1:w.frozen? ⟨b,o+1,none⟩=false
 f2:w.frozen? ⟨b,o+2,none⟩=false
 f3:w.frozen? ⟨b,o+3,none⟩=false
theorem El.below{w w':World}{b o:Nat}{x0 x1 x2 x3:Value}(h:El w b o x0 x1 x2 x3)(hb:Below w.heap.size w w'):El w' b o x0 x1 x2 x3:=by
 have hl:=World.block_lt_of_cell? w ⟨b,o,none⟩ h.c0;exact⟨(hb.cell (p:=⟨b,o,none⟩) hl).trans h.c0,(hb.cell (p:=⟨b,o+1,none⟩) hl).trans h.c1,(hb.cell (p:=⟨b,o+2,none⟩) hl).trans h.c2,(hb.cell (p:=⟨b,o+3,none⟩) hl).trans h.c3,(hb.frozen (p:=⟨b,o,none⟩) hl).trans h.f0,(hb.frozen (p:=⟨b,o+1,none⟩) hl).trans h.f1,(hb.frozen (p:=⟨b,o+2,none⟩) hl).trans h.f2,(hb.frozen (p:=⟨b,o+3,none⟩) hl).trans h.f3⟩
theorem RRow.el{w:World}{base:Nat}{v:Value}{qs:List Rat}(h:RRow w base v qs){n k:Nat}(hn:qs.length=n)(hk:k<n): ∃b o c nb B1 l1 c1 B2 l2 c2,v= .slice (some ⟨b,o,none⟩) n c∧El w b (o+k*4) (.bool nb) (.slice B1 l1 c1) (.bool false) (.slice B2 l2 c2)∧base≤b∧b<w.heap.size:=by
 subst hn;obtain⟨A,c,rfl⟩:=h.val;have hq:qs[k]?=some (qs.getD k 0):=by rw[gD,gE hk];rfl
 obtain⟨b,o,nb,B1,l1,c1,B2,l2,c2,rfl,hbl,hC,hrt⟩:=h.rv.form hk _ hq;obtain⟨cur,hB⟩:=h.blk (g:=b) rfl;exact⟨b,o,c,nb,B1,l1,c1,B2,l2,c2,rfl,⟨hC.c0,hC.c1,hC.c2,hC.c3,hB.frozen _,hB.frozen _,hB.frozen _,hB.frozen _⟩,(h.lt (g:=b) rfl).1,hbl⟩
theorem aEh(x n:Int)(w:World)(hx:x=1)(h0:0≤n)(h1:n≤1099511627776): Calls Tryz.prog 164 #[.int .u64 x,.int .u64 n] w fun e w'=>e= .returned (.tuple #[.int .u64 0,.int .u64 n])∧w=w':=by
 subst hx;obtain⟨k,rfl⟩:=Int.eq_ofNat_of_zero_le h0;refine(Tryz.bits_Mul 1 k (by omega) (by omega) w).mono fun e w' ⟨he,hw⟩=>⟨?_,hw.symm⟩;rw[he];have e1:1*k/18446744073709551616=0:=by rw[Nat.div_eq_of_lt];omega
 have e2:1*k%18446744073709551616=k:=by rw[Nat.mod_eq_of_lt]<;>omega
 rw[e1,e2];rfl
def SV(w:World)(A:Option Addr)(n:Nat)(l:List ByteArray):Prop:=Reads w w.heap.size 1 A n (l.map Sv)
theorem SV.below{w w':World}{A:Option Addr}{n:Nat}{l:List ByteArray}(h:SV w A n l)(hb:Below w.heap.size w w'):SV w' A n l:=(Reads.below h hb).more hb.size
theorem SV.len{w:World}{A:Option Addr}{n:Nat}{l:List ByteArray}(h:SV w A n l):l.length=n:=by have:=h.1;simpa using this
def RetVT(w:World)(r:List (List UInt8)×Int)(e:Ending)(w':World):Prop:=∃A n c l,e= .returned (.tuple #[.slice A n c,I r.2])∧SV w' A n l∧tx1 l=r.1∧Sh1 l∧Below w.heap.size w w'
theorem RetVT.none_{w w':World}{c:Int}{r:List (List UInt8)×Int}(h:r=([],c))(hb:Below w.heap.size w w'):RetVT w r (.returned (.tuple #[.slice none 0 0,I c])) w':=⟨none,0,0,[],by rw[h],Reads.nil,by rw[h];rfl,fun l h=>by simp at h,hb⟩
theorem aIz{l:List ByteArray}(h:eG (tx1 l)=0):aXr l:=fun s hs=>(tS h).2 _ (List.mem_map.2 ⟨s,hs,rfl⟩)
theorem aJa{l:List ByteArray}(h:eG (tx1 l)=0):Fit1 (dL (tx1 l)):=zA (tS h).2
theorem aEi{a:MT}{b:List (List UInt8)}(h:cM [cU a,eG b]≠0):eL a b=([],cM [cU a,eG b]):=by
 rw[aBj]at h⊢;unfold eL;by_cases ha:cU a≠0
 ·rw[if_pos ha,if_pos ha]
 ·rw[if_neg ha]at h⊢;rw[if_neg ha,if_pos h]
theorem aEj{a b:List Rat}(hl:a.length≤40)(ha:Fit1 a)(hb:Fit1 b):DotFit 17000 a b:=aGs (N:=210) (K:=40) hl (by decide) (by decide) (fun j _=>ha.at_ j) (fun j _=>hb.at_ j)
theorem aMg(a:List (List ByteArray))(na:Nat)(Aa:Option Addr)(ca:Nat)(b:List ByteArray)(nb:Nat)(Ab:Option Addr)(cb:Nat)(w:World)(ha:SMat w Aa na a)(sa:Sh2 a)(hb:SV w Ab nb b)(sb:Sh1 b)(htab:Tab w)(h0:cM [cU (tx2 a),eG (tx1 b)]≠0): Calls Tryz.prog 53 #[.slice Aa na ca,.slice Ab nb cb] w (RetVT w (eL (tx2 a) (tx1 b))):=by
 have HE:=aH (aEi h0);have Ha:=aH ha;have Sa:=aH sa;have Hb:=aH hb;have Sb:=aH sb;have HTB:=aH htab;have hca:=kY a na Aa ca w (Ha.out) Sa.out (HTB.out);have HCA:=aH hca;clear hca ha sa hb sb htab;go_enter Tryz.func53,Tryz.ntmps53;go_wp2_with fail;refine HCA.out.mono ?_;rintro e w1 ⟨rfl,hb1⟩;have HB1:=aH hb1;have hcb:=wA b nb Ab cb w1 (Hb.out.below hb1) Sb.out (aI HTB.out hb1);have HCB:=aH hcb;clear hb1 HCA hcb;go_wp2_with fail;refine HCB.out.mono ?_;rintro e w2 ⟨rfl,hb2⟩;have HB2:=aH (HB1.out.trans (hb2.mono HB1.out.size));have HF:=aH (oI [cU (tx2 a),eG (tx1 b)] 2 (some ⟨w2.heap.size,0,none⟩) 2 (w2.alloc (.cells #[I (cU (tx2 a)),I (eG (tx1 b))] oT)) (rG w2 oT _ _) (by omega));have HB3:=aH (HB2.out.alloc HB2.out.size (.cells #[I (cU (tx2 a)),I (eG (tx1 b))] oT));unfold oT at*;clear hb2 HB1 HB2 HCB;have tc:(cM [cU (tx2 a),eG (tx1 b)] !=0)=true:=bne_iff_ne.2 h0;have HQ:=aH (RetVT.none_ (w:=w) HE.out HB3.out);clear h0 HE;generalize cM [cU (tx2 a),eG (tx1 b)]=fe at*;go_wp2_with fail;refine HF.out.mono ?_;rintro e w3 ⟨rfl,rfl⟩;clear HF;go_wp2;go_ret2;exact HQ.out
theorem aGu(a:List (List ByteArray))(na:Nat)(Aa:Option Addr)(ca:Nat)(b:List ByteArray)(nb:Nat)(Ab:Option Addr)(cb:Nat)(w:World)(ha:SMat w Aa na a)(sa:Sh2 a)(hb:SV w Ab nb b)(sb:Sh1 b)(htab:Tab w)(h1:cU (tx2 a)=0)(h2:eG (tx1 b)=0): Calls Tryz.prog 53 #[.slice Aa na ca,.slice Ab nb cb] w (RetVT w (eL (tx2 a) (tx1 b))):=by
 have la:a.length=na:=by obtain⟨_,_,h,_⟩:=ha;exact h
 have lb:=hb.len;have VA:=aH (aBd h1);have LA:=aH (show(tx2 a).length=na by rw[tx2,List.length_map,la]);have LB:=aH (show(tx1 b).length=nb by rw[tx1,List.length_map,lb]);have hna:na≤40:=by have:=VA.out.hn;rw[LA.out]at this;exact this
 have hnb:nb≤40:=by have:=(tS h2).1;rw[LB.out]at this;exact this
 clear la lb;have H1:=aH h1;have H2:=aH h2;clear h1 h2;have Ha:=aH ha;have Sa:=aH sa;have Hb:=aH hb;have Sb:=aH sb;have HTB:=aH htab;have hca:=kY a na Aa ca w (Ha.out) Sa.out (HTB.out);rw[H1.out]at hca;have HCA:=aH hca;clear hca ha sa hb sb htab;go_enter Tryz.func53,Tryz.ntmps53;go_wp2_with fail;refine HCA.out.mono ?_;rintro e w1 ⟨rfl,hb1⟩;have HB1:=aH hb1;have hcb:=wA b nb Ab cb w1 (Hb.out.below hb1) Sb.out (aI HTB.out hb1);rw[H2.out]at hcb;have HCB:=aH hcb;clear hb1 HCA hcb;go_wp2_with fail;refine HCB.out.mono ?_;rintro e w2 ⟨rfl,hb2⟩;have HB2:=aH (HB1.out.trans (hb2.mono HB1.out.size));have HF:=aH (oI [0,0] 2 (some ⟨w2.heap.size,0,none⟩) 2 (w2.alloc (.cells #[I (0),I (0)] oT)) (rG w2 oT _ _) (by omega));have HB3:=aH (HB2.out.alloc HB2.out.size (.cells #[I (0),I (0)] oT));unfold oT at*;clear hb2 HB1 HB2 HCB;rw[show cM [0,0]=0 from rfl]at HF;go_wp2_with fail;refine HF.out.mono ?_;rintro e w3 ⟨rfl,rfl⟩;generalize w2.alloc (.cells #[I 0,I 0] 34)=w3 at*;clear HF;have HW:=aH (rW a na Aa ca w3 (Ha.out.below HB3.out));by_cases h0:0<na
 ·have t0:decide (0<na)=true:=decide_eq_true h0;by_cases hw:wd (tx2 a)=nb
  ·have tw:((wd (tx2 a):Int) !=(nb:Int))=false:=by rw[hw];simp
   have HRES:=aH (show eL (tx2 a) (tx1 b)=txV ((bU (tx2 a)).map fun r=>cR r (dL (tx1 b))) by
    unfold eL;rw[H1.out,H2.out,if_neg (by decide),if_neg (by decide),if_neg (by rw[LA.out,LB.out];exact fun h=>h.2 hw)])
   have HQL:=aH (show∀r∈bU (tx2 a),r.length≤nb from fun r hr=>by rw[VA.out.vals.row r hr];omega);clear hw;generalize hwe:wd (tx2 a)=wa at*;clear hwe;go_wp2_with fail;refine HW.out.mono ?_;rintro e w4 ⟨rfl,rfl⟩;clear HW;have HP:=aH (mC b nb Ab cb w4 (Hb.out.below HB3.out) Sb.out (aIz H2.out) (by omega));go_wp2_with fail;refine HP.out.mono ?_;rintro e wv ⟨v,rfl,hv,hb⟩;have HB4:=aH (HB3.out.trans (hb.mono HB3.out.size));have HV:=aH hv;have HM:=aH (mE a na Aa ca wv (Ha.out.below HB4.out) Sa.out (tV VA.out) (by omega));clear hv hb HP HB3;go_wp2_with fail;refine HM.out.mono ?_;rintro e w5 ⟨vx,xs,rfl,hx,hb⟩;have HB5:=aH (HB4.out.trans (hb.mono HB4.out.size));have hv5:=HV.out.call hb;obtain⟨A1,c1,rfl⟩:=hv5.val;obtain⟨Ax,cx,rfl⟩:=hx.val;have l1:(dL (tx1 b)).length=nb:=by rw[dL,List.length_map,LB.out]
   have l2:(bU (tx2 a)).length=na:=by rw[bU,List.length_map,LA.out]
   have hr:=hv5.rv;rw[l1]at hr⊢;rw[l2]at hx⊢;have RV5:=aH hr;have RM5:=aH hx.rm;have FB:=aH (aJa H2.out);have FA:=aH (oN VA.out);have RA:=aH (show Rect (bU (tx2 a)) na wa from⟨l2,VA.out.vals.row⟩);clear hb hv5 hx HV HM HB4 l1 l2 hr H1 H2 VA Ha Hb Sa Sb LA LB;generalize hye:dL (tx1 b)=y at*;generalize hxe:bU (tx2 a)=x at*;have HR2:=aH (show eL (tx2 a) (tx1 b)=txV (x.map fun r=>cR r y)from HRES.out);clear hye hxe HRES;go_wp2;go_loopg [8,35] (na-0) (fun r o v wr=>∃i:Nat,r=na-i∧v=I i∧i≤na∧Hid (RRow wr w5.heap.size o ((x.map fun r=>cR r y).take i))∧Hid (Below w5.heap.size w5 wr));case atStart=>exact⟨0,rfl,rfl,by omega,RRow.nil _ _,Below.refl _ _⟩
   case round=>
    obtain⟨i,rfl,rfl,hi,HP,HB⟩:=hrel;obtain⟨wa,rfl⟩:=wE wr;by_cases hlt:i<na
    ·obtain⟨q,hq⟩:∃q,x[i]?=some q:=⟨_,gE (by rw[RA.out.len];exact hlt)⟩;obtain⟨b1,o1,B1,c2,rfl,_,hc,hrq⟩:=(RM5.out.below HB.out).at_ hlt q hq;have hql:q.length≤nb:=HQL.out q (List.mem_of_getElem? hq);have hqf:Fit1 q:=FA.out q (List.mem_of_getElem? hq);have HD:=aH (aBf q y q.length B1 A1 c2 nb c1 wa hrq (RV5.out.below HB.out) hql (by omega) (N:=17000) (by decide) (aEj (by omega) hqf FB.out));have HX:=aH (show((x.map fun r=>cR r y).take (i+1))=((x.map fun r=>cR r y).take i)++[cR q y] by rw[List.take_add_one,List.getElem?_map,hq];rfl);have HLL:=aH (show((x.map fun r=>cR r y).take i).length≤1000000 by rw[List.length_take];omega);clear hq hrq hql hqf;go_wp2_with fail;refine HD.out.mono ?_;rintro e w6 ⟨v3,rfl,hv3,hb⟩;obtain⟨tb,t1,t2,t3,t4,t5,t6,rfl⟩:=hv3.bools;have hb3:=aE w6 (.cells #[.bool tb,.slice t1 t2 t3,.bool false,.slice t4 t5 t6] aL);have HB6:=aH ((HB.out.trans (hb.mono HB.out.size)).trans (hb3.mono (HB.out.trans (hb.mono HB.out.size)).size));have HR6:=aH ((HP.out.call hb).call hb3);have HV6:=aH (hv3.ext hb3);have HBK:=aH (Blk.new w6 aL #[.bool tb,.slice t1 t2 t3,.bool false,.slice t4 t5 t6]);unfold aL at*;clear hb hb3 hv3 HD HP HB hc;go_wp2_with(at_builtin;refine iL rfl _ _ rfl w5.heap.size _ _ rfl HR6.out w6.heap.size rfl HBK.out HV6.out HLL.out HB6.out.size ?_);intro v7 w7 hap;have HN:=aH (show RRow w7 w5.heap.size v7 ((x.map fun r=>cR r y).take (i+1)) by rw[HX.out];exact hap.row);have HB7:=aH (HB6.out.trans (hap.below HR6.out HB6.out.size));obtain⟨A7,c7,rfl⟩:=hap.row.val;generalize(((x.map fun r=>cR r y).take i)++[cR q y]).length=l7 at*;clear hap HR6 HB6 HBK HV6 HX HLL;go_wp2;go_roundg (na-(i+1));case measure=>omega
     case rel=>exact⟨i+1,rfl,by go_num,by omega,HN,HB7⟩
    ·have hin:i=na:=by omega
     subst hin;have hr:=HP.out;rw[List.take_of_length_le (by rw[List.length_map,RA.out.len];omega)]at hr;obtain⟨A7,c7,rfl⟩:=hr.val;have hll:(x.map fun r=>cR r y).length=i:=by rw[List.length_map,RA.out.len]
     have hrv:=hr.rv;rw[hll]at hrv⊢;have HBT:=aH (HB5.out.trans (HB.out.mono HB5.out.size));have HT:=aH (eM _ i A7 c7 wa hrv (by omega) (aI HTB.out HBT.out));clear hr hrv hll HP HB;go_wp2_with fail;refine HT.out.mono ?_;rintro e w9 ⟨v9,rfl,k1,k2,hb⟩;have HBF:=aH (HBT.out.trans (hb.mono HBT.out.size));have HQ:Hid (RetVT w (eL (tx2 a) (tx1 b)) (.returned (.tuple #[v9,I (txV (x.map fun r=>cR r y)).2])) w9):=by
      cases hf:(x.map fun r=>cR r y).all bJ with
      |true=>
       have hrow:=k1 hf;obtain⟨A9,c9,rfl⟩:=hrow.val;refine⟨A9,_,c9,mkS ((x.map fun r=>cR r y).map aJ),by rw[HR2.out],hrow.reads,?_,yN hf,HBF.out⟩;rw[HR2.out,txV,if_pos hf,nO]
      |false=>
       obtain rfl:=k2 hf;have he:txV (x.map fun r=>cR r y)=([],2):=by rw[txV,if_neg (by simp[hf])]
       rw[he];exact RetVT.none_ (by rw[HR2.out,he]) HBF.out
     clear k1 k2 hb HT HBT HBF;go_wp2;go_ret2;exact HQ.out
  ·have tw:((wd (tx2 a):Int) !=(nb:Int))=true:=bne_iff_ne.2 (by omega);have HQ:=aH (RetVT.none_ (w:=w) (c:=3) (r:=eL (tx2 a) (tx1 b)) (by
    unfold eL;rw[H1.out,H2.out,if_neg (by decide),if_neg (by decide),if_pos (by rw[LA.out,LB.out];exact⟨h0,hw⟩)]) HB3.out)
   clear hw;generalize wd (tx2 a)=wa at*;go_wp2_with fail;refine HW.out.mono ?_;rintro e w4 ⟨rfl,rfl⟩;clear HW;go_wp2;go_ret2;exact HQ.out
 ·have t0:decide (0<na)=false:=decide_eq_false h0;have HRES:=aH (show eL (tx2 a) (tx1 b)=txV ((bU (tx2 a)).map fun r=>cR r (dL (tx1 b))) by
   unfold eL;rw[H1.out,H2.out,if_neg (by decide),if_neg (by decide),if_neg (by rw[LA.out,LB.out];exact fun h=>h0 h.1)])
  have HQL:=aH (show∀r∈bU (tx2 a),r.length≤nb from fun r hr=>by
   rw[List.eq_nil_of_length_eq_zero (LA.out.trans (by omega))]at hr;cases hr)
  have HP:=aH (mC b nb Ab cb w3 (Hb.out.below HB3.out) Sb.out (aIz H2.out) (by omega));go_wp2_with fail;refine HP.out.mono ?_;rintro e w4 ⟨v,rfl,hv,hb⟩;have HB4:=aH (HB3.out.trans (hb.mono HB3.out.size));have HV:=aH hv;have HM:=aH (mE a na Aa ca w4 (Ha.out.below HB4.out) Sa.out (tV VA.out) (by omega));clear hv hb HP HB3;go_wp2_with fail;refine HM.out.mono ?_;rintro e w5 ⟨vx,xs,rfl,hx,hb⟩;have HB5:=aH (HB4.out.trans (hb.mono HB4.out.size));have hv5:=HV.out.call hb;obtain⟨A1,c1,rfl⟩:=hv5.val;obtain⟨Ax,cx,rfl⟩:=hx.val;have l1:(dL (tx1 b)).length=nb:=by rw[dL,List.length_map,LB.out]
  have l2:(bU (tx2 a)).length=na:=by rw[bU,List.length_map,LA.out]
  have hr:=hv5.rv;rw[l1]at hr⊢;rw[l2]at hx⊢;have RV5:=aH hr;have RM5:=aH hx.rm;have FB:=aH (aJa H2.out);have FA:=aH (oN VA.out);have RA:=aH (show Rect (bU (tx2 a)) na (wd (tx2 a))from⟨l2,VA.out.vals.row⟩);clear hb hv5 hx HV HM HB4 l1 l2 hr H1 H2 VA Ha Hb Sa Sb LA LB;generalize hye:dL (tx1 b)=y at*;generalize hxe:bU (tx2 a)=x at*;have HR2:=aH (show eL (tx2 a) (tx1 b)=txV (x.map fun r=>cR r y)from HRES.out);clear hye hxe HRES;go_wp2;clear t0 h0;go_loopg [8,35] (na-0) (fun r o v wr=>∃i:Nat,r=na-i∧v=I i∧i≤na∧Hid (RRow wr w5.heap.size o ((x.map fun r=>cR r y).take i))∧Hid (Below w5.heap.size w5 wr));case atStart=>exact⟨0,rfl,rfl,by omega,RRow.nil _ _,Below.refl _ _⟩
  case round=>
   obtain⟨i,rfl,rfl,hi,HP,HB⟩:=hrel;obtain⟨wa,rfl⟩:=wE wr;by_cases hlt:i<na
   ·obtain⟨q,hq⟩:∃q,x[i]?=some q:=⟨_,gE (by rw[RA.out.len];exact hlt)⟩;obtain⟨b1,o1,B1,c2,rfl,_,hc,hrq⟩:=(RM5.out.below HB.out).at_ hlt q hq;have hql:q.length≤nb:=HQL.out q (List.mem_of_getElem? hq);have hqf:Fit1 q:=FA.out q (List.mem_of_getElem? hq);have HD:=aH (aBf q y q.length B1 A1 c2 nb c1 wa hrq (RV5.out.below HB.out) hql (by omega) (N:=17000) (by decide) (aEj (by omega) hqf FB.out));have HX:=aH (show((x.map fun r=>cR r y).take (i+1))=((x.map fun r=>cR r y).take i)++[cR q y] by rw[List.take_add_one,List.getElem?_map,hq];rfl);have HLL:=aH (show((x.map fun r=>cR r y).take i).length≤1000000 by rw[List.length_take];omega);clear hq hrq hql hqf;go_wp2_with fail;refine HD.out.mono ?_;rintro e w6 ⟨v3,rfl,hv3,hb⟩;obtain⟨tb,t1,t2,t3,t4,t5,t6,rfl⟩:=hv3.bools;have hb3:=aE w6 (.cells #[.bool tb,.slice t1 t2 t3,.bool false,.slice t4 t5 t6] aL);have HB6:=aH ((HB.out.trans (hb.mono HB.out.size)).trans (hb3.mono (HB.out.trans (hb.mono HB.out.size)).size));have HR6:=aH ((HP.out.call hb).call hb3);have HV6:=aH (hv3.ext hb3);have HBK:=aH (Blk.new w6 aL #[.bool tb,.slice t1 t2 t3,.bool false,.slice t4 t5 t6]);unfold aL at*;clear hb hb3 hv3 HD HP HB hc;go_wp2_with(at_builtin;refine iL rfl _ _ rfl w5.heap.size _ _ rfl HR6.out w6.heap.size rfl HBK.out HV6.out HLL.out HB6.out.size ?_);intro v7 w7 hap;have HN:=aH (show RRow w7 w5.heap.size v7 ((x.map fun r=>cR r y).take (i+1)) by rw[HX.out];exact hap.row);have HB7:=aH (HB6.out.trans (hap.below HR6.out HB6.out.size));obtain⟨A7,c7,rfl⟩:=hap.row.val;generalize(((x.map fun r=>cR r y).take i)++[cR q y]).length=l7 at*;clear hap HR6 HB6 HBK HV6 HX HLL;go_wp2;go_roundg (na-(i+1));case measure=>omega
    case rel=>exact⟨i+1,rfl,by go_num,by omega,HN,HB7⟩
   ·have hin:i=na:=by omega
    subst hin;have hr:=HP.out;rw[List.take_of_length_le (by rw[List.length_map,RA.out.len];omega)]at hr;obtain⟨A7,c7,rfl⟩:=hr.val;have hll:(x.map fun r=>cR r y).length=i:=by rw[List.length_map,RA.out.len]
    have hrv:=hr.rv;rw[hll]at hrv⊢;have HBT:=aH (HB5.out.trans (HB.out.mono HB5.out.size));have HT:=aH (eM _ i A7 c7 wa hrv (by omega) (aI HTB.out HBT.out));clear hr hrv hll HP HB;go_wp2_with fail;refine HT.out.mono ?_;rintro e w9 ⟨v9,rfl,k1,k2,hb⟩;have HBF:=aH (HBT.out.trans (hb.mono HBT.out.size));have HQ:Hid (RetVT w (eL (tx2 a) (tx1 b)) (.returned (.tuple #[v9,I (txV (x.map fun r=>cR r y)).2])) w9):=by
     cases hf:(x.map fun r=>cR r y).all bJ with
     |true=>
      have hrow:=k1 hf;obtain⟨A9,c9,rfl⟩:=hrow.val;refine⟨A9,_,c9,mkS ((x.map fun r=>cR r y).map aJ),by rw[HR2.out],hrow.reads,?_,yN hf,HBF.out⟩;rw[HR2.out,txV,if_pos hf,nO]
     |false=>
      obtain rfl:=k2 hf;have he:txV (x.map fun r=>cR r y)=([],2):=by rw[txV,if_neg (by simp[hf])]
      rw[he];exact RetVT.none_ (by rw[HR2.out,he]) HBF.out
    clear k1 k2 hb HT HBT HBF;go_wp2;go_ret2;exact HQ.out
theorem aGv(a:List (List ByteArray))(na:Nat)(Aa:Option Addr)(ca:Nat)(b:List ByteArray)(nb:Nat)(Ab:Option Addr)(cb:Nat)(w:World)(ha:SMat w Aa na a)(sa:Sh2 a)(hb:SV w Ab nb b)(sb:Sh1 b)(htab:Tab w): Calls Tryz.prog 53 #[.slice Aa na ca,.slice Ab nb cb] w (RetVT w (eL (tx2 a) (tx1 b))):=by
 by_cases h:cM [cU (tx2 a),eG (tx1 b)]=0
 ·obtain⟨h1,h2⟩:=wM h;exact aGu a na Aa ca b nb Ab cb w ha sa hb sb htab h1 h2
 ·exact aMg a na Aa ca b nb Ab cb w ha sa hb sb htab h
end Go.Proofs.YtenbglfkdldheaaGreatDoor
