/- matrix.Mul. 'm[i][k] = q' at matrices of numbers. slices.Repeat at vectors of texts, of one element. matrix.Dot, matrix.Apply. -/
import Derived.Test.YtenbglfkdldheaaGreatDoorUT
import Derived.Test.YtenbglfkdldheaaGreatDoorUS
import Derived.Laws.CopyOwn
import Derived.Deep.RegionLaw
namespace Go.Proofs.YtenbglfkdldheaaGreatDoor
open Go.RowKit
theorem eK{N M:Nat}{x y:Rat}(hx:FitR N x)(hy:FitR M y):FitR (N+M+1) (x+y):=by
 have h:=wG x y;have h1:=jB (x.num*(y.den:Int)+y.num*(x.den:Int)) ((x.den:Int)*(y.den:Int));rw[h]at h1;have f1:=(hx.1.mul hy.2).add (show Fits (N+M) (y.num*(x.den:Int)) by rw[Nat.add_comm];exact hy.1.mul hx.2);have f2:=(hx.2.mul hy.2).mono (show N+M≤N+M+1 by omega);unfold FitR Fits at*;have hd:(1:Int)≤((x.den:Int)*(y.den:Int)).natAbs:=by
  have:=wK (pO x) (pO y);omega
 exact⟨by omega,by omega⟩
theorem eN:FitR 1 0:=⟨yQ 1,by unfold Fits;decide⟩
theorem aFn{N:Nat}{f:Nat→Rat}:∀(n:Nat),(∀i,i<n→FitR N (f i))→FitR (n*(N+1)+1) (sm n f)
 |0,_=>eN.mono (by omega)
 |n+1,h=>by
  rw[sm];exact(eK (aFn n fun i hi=>h i (by omega)) (h n (by omega))).mono (by rw[Nat.succ_mul];omega)
def Fit1(l:List Rat):Prop:=∀q∈l,FitR 210 q
def Fit2(m:List (List Rat)):Prop:=∀r∈m,Fit1 r
theorem Fit1.at_{l:List Rat}(h:Fit1 l)(i:Nat):FitR 210 (l.getD i 0):=by
 rw[gD];cases e:l[i]? with
 |none=>exact eN.mono (by decide)
 |some q=>exact h q (List.mem_of_getElem? e)
theorem Fit2.at_{m:List (List Rat)}(h:Fit2 m)(i:Nat):Fit1 (m.getD i []):=by
 rw[gD];cases e:m[i]? with
 |none=>intro q hq;cases hq
 |some q=>exact h q (List.mem_of_getElem? e)
theorem aNw{l:List (List UInt8)}(h:∀s∈l,dU s=0):Fit1 (kD l):=by
 intro q hq;obtain⟨s,hs,rfl⟩:=List.mem_map.1 hq;exact aKe (wF s (h s hs))
theorem oO{m:MT}{n k:Nat}(h:VM m n k):Fit2 (bZ m):=by
 intro r hr;obtain⟨l,hl,rfl⟩:=List.mem_map.1 hr;exact aNw (h.ok l hl)
theorem uN{m:List (List ByteArray)}{n k:Nat}(h:VM (tx2 m) n k):bBm m:=by
 intro l hl;have hm:tx1 l∈tx2 m:=List.mem_map.2 ⟨l,hl,rfl⟩;refine⟨fun s hs=>h.ok _ hm _ (List.mem_map.2 ⟨s,hs,rfl⟩),?_⟩;have h1:=h.rect.row _ hm;rw[tx1,List.length_map]at h1;rcases h.hk with h2|h2
 ·omega
 ·have:=h.rect.len;rw[h2]at this;rw[List.eq_nil_of_length_eq_zero this]at hm;cases hm
theorem aKo(a b:Int):cP [a,b]=if a≠0 then a else b:=by
 simp only[cP];split
 ·rfl
 ·split
  ·rfl
  ·rename_i h;exact(Decidable.not_not.1 h).symm
theorem rG(w:World)(t:TypeId)(a b:Int):Reads (w.alloc (.cells #[I a,I b] t)) (w.alloc (.cells #[I a,I b] t)).heap.size 1 (some ⟨w.heap.size,0,none⟩) 2 ([a,b].map I):=by
 have:=wY w t ([a,b].map I);rw[World.size_alloc];exact this
abbrev oV:TypeId:=34
theorem xK(a b:Int)(r:MT×Int)(h:cP [a,b]≠0):yI a b r=([],cP [a,b]):=by
 rw[aKo]at h⊢;unfold yI;by_cases ha:a≠0
 ·rw[if_pos ha,if_pos ha]
 ·rw[if_neg ha]at h⊢;rw[if_neg ha,if_pos h]
theorem xL{a b:Int}(h:cP [a,b]=0):a=0∧b=0:=by
 rw[aKo]at h;split at h
 ·rename_i h1;exact absurd h h1
 ·rename_i h1;exact⟨Decidable.not_not.1 h1,h⟩
theorem rH{A B:Option Addr}{n c n' c':Nat}(h:Value.slice A n c= .slice B n' c'):A=B:=by
 injection h
theorem RRow.putEl{w:World}{base g off n c:Nat}{qs:List Rat}(h:RRow w base (.slice (some ⟨g,off,none⟩) n c) qs){k:Nat}(hk:k<n){u0 u1 u2 u3:Value}{r:Rat}(hr:Rt w (.agg #[u0,u1,u2,u3]) r): RRow (put4 w g (off+k*4) u0 u1 u2 u3) base (.slice (some ⟨g,off,none⟩) n c) (qs.set k r)∧Kw w (put4 w g (off+k*4) u0 u1 u2 u3)∧base≤g:=by
 obtain⟨⟨xs,hrow,hxs⟩,hnw⟩:=h;have hn:qs.length=n:=by
  obtain⟨A',c',e⟩:=hrow.val;injection e with _ e _;exact e.symm
 rw[hn]at hrow;obtain⟨hb,hlt,cur,hB⟩:=own_lt hrow (g:=g) rfl;obtain⟨n0,n1,n2,n3⟩:=hr.noW;have hcw:=oK hB (fun o x=>hnw g o x rfl);have hkw:=aKc hB hcw (off+k*4) (u3:=u3) n0 n1 n2;obtain⟨cs',hB',hw'⟩:=aSi hB hcw (off+k*4) n0 n1 n2 n3;have h0:=hrow.set_at (j:=k*4) (by omega) u0;have h1:=h0.set_at (j:=k*4+1) (by omega) u1;have h2:=h1.set_at (j:=k*4+2) (by omega) u2;have h3:=h2.set_at (j:=k*4+3) (by omega) u3;refine⟨⟨⟨nO xs k u0 u1 u2 u3,?_,(hxs.kw hkw).set_ (hr.kw hkw) k (by omega)⟩,fun g' o x hg'=>?_⟩,hkw,hb⟩
 ·rw[List.length_set,hn];exact h3
 ·have hg':g=g':=by simpa[Value.ownBlock]using hg'
  subst hg';exact eI hB' hw' o x
theorem LM.elem{w:World}{base g off cap n:Nat}{vs:List Value}{m:List (List Rat)}(h:LM w base (.slice (some ⟨g,off,none⟩) n cap) vs m)(hn:m.length=n){i k:Nat}(hi:i<n)(hk:k<(m.getD i []).length): ∃b o c nb B1 l1 c1 B2 l2 c2,vs[i]?=some (.slice (some ⟨b,o,none⟩) (m.getD i []).length c)∧w.cell? ⟨g,off+i,none⟩=some (.slice (some ⟨b,o,none⟩) (m.getD i []).length c)∧ C4 w b (o+k*4) (.bool nb) (.slice B1 l1 c1) (.bool false) (.slice B2 l2 c2)∧Rt w (.agg #[.bool nb,.slice B1 l1 c1,.bool false,.slice B2 l2 c2]) ((m.getD i []).getD k 0)∧(∀j,w.frozen? ⟨b,j,none⟩=false)∧base≤g∧g<w.heap.size∧base≤b∧b<w.heap.size∧g≠b:=by
 subst hn;obtain⟨g',off',cap',B,c,e,hb,hlt,hu,hc,hf,hr⟩:=h.at_ hi;obtain⟨rfl,rfl⟩:=mE e;have hq:(m.getD i [])[k]?=some ((m.getD i []).getD k 0):=by rw[gD (l:=m.getD i []),gE hk];rfl
 obtain⟨b,o,nb,B1,l1,c1,B2,l2,c2,rfl,hbl,hC,hrt⟩:=hr.rv.form hk _ hq;obtain⟨cur,hB⟩:=hr.blk (g:=b) rfl;obtain⟨cs,hO⟩:∃cs,Blk w g bW cs:=by
  obtain⟨g',off',cap',cur,e,_,hh,_⟩:=h.outer.form (by omega);obtain⟨rfl,rfl⟩:=mE e;exact⟨_,hh⟩
 exact⟨b,o,c,nb,B1,l1,c1,B2,l2,c2,hu,hc,hC,hrt,fun j=>hB.frozen j,hb,hlt,(hr.lt (g:=b) rfl).1,hbl,fun e=>hr.ne_outer hO (by rw[e];rfl)⟩
theorem LM.putEl{w:World}{base g off cap n:Nat}{vs:List Value}{m:List (List Rat)}(h:LM w base (.slice (some ⟨g,off,none⟩) n cap) vs m)(hn:m.length=n){i k b o l c:Nat}(hi:i<n)(hu:vs[i]?=some (.slice (some ⟨b,o,none⟩) l c))(hk:k<l) {u0 u1 u2 u3:Value}{r:Rat}(hr:Rt w (.agg #[u0,u1,u2,u3]) r):
  LM (put4 w b (o+k*4) u0 u1 u2 u3) base (.slice (some ⟨g,off,none⟩) n cap) vs (m.set i ((m.getD i []).set k r))∧Kw w (put4 w b (o+k*4) u0 u1 u2 u3):=by
 subst hn;have hmi:m[i]?=some (m.getD i []):=by rw[gD,gE hi];rfl
 have hrow:=h.inner i _ _ hu hmi;obtain⟨h1,hkw,_⟩:=hrow.putEl hk hr;obtain⟨cur,hB⟩:=hrow.blk (g:=b) rfl;have hne:∀{x:Value} {xs:List Value} {n':Nat},Row w base bW 1 x n' xs→∀g',x.ownBlock=some g'→g'≠b:=by
  intro x xs n' hx g' hg' e;subst e;obtain⟨_,_,cs,hC⟩:=own_lt hx hg';unfold Blk at hC hB;rw[hC]at hB;injection hB with hB;injection hB with _ ht;exact absurd ht (by decide)
 refine⟨⟨?_,fun j u qs h2 h3=>?_,h.apart⟩,hkw⟩
 ·have ho:=h.outer;rw[List.length_set];obtain⟨k1,k2⟩:=id ho;refine⟨k1,k2.imp id ?_⟩;rintro⟨g',off',cap',cur',hv',hb',hh',r'⟩;exact⟨g',off',cap',cur',hv',hb',(cR w _ _ _ _ _ (hne ho g' (by rw[hv'];rfl))).trans hh',r'⟩
 ·by_cases hij:i=j
  ·subst hij;rw[hu]at h2;injection h2 with h2;subst h2;rw[List.getElem?_set_self hi]at h3;injection h3 with h3;subst h3;exact h1
  ·rw[List.getElem?_set_ne hij]at h3;have hj:=h.inner j u qs h2 h3;exact hj.keep hkw fun g' hg'=>cR w _ _ _ _ _ fun e=>h.apart i j _ u b hij hu h2 rfl (by rw[hg',e])
theorem cD{w w':World}{B g o:Nat}(hb:Below B w w')(hg:B≤g)(u0 u1 u2 u3:Value):Below B w (put4 w' g o u0 u1 u2 u3):=(((hb.setCell (p:=⟨g,o,none⟩) hg u0).setCell (p:=⟨g,o+1,none⟩) hg u1).setCell (p:=⟨g,o+2,none⟩) hg u2).setCell (p:=⟨g,o+3,none⟩) hg u3
theorem LM.keepB{w w':World}{base:Nat}{v:Value}{vs:List Value}{m:List (List Rat)}(h:LM w base v vs m)(k:Kw w w')(hk:∀g,base≤g→g<w.heap.size→w'.heap[g]?=w.heap[g]?):LM w' base v vs m:=⟨h.outer.keep hk,fun i u qs h1 h2=>(h.inner i u qs h1 h2).keep k fun g hg=>hk g ((h.inner i u qs h1 h2).lt hg).1 ((h.inner i u qs h1 h2).lt hg).2,h.apart⟩
structure El(w:World)(b o:Nat)(x0 x1 x2 x3:Value):Prop where
 c0:w.cell? ⟨b,o,none⟩=some x0
 c1:w.cell? ⟨b,o+1,none⟩=some x1
 c2:w.cell? ⟨b,o+2,none⟩=some x2
 c3:w.cell? ⟨b,o+3,none⟩=some x3
 f0:w.frozen? ⟨b,o,none⟩=false
 f1:w.frozen? ⟨b,o+1,none⟩=false
 f2:w.frozen? ⟨b,o+2,none⟩=false
 f3:w.frozen? ⟨b,o+3,none⟩=false
theorem El.below{w w':World}{b o:Nat}{x0 x1 x2 x3:Value}(h:El w b o x0 x1 x2 x3)(hb:Below w.heap.size w w'):El w' b o x0 x1 x2 x3:=by
 have hl:=World.block_lt_of_cell? w ⟨b,o,none⟩ h.c0;exact⟨(hb.cell (p:=⟨b,o,none⟩) hl).trans h.c0,(hb.cell (p:=⟨b,o+1,none⟩) hl).trans h.c1,(hb.cell (p:=⟨b,o+2,none⟩) hl).trans h.c2,(hb.cell (p:=⟨b,o+3,none⟩) hl).trans h.c3,(hb.frozen (p:=⟨b,o,none⟩) hl).trans h.f0,(hb.frozen (p:=⟨b,o+1,none⟩) hl).trans h.f1,(hb.frozen (p:=⟨b,o+2,none⟩) hl).trans h.f2,(hb.frozen (p:=⟨b,o+3,none⟩) hl).trans h.f3⟩
theorem RRow.el{w:World}{base:Nat}{v:Value}{qs:List Rat}(h:RRow w base v qs){n k:Nat}(hn:qs.length=n)(hk:k<n): ∃b o c nb B1 l1 c1 B2 l2 c2,v= .slice (some ⟨b,o,none⟩) n c∧El w b (o+k*4) (.bool nb) (.slice B1 l1 c1) (.bool false) (.slice B2 l2 c2)∧base≤b∧b<w.heap.size:=by
 subst hn;obtain⟨A,c,rfl⟩:=h.val;have hq:qs[k]?=some (qs.getD k 0):=by rw[gD,gE hk];rfl
 obtain⟨b,o,nb,B1,l1,c1,B2,l2,c2,rfl,hbl,hC,hrt⟩:=h.rv.form hk _ hq;obtain⟨cur,hB⟩:=h.blk (g:=b) rfl;exact⟨b,o,c,nb,B1,l1,c1,B2,l2,c2,rfl,⟨hC.c0,hC.c1,hC.c2,hC.c3,hB.frozen _,hB.frozen _,hB.frozen _,hB.frozen _⟩,(h.lt (g:=b) rfl).1,hbl⟩
theorem aFo(x n:Int)(w:World)(hx:x=1)(h0:0≤n)(h1:n≤1099511627776): Calls Tryz.prog 164 #[.int .u64 x,.int .u64 n] w fun e w'=>e= .returned (.tuple #[.int .u64 0,.int .u64 n])∧w=w':=by
 subst hx;obtain⟨k,rfl⟩:=Int.eq_ofNat_of_zero_le h0;refine(Tryz.bits_Mul 1 k (by omega) (by omega) w).mono fun e w' ⟨he,hw⟩=>⟨?_,hw.symm⟩;rw[he];have e1:1*k/18446744073709551616=0:=by rw[Nat.div_eq_of_lt];omega
 have e2:1*k%18446744073709551616=k:=by rw[Nat.mod_eq_of_lt]<;>omega
 rw[e1,e2];rfl
end Go.Proofs.YtenbglfkdldheaaGreatDoor
