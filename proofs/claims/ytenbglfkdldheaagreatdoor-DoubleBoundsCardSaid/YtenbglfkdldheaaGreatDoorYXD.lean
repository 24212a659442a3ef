/- shift.Between. The transfer factors: plain. shift.without: a network without one branch. slices.Insert at numbers: one number. -/
import Derived.Test.YtenbglfkdldheaaGreatDoorYXB
import Derived.Lib.AppendZerosOnto
import Derived.Lib.Overlaps
set_option maxRecDepth 100000
set_option maxHeartbeats 4000000
namespace Go.Proofs.YtenbglfkdldheaaGreatDoor
open Go.RowKit
def grN(n:NetD)(u v:Nat):List Rat:=grK (aW n) (toL n) (bLQ n) (thN n (gr0 u v (nbN n))) n.branches.length
theorem aLx(n:NetD)(u v:Nat):(grN n u v).length=n.branches.length:=aKn _ _ _ _ _
theorem aLy{u v nb:Nat}:FitL 4000 (gr0 u v nb):=fun i=>by
 have h:∀j,(List.replicate nb (0:Rat)).getD j 0=0:=fun j=>by
  rw[gD,List.getElem?_replicate];split<;>rfl
 have f0:FitR 1 (0:Rat):=dR;have f1:FitR 1 (1:Rat):=fZ;have g1:∀j,FitR 10 (((List.replicate nb (0:Rat)).set u ((List.replicate nb (0:Rat)).getD u 0+1)).getD j 0):=fun j=>by
  rw[cW,h,h];split
  ·exact(dV f0 f1).mono (by omega)
  ·exact f0.mono (by omega)
 unfold gr0;rw[cW];split
 ·exact(dH (g1 v) (f1.mono (show 1≤2 by omega))).mono (by omega)
 ·exact(g1 i).mono (by omega)
theorem aLz{n:NetD}(h:VNet n){base g:Nat}{w:World}(hm:MF w base g n){u v:Nat}(hu:u<nbN n)(hv:v<nbN n): Calls Tryz.prog 63 #[.pointer (some ⟨g,0,none⟩),I u,I v] w (oS w (grN n u v)):=by
 obtain⟨rs,qs,iv,vs,hS,hL⟩:=hm;change LM w base iv vs (vE (fwM n) (aE n).length).1 at hL;rw[aQt h]at hL;have hl:=qS h;have hn:=aRd h;have hb:=h.hb;exact aRc base g rs _ qs _ iv (iN n) vs (nbN n) (nfN n) n.branches.length u v w hS hL rfl (by unfold nbN;omega) rfl (by omega) (lM n) rT (N:=200000) (by decide) (by simp[isO,aW]) (by simp[isO,toL]) (by simp[tsO,bLQ]) (by omega) (aHv h) (aHw h) (oA h) hu hv (fun k hk=>aHu h aLy hk) (vN h aLy)
def uZ(w:World)(r:List Rat×Int)(e:Ending)(w':World):Prop:=∃v,e= .returned (.tuple #[v,I r.2])∧(r.2=0→r.1.all cG=true∧Row w' w.heap.size 51 1 v r.1.length ((mkS (r.1.map bH)).map Sv))∧(r.2≠0→v= .slice none 0 0)∧Below w.heap.size w w'
theorem tZ{w w':World}{r:List Rat×Int}{c:Int}(h:r=([],c))(hc:c≠0)(hb:Below w.heap.size w w'):uZ w r (.returned (.tuple #[.slice none 0 0,I c])) w':=by
 rw[h];exact⟨_,rfl,fun k=>absurd k hc,fun _=>rfl,hb⟩
theorem aAx{w w0:World}{l:List Rat}{e:Ending}{w':World}(h:aZe w l e w')(hb:Below w0.heap.size w0 w):uZ w0 (if l.all cG=true then(l,0)else([],2)) e w':=by
 obtain⟨v,h1,h2,h3,h4⟩:=h;cases hf:l.all cG with
 |true=>
  rw[aXw hf]at h1;rw[if_pos rfl];exact⟨v,h1,fun _=>⟨hf,(h2 hf).less hb.size⟩,fun k=>absurd rfl k,hb.trans (h4.mono hb.size)⟩
 |false=>
  rw[txV,if_neg (by rw[hf];decide)]at h1;rw[if_neg (by decide)];exact⟨v,h1,fun k=>absurd k (by decide),fun _=>h3 hf,hb.trans (h4.mono hb.size)⟩
def fD(n:NetD)(k:Nat):NetD:={n with branches:=n.branches.eraseIdx k}
theorem eJ{n:NetD}(h:bI n=0)(k:Nat):bI (fD n k)=0:=aJj h nF k
theorem pW{α:Type}(L:List α)(o:Nat)(cs:List α)(h:o+cs.length≤L.length)(j:Nat):(splice L o cs)[j]?=if o≤j∧j<o+cs.length then cs[j-o]? else L[j]?:=by
 unfold splice;have hl:(L.take o).length=o:=by rw[List.length_take];omega
 by_cases h1:j<o
 ·rw[if_neg (by omega),List.getElem?_append_left (by omega),List.getElem?_take,if_pos h1]
 ·rw[List.getElem?_append_right (by omega),hl];by_cases h2:j<o+cs.length
  ·rw[if_pos ⟨by omega,h2⟩,List.getElem?_append_left (by omega)]
  ·rw[if_neg (by omega),List.getElem?_append_right (by omega),List.getElem?_drop];congr 1;omega
theorem aAy{α:Type}{L a y d:List α}{off p q m:Nat}(ha:(L.drop off).take p=a)(hal:a.length=p)(hy:y.length=q)(hd:d.length=m)(hfit:off+p+q+m≤L.length): ((splice (splice L (off+p+q) d) (off+p) y).drop off).take (p+q+m)=a++(y++d)∧((splice (splice L (off+p) y) (off+p+q) d).drop off).take (p+q+m)=a++(y++d):=by
 have h0:∀j,j<p→L[off+j]?=a[j]?:=fun j hj=>by
  rw[←ha,List.getElem?_take,if_pos hj,List.getElem?_drop]
 have hR:∀j,(a++(y++d))[j]?=if j<p then a[j]? else if j<p+q then y[j-p]? else d[j-p-q]?:=fun j=>by
  by_cases h1:j<p
  ·rw[List.getElem?_append_left (by omega),if_pos h1]
  ·rw[List.getElem?_append_right (by omega),hal,if_neg h1];by_cases h2:j<p+q
   ·rw[List.getElem?_append_left (by omega),if_pos h2]
   ·rw[List.getElem?_append_right (by omega),hy,if_neg h2]
 have hz:∀j,¬j<p+q+m→d[j-p-q]?=none:=fun j hj=>List.getElem?_eq_none (by omega);constructor
 ·refine List.ext_getElem? fun j=>?_;rw[hR,List.getElem?_take,List.getElem?_drop,pW _ _ _ (by rw[length_splice _ _ _ (by omega)];omega),pW _ _ _ (by omega)];by_cases h1:j<p
  ·rw[if_pos (by omega),if_neg (by omega),if_neg (by omega),if_pos h1,h0 j h1]
  ·by_cases h2:j<p+q
   ·rw[if_pos (by omega),if_pos (by omega),if_neg h1,if_pos h2,show off+j-(off+p)=j-p by omega]
   ·by_cases h3:j<p+q+m
    ·rw[if_pos h3,if_neg (by omega),if_pos (by omega),if_neg h1,if_neg h2,show off+j-(off+p+q)=j-p-q by omega]
    ·rw[if_neg h3,if_neg h1,if_neg h2,hz j h3]
 ·refine List.ext_getElem? fun j=>?_;rw[hR,List.getElem?_take,List.getElem?_drop,pW _ _ _ (by rw[length_splice _ _ _ (by omega)];omega),pW _ _ _ (by omega)];by_cases h1:j<p
  ·rw[if_pos (by omega),if_neg (by omega),if_neg (by omega),if_pos h1,h0 j h1]
  ·by_cases h2:j<p+q
   ·rw[if_pos (by omega),if_neg (by omega),if_pos (by omega),if_neg h1,if_pos h2,show off+j-(off+p)=j-p by omega]
   ·by_cases h3:j<p+q+m
    ·rw[if_pos h3,if_pos (by omega),if_neg h1,if_neg h2,show off+j-(off+p+q)=j-p-q by omega]
    ·rw[if_neg h3,if_neg h1,if_neg h2,hz j h3]
theorem nG{α:Type}{L cs:List α}{o:Nat}{u:α}(h:u∈splice L o cs):u∈L∨u∈cs:=by
 unfold splice at h;rw[List.mem_append,List.mem_append]at h;rcases h with h|h|h
 ·exact .inl (List.mem_of_mem_take h)
 ·exact .inr h
 ·exact .inl (List.mem_of_mem_drop h)
theorem bAv{w W:World}{g:Nat}{t:TypeId}{cur:Array Value}(hg:Blk w g t cur)(hn:∀u∈cur.toList,noWord u)(hz:W.heap.size=w.heap.size)(hk:∀b,b≠g→W.heap[b]?=w.heap[b]?):Kw w W:=by
 refine⟨by omega,fun p n e=>?_⟩;have hpb:p.block≠g:=fun h=>by
  cases p with
  |mk pb po ps=>
   simp only at h;subst h;cases ps with
   |none=>exact fC hg hn po n e
   |some s=>
    unfold Blk at hg;simp[World.cell?,hg]at e
 rw[World.cell?_of_block (a:=p) (hk _ hpb)];exact e
theorem aGt{W:World}{base g off n c:Nat}{cur ys:List Value}{qs:List Rat}(hB:Blk W g aM cur.toArray)(hbg:base≤g)(ht:(cur.drop off).take (n*4)=ys)(hq:RtL W ys qs)(hn:n=qs.length)(hnc:n≤c)(hc:c≤maxLen)(hs:off+c*4≤cur.length)(hw:∀u∈cur,noWord u): RRow W base (.slice (some ⟨g,off,none⟩) n c) qs:=by
 refine⟨⟨ys,⟨?_,.inr ⟨g,off,c,cur.toArray,by rw[hn],hbg,hB,by omega,hc,by simpa using hs,by rw[←hn];simpa using ht⟩⟩,hq⟩,fun g' o x hg'=>?_⟩
 ·exact hq.len
 ·have e:g=g':=by simpa[Value.ownBlock]using hg'
  subst e;exact fC hB (by simpa using hw) o x
theorem sW{w:World}{ops:Array Oper}{rest:List Oper}{o:Oper}{a:Act}{Q:Exit→Act→World→Prop}(hgd:o.guard=none)(d s:Operand) (ho:o.op= .call {callee:= .builtin .copy,args:=#[d,s],argTypes:=#[bU,bU]})
  (ad:Addr)(dLen dCap sLen sCap g off:Nat)(hd:a.eval d= .slice (some ⟨g,off,none⟩) dLen dCap)(hs:a.eval s= .slice (some ad) sLen sCap)
  (cur:List Value)(hg:w.heap[g]?=some (.cells cur.toArray aM (0,0)))(cs:List Value)(n:Nat)(hn:n=Nat.min sLen dLen)(hcs:cs.length=n*4)
  (hsrc:∀j v,cs[j]?=some v→w.cell? (ad.add j)=some v)(hfit:off+cs.length≤cur.length)(h1:∀v∈cs,v.oneCell'=true)
  (h:∀w',Hid (w'=w.setRow g (splice cur off cs).toArray)→wpList Tryz.prog ops Q rest (a.put o.dst (goInt n)) w'):wpList Tryz.prog ops Q (o::rest) a w:=by
 refine wpList_plain hgd fun K hK=>?_;have hrun:=oW (P:=Tryz.prog) w bU bU o.type aM g off dLen dCap ad sLen sCap cur.toArray aM cs 4 n Tryz.underlying111 sR hg hn hcs hsrc (by simpa using hfit) h1;unfold Oper.wp;simp only[execOp,ho,resolve,invoke,builtin,Sem.run_bind,Sem.run_pure,Result.andThen_ok,List.map_toArray,List.map_cons,List.map_nil,hd,hs,hrun];exact hK _ _ (h _ (aH (by unfold splice;simp)))
theorem yJ{w:World}{ops:Array Oper}{o:Oper}{a:Act}{K:Act→World→Prop}{Q:Exit→Act→World→Prop}{E:Prop}(hgd:o.guard=none)(d s:Operand) (ho:o.op= .call {callee:= .builtin .copy,args:=#[d,s],argTypes:=#[bU,bU]})
  (ad:Addr)(dLen dCap sLen sCap g off:Nat)(hd:a.eval d= .slice (some ⟨g,off,none⟩) dLen dCap)(hs:a.eval s= .slice (some ad) sLen sCap)
  (cur:List Value)(hg:w.heap[g]?=some (.cells cur.toArray aM (0,0)))(cs:List Value)(n:Nat)(hn:n=Nat.min sLen dLen)(hcs:cs.length=n*4)
  (hsrc:∀j v,cs[j]?=some v→w.cell? (ad.add j)=some v)(hfit:off+cs.length≤cur.length)(h1:∀v∈cs,v.oneCell'=true)
  (h:∀w',Hid (w'=w.setRow g (splice cur off cs).toArray)→K (a.put o.dst (goInt n)) w'):if Region.wanted o (yielded ops a.tmps)=true then Oper.wp Tryz.prog o a w K Q else E:=by
 have hw:Region.wanted o (yielded ops a.tmps)=true:=by simp[Region.wanted,hgd]
 rw[if_pos hw];have hrun:=oW (P:=Tryz.prog) w bU bU o.type aM g off dLen dCap ad sLen sCap cur.toArray aM cs 4 n Tryz.underlying111 sR hg hn hcs hsrc (by simpa using hfit) h1;unfold Oper.wp;simp only[execOp,ho,resolve,invoke,builtin,Sem.run_bind,Sem.run_pure,Result.andThen_ok,List.map_toArray,List.map_cons,List.map_nil,hd,hs,hrun];exact h _ (aH (by unfold splice;simp))
theorem aJk(base:Nat)(v:Value)(qs:List Rat)(vb:Nat)(x0 x1 x2 x3:Value)(q:Rat)(w:World)(hr:RRow w base v qs)(hX:Blk w vb aM #[x0,x1,x2,x3])(hq:Rt w (.agg #[x0,x1,x2,x3]) q)(hl:qs.length≤1000000)(hb:base≤w.heap.size): Calls Tryz.prog 62 #[v,I qs.length,.slice (some ⟨vb,0,none⟩) 1 1] w fun e w'=>∃v',e= .returned v'∧RRow w' base v' (qs++[q])∧Below base w w':=by
 have HR:=aH hr;have HX:=aH hX;have HQ:=aH hq;obtain⟨A,c,rfl⟩:=hr.val;obtain⟨⟨xs,hrow,-⟩,-⟩:=id hr;have hnc:qs.length≤c:=by
  rcases hrow.2 with⟨e,h0⟩|⟨g,off,cap,cur,e,-,-,hnc,-⟩
  ·omega
  ·injection e with _ _ e;omega
 have hA:A=none→qs.length=0:=by
  rintro rfl;rcases hrow.2 with⟨e,h0⟩|⟨g,off,cap,cur,e,-⟩
  ·exact h0
  ·cases e
 clear hrow hr hX hq;generalize hn:qs.length=n at*;go_enter Tryz.func62,Tryz.ntmps62;cases A with
 |none=>
  go_wp2_with(at_builtin;refine oY (by rfl) _ _ (by rfl) base _ qs (by rfl) HR.out vb (by rfl) HX.out HQ.out (by omega) hb ?_;intro v' w' hap);all_goals(go_ret;exact⟨_,rfl,hap.row,hap.below HR.out hb⟩)
 |some a=>
  obtain⟨ab,ao,asp⟩:=a;go_wp2_with(at_builtin;refine oY (by rfl) _ _ (by rfl) base _ qs (by rfl) HR.out vb (by rfl) HX.out HQ.out (by omega) hb ?_;intro v' w' hap);all_goals(go_ret;exact⟨_,rfl,hap.row,hap.below HR.out hb⟩)
theorem RtL.take_{w:World}:∀{qs:List Rat} {xs:List Value} (k:Nat),RtL w xs qs→RtL w (xs.take (k*4)) (qs.take k)
 |[],xs,k,h=>by rw[h.nil_iff];simp[RtL]
 |q::qs,xs,0,h=>by simp[RtL]
 |q::qs,xs,k+1,h=>by
  obtain⟨x0,x1,x2,x3,ys,rfl,h1,h2⟩:=h.cons;rw[show(k+1)*4=k*4+4 by omega];exact .mk h1 (RtL.take_ k h2)
structure InsI(w:World)(base g off cap n i vb:Nat)(cur xs:List Value)(qs:List Rat)(x0 x1 x2 x3:Value)(q:Rat):Prop where
 hg:Blk w g aM cur.toArray
 hbg:base≤g
 ht:(cur.drop off).take (n*4)=xs
 hx:RtL w xs qs
 hn:qs.length=n
 hi:i<n
 hnc:n≤cap
 hc:cap≤maxLen
 hs:off+cap*4≤cur.length
 hw:∀u∈cur,noWord u
 hX:Blk w vb aM #[x0,x1,x2,x3]
 hq:Rt w (.agg #[x0,x1,x2,x3]) q
 hne:vb≠g
section
variable {w:World} {base g off cap n i vb:Nat} {cur xs:List Value} {qs:List Rat} {x0 x1 x2 x3:Value} {q:Rat}
theorem InsI.len(h:InsI w base g off cap n i vb cur xs qs x0 x1 x2 x3 q):xs.length=n*4:=by have:=h.hx.len;rw[h.hn]at this;exact this
theorem InsI.xat(h:InsI w base g off cap n i vb cur xs qs x0 x1 x2 x3 q)(j:Nat)(u:Value)(hu:xs[j]?=some u):w.cell? ⟨g,off+j,none⟩=some u:=by
 rw[h.hg.cell,List.getElem?_toArray];rw[←h.ht,List.getElem?_take]at hu;split at hu
 ·rwa [List.getElem?_drop]at hu
 ·cases hu
theorem InsI.vat(h:InsI w base g off cap n i vb cur xs qs x0 x1 x2 x3 q)(j:Nat)(u:Value)(hu:[x0,x1,x2,x3][j]?=some u):w.cell? ⟨vb,j,none⟩=some u:=by
 rw[h.hX.cell];simpa using hu
theorem InsI.one(h:InsI w base g off cap n i vb cur xs qs x0 x1 x2 x3 q):(∀u∈xs.drop (i*4),u.oneCell'=true)∧(∀u∈[x0,x1,x2,x3],u.oneCell'=true)∧(∀u∈xs,noWord u)∧∀u∈[x0,x1,x2,x3],noWord u:=⟨fun u hu=>(h.hx.noWord u (List.mem_of_mem_drop hu)).2,fun u hu=>((RtL.one h.hq).noWord u hu).2,fun u hu=>(h.hx.noWord u hu).1,fun u hu=>((RtL.one h.hq).noWord u hu).1⟩
theorem InsI.rt{W:World}(h:InsI w base g off cap n i vb cur xs qs x0 x1 x2 x3 q)(k:Kw w W):RtL W (xs.take (i*4)++([x0,x1,x2,x3]++xs.drop (i*4))) (qs.take i++q::qs.drop i):=by
 have h1:RtL W (xs.take (i*4)) (qs.take i):=by
  have:=h.hx.take_ i;exact this.kw k
 exact h1.append ((RtL.one (h.hq.kw k)).append ((h.hx.drop_ i).kw k))
theorem InsI.place{W:World}(h:InsI w base g off cap n i vb cur xs qs x0 x1 x2 x3 q)(hroom:n+1≤cap) (hB:Blk W g aM (splice (splice cur (off+(i+1)*4) (xs.drop (i*4))) (off+i*4) [x0,x1,x2,x3]).toArray)(hz:W.heap.size=w.heap.size)(hk:∀b,b≠g→W.heap[b]?=w.heap[b]?):
  RRow W base (.slice (some ⟨g,off,none⟩) (n+1) cap) (qs.take i++q::qs.drop i):=by
 have hl:=h.len;have hi:=h.hi;have hs:=h.hs;obtain⟨-,-,w1,w2⟩:=h.one;have hkw:=bAv h.hg (by simpa using h.hw) hz hk;have hcc:=(aAy (L:=cur) (a:=xs.take (i*4)) (y:=[x0,x1,x2,x3]) (d:=xs.drop (i*4)) (off:=off) (p:=i*4) (q:=4) (m:=(n-i)*4) (by rw[←h.ht,List.take_take,show min (i*4) (n*4)=i*4 by omega]) (by rw[List.length_take];omega) rfl (by rw[List.length_drop];omega) (by omega)).1;rw[show off+i*4+4=off+(i+1)*4 by omega,show i*4+4+(n-i)*4=(n+1)*4 by omega]at hcc;refine aGt hB h.hbg hcc (h.rt hkw) (by rw[List.length_append,List.length_cons,List.length_take,List.length_drop,h.hn];omega) hroom h.hc ?_ fun u hu=>?_
 ·rw[length_splice,length_splice]
  ·exact hs
  ·rw[List.length_drop];omega
  ·rw[length_splice]
   ·simp;omega
   ·rw[List.length_drop];omega
 ·rcases nG hu with hu|hu
  ·rcases nG hu with hu|hu
   ·exact h.hw u hu
   ·exact w1 u (List.mem_of_mem_drop hu)
  ·exact w2 u hu
end
theorem insRoom_any(base g off c n i vb:Nat)(cur xs:List Value)(qs:List Rat)(x0 x1 x2 x3:Value)(q:Rat)(w:World)(h:InsI w base g off c n i vb cur xs qs x0 x1 x2 x3 q)(hroom:n+1≤c)(_hb:base≤w.heap.size): Calls Tryz.prog 62 #[.slice (some ⟨g,off,none⟩) n c,I i,.slice (some ⟨vb,0,none⟩) 1 1] w fun e w'=>∃v',e= .returned v'∧RRow w' base v' (qs.take i++q::qs.drop i)∧Below base w w':=by
 have HI:=aH h;have hi:=h.hi;have hnc:=h.hnc;have hl:=h.len;have hs:=h.hs;have hc:c≤9223372036854775807:=by have:=h.hc;unfold maxLen at this;omega
 obtain⟨o1,o2,-,-⟩:=h.one;have hov:∀lb cb,(callFunc 133 #[.slice (some ⟨vb,0,none⟩) 1 1,.slice (some ⟨g,off+(i+1)*4,none⟩) lb cb]).run Tryz.prog w= .ok (.value (.bool false)) w:=fun lb cb=>by
  rw[run_callFunc_extern Tryz.func133 (by kernel_rfl) (by kernel_rfl) (by kernel_rfl) (e:=Extern.SlicesOverlaps.overlaps #[bU,bU] #[4]) (by kernel_rfl),Lib.run_overlaps_apart w bU 4 aM Tryz.underlying111 4 Tryz.sizeOf122 ⟨vb,0,none⟩ ⟨g,off+(i+1)*4,none⟩ 1 1 lb cb h.hne aM aM 4 cur.length (by have:=h.hX;unfold Blk at this;simp[World.shape?,this]) (by have:=h.hg;unfold Blk at this;simp[World.shape?,this]) (by omega) (h.hX.frozen 0) (h.hX.frozen 4)]
  rfl
 have H1:=aH (show w.drew.heap[g]?=some (.cells cur.toArray aM (0,0))from h.hg);have S1:=aH (show∀j u,(xs.drop (i*4))[j]?=some u→w.drew.cell? ((⟨g,off+i*4,none⟩:Addr).add j)=some u from fun j u hu=>by
  rw[Addr.add_lit,Nat.add_assoc];exact h.xat (i*4+j) u (by rwa [List.getElem?_drop]at hu))
 have L1:=aH (show(xs.drop (i*4)).length=(n-i)*4 by rw[List.length_drop];omega);have F1:=aH (show off+(i+1)*4+(xs.drop (i*4)).length≤cur.length by rw[L1.out];omega);have O1:=aH o1;have O2:=aH o2;have F2:=aH (show off+i*4+[x0,x1,x2,x3].length≤(splice cur (off+(i+1)*4) (xs.drop (i*4))).length by rw[length_splice _ _ _ F1.out];simp;omega);clear h hl hs o1 o2;have hz2:¬((i:Int)=(n:Int)):=by omega
 have hz3:¬((c:Int)<(n:Int)+1):=by omega
 have hw1:IntKind.i64.wrap ((i:Int)+1)=(i:Int)+1:=by rw[IntKind.wrap_i64];omega
 have hw2:IntKind.i64.wrap ((n:Int)+1)=(n:Int)+1:=by rw[IntKind.wrap_i64];omega
 have hb1:(0:Int)≤(i:Int)+1:=by omega
 have hin:i≤n:=by omega
 have htn:((i:Int)+1).toNat=i+1:=by omega
 have htm:((n:Int)+1).toNat=n+1:=by omega
 have hb2:¬(c=i+1):=by omega
 have hb3:(i:Int)≤(n:Int)+1:=by omega
 have hb4:¬(c=i):=by omega
 have hb5:(i:Int)+1≤(n:Int)+1:=by omega
 unfold bU aM at*;go_enter Tryz.func62,Tryz.ntmps62;go_wp2_with(simp only[hov]);go_region_law ((refine yJ rfl (.tmp 73) (.tmp 76) rfl ⟨g,off+i*4,none⟩ (n+1-(i+1)) (c-(i+1)) (n+1-i) (c-i) g (off+(i+1)*4) (by simp[Act.eval,Act.put]) (by simp[Act.eval,Act.put]) cur H1.out (xs.drop (i*4)) (n-i) (by simp only[Nat.min_def];split<;>omega) L1.out S1.out F1.out O1.out ?_;intro w1 hw1));have E1:=hw1;clear hw1 hov;have hB1:w1.heap[g]?=some (.cells (splice cur (off+(i+1)*4) (xs.drop (i*4))).toArray aM (0,0)):=by rw[E1.out];exact setRow_heap w.drew g _ _ _ _ H1.out
 have hk1:∀b,b≠g→w1.heap[b]?=w.heap[b]?:=fun b hbg=>by rw[E1.out];exact setRow_other w.drew g b _ hbg
 have hz1:w1.heap.size=w.heap.size:=by rw[E1.out,size_setRow];rfl
 have hbb:Below base w w1:=by rw[E1.out];exact below_setRow (Below.refl base w).drew HI.out.hbg _
 have HBB:=aH hbb;have HB1:=aH hB1;have HK1:=aH hk1;have HZ1:=aH hz1;have S2:=aH (show∀j u,[x0,x1,x2,x3][j]?=some u→w1.cell? ((⟨vb,0,none⟩:Addr).add j)=some u from fun j u hu=>by
  rw[Addr.add_lit,Nat.zero_add,World.cell?_of_block (a:=⟨vb,j,none⟩) (hk1 _ HI.out.hne)];exact HI.out.vat j u hu)
 clear hB1 hk1 hz1 E1 hbb;unfold aM at*;have HM:=aH (show(1:Nat)=Nat.min 1 (n+1-i) by simp only[Nat.min_def];split<;>omega);go_wp2_with(refine sW rfl (.tmp 80) (.tmp 81) rfl ⟨vb,0,none⟩ (n+1-i) (c-i) 1 1 g (off+i*4) (by rfl) (by rfl) _ HB1.out [x0,x1,x2,x3] 1 HM.out rfl S2.out F2.out O2.out ?_;intro w2 hw2);have hB2:w2.heap[g]?=some (.cells (splice (splice cur (off+(i+1)*4) (xs.drop (i*4))) (off+i*4) [x0,x1,x2,x3]).toArray aM (0,0)):=by rw[hw2.out];exact setRow_heap w1 g _ _ _ _ HB1.out
 have hk2:∀b,b≠g→w2.heap[b]?=w.heap[b]?:=fun b hbg=>by rw[hw2.out,setRow_other w1 g b _ hbg,HK1.out b hbg]
 have hz2:w2.heap.size=w.heap.size:=by rw[hw2.out,size_setRow,HZ1.out]
 have HE:=aH (HI.out.place hroom hB2 hz2 hk2);have HB:=aH (show Below base w w2 by rw[hw2.out];exact below_setRow HBB.out HI.out.hbg _);clear hB2 hk2 hz2 hw2;go_wp2;go_ret;exact⟨_,rfl,HE.out,HB.out⟩
theorem aGu{w:World}{ops:Array Oper}{rest:List Oper}{o:Oper}{a:Act}{Q:Exit→Act→World→Prop}(hgd:o.guard=none)(s x:Operand)(t tn:TypeId) (ho:o.op= .call {callee:= .builtin .append,args:=#[s,x],argTypes:=#[t,tn]})(vs vx:Value)(hs:a.eval s=vs)(hx:a.eval x=vx)
  (v':Value)(w':World)(hr:(Builtin.append_ #[t,tn] o.type #[vs,vx]).run Tryz.prog w= .ok v' w')(h:∀W,Hid (W=w')→wpList Tryz.prog ops Q rest (a.put o.dst v') W):wpList Tryz.prog ops Q (o::rest) a w:=Lib.wpList_append_run w hgd s x t tn ho vs vx hs hx v' w' hr (h _ (aH rfl))
theorem aGv(base g off c n i vb:Nat)(cur xs:List Value)(qs:List Rat)(x0 x1 x2 x3:Value)(q:Rat)(w:World)(h:InsI w base g off c n i vb cur xs qs x0 x1 x2 x3 q)(hroom:c<n+1)(hb:base≤w.heap.size)(hl1:n≤1000000): Calls Tryz.prog 62 #[.slice (some ⟨g,off,none⟩) n c,I i,.slice (some ⟨vb,0,none⟩) 1 1] w fun e w'=>∃v',e= .returned v'∧RRow w' base v' (qs.take i++q::qs.drop i)∧Below base w w':=by
 have HI:=aH h;have hi:=h.hi;have hnc:=h.hnc;have hl:=h.len;obtain⟨o1,o2,k1,k2⟩:=h.one;obtain⟨i0,hi0,hz0,hzs,hzb⟩:=info_parts kM;have hold:(Builtin.firstCells i0.size i (.slice (some ⟨g,off,none⟩) i c)).run Tryz.prog w.drew= .ok (xs.take (i*4)).toArray w.drew:=by
  rw[hzs];exact run_firstCells_some w.drew 4 i ⟨g,off,none⟩ i c (xs.take (i*4)) (by rw[List.length_take];omega) (fun j u hj=>by
   rw[Addr.add_lit];rw[List.getElem?_take]at hj;split at hj
   ·exact h.xat j u hj
   ·cases hj)
 have hrz:∀ty,(Builtin.append_ #[bU,3] ty #[.slice (some ⟨g,off,none⟩) i c,.int .i64 ((n:Int)+1-(i:Int))]).run Tryz.prog w= .ok (.slice (some ⟨w.heap.size,0,none⟩) (n+1) (grownCap w (n+1) c aM)) (w.drew.alloc (.cells ((xs.take (i*4)).toArray++Builtin.zeroCells mZ (n+1-i)++Builtin.zeroCells mZ (grownCap w (n+1) c aM-(n+1))) aM)):=fun ty=>by
  have h:=Lib.run_append_grow_zeros w bU 3 ty aM i0 _ .i64 .i64 Tryz.underlying111 Tryz.underlying3 hi0 hz0 (some ⟨g,off,none⟩) i c (xs.take (i*4)) hold (n+1-i) (by omega) (by omega) (by omega) (by omega) (by rw[hzb];omega) (by rw[hzb,show i+(n+1-i)=n+1 by omega];exact growslice_fits hroom (by omega));rw[show i+(n+1-i)=n+1 by omega]at h;rw[show(n:Int)+1-(i:Int)=((n+1-i:Nat):Int) by omega];exact h
 have hge:=grownCap_ge w (n+1) c aM;have hgm:=grownCap_le_maxLen w (n+1) c aM (by unfold maxLen;omega);generalize grownCap w (n+1) c aM=G at*;have hG63:G≤9223372036854775807:=by unfold maxLen at hgm;omega
 obtain⟨R,hR⟩:∃R:List Value,(xs.take (i*4)).toArray++Builtin.zeroCells mZ (n+1-i)++Builtin.zeroCells mZ (G-(n+1))=R.toArray:=⟨_,(Array.toArray_toList).symm⟩;have hRl:R.length=G*4:=by
  have:=congrArg Array.size hR;simp only[Array.size_append,size_zeroCells,List.size_toArray,List.length_take,List.length_cons,List.length_nil]at this;omega
 have hR2:R=xs.take (i*4)++((Builtin.zeroCells mZ (n+1-i)).toList++(Builtin.zeroCells mZ (G-(n+1))).toList):=by
  have:=congrArg Array.toList hR;simpa using this.symm
 have hRt:(R.drop 0).take (i*4)=xs.take (i*4):=by
  rw[hR2,List.drop_zero,List.take_append_of_le_length (by rw[List.length_take];omega),List.take_take,Nat.min_self]
 have hRw:∀u∈R,noWord u:=fun u hu=>by
  rw[hR2,List.mem_append,List.mem_append]at hu;rcases hu with hu|hu|hu
  ·exact k1 u (List.mem_of_mem_take hu)
  ·exact kY _ u hu
  ·exact kY _ u hu
 rw[hR]at hrz;have RL:=aH hRl;have RT:=aH hRt;have RW:=aH hRw;clear hR hR2 hRl hRt hRw hold;have L1:=aH (show(xs.drop (i*4)).length=(n-i)*4 by rw[List.length_drop];omega);have F1:=aH (show i*4+[x0,x1,x2,x3].length≤R.length by rw[RL.out];simp;omega);have F2:=aH (show(i+1)*4+(xs.drop (i*4)).length≤(splice R (i*4) [x0,x1,x2,x3]).length by rw[length_splice _ _ _ F1.out,RL.out,L1.out];omega);have O1:=aH o1;have O2:=aH o2;have K1:=aH k1;have K2:=aH k2;have hgw:=h.hg.lt;have hvw:=h.hX.lt;clear h hl o1 o2 k1 k2 hzs hzb hi0 hz0;have hz2:¬((i:Int)=(n:Int)):=by omega
 have hz3:(c:Int)<(n:Int)+1:=by omega
 have hw1:IntKind.i64.wrap ((i:Int)+1)=(i:Int)+1:=by rw[IntKind.wrap_i64];omega
 have hb1:(0:Int)≤(i:Int)+1:=by omega
 have hin:i≤n:=by omega
 have htn:((i:Int)+1).toNat=i+1:=by omega
 have hGi:¬(G=i):=by omega
 have hGim:¬(G=i+1):=by omega
 have hci:¬(c=i):=by omega
 have hb3:(i:Int)≤(n:Int):=by omega
 unfold bU aM at*;go_enter Tryz.func62,Tryz.ntmps62;go_upto_region 10 with(at_builtin;refine aGu rfl _ _ _ _ rfl _ _ rfl rfl _ _ (hrz _) ?_;intro w1 hw1)
 clear hrz;have HA:=aH (show Blk w1 w.heap.size aM R.toArray by rw[hw1.out];exact heap_alloc_new w.drew _);have HB:=aH (show Below w.heap.size w w1 by rw[hw1.out];exact(Below.refl _ w).drew.alloc lR _);clear hw1;generalize hGS:w.heap.size=gs at*;have S1:=aH (show∀j u,[x0,x1,x2,x3][j]?=some u→w1.cell? ((⟨vb,0,none⟩:Addr).add j)=some u from fun j u hu=>by
  rw[Addr.add_lit,Nat.zero_add,HB.out.cell (p:=⟨vb,j,none⟩) hvw];exact HI.out.vat j u hu)
 have HM:=aH (show(1:Nat)=Nat.min 1 (n+1-i) by simp only[Nat.min_def];split<;>omega);go_upto_region 11 with(refine sW rfl (.tmp 43) (.tmp 44) rfl ⟨vb,0,none⟩ (n+1-i) (G-i) 1 1 gs (i*4) (by rfl) (by rfl) R HA.out [x0,x1,x2,x3] 1 HM.out rfl S1.out F1.out O2.out ?_;intro w2 hw2)
 have HA2:=aH (show Blk w2.drew gs aM (splice R (i*4) [x0,x1,x2,x3]).toArray by rw[hw2.out];exact setRow_heap w1 gs _ _ _ _ HA.out);have HB2:=aH (show Below gs w w2.drew by rw[hw2.out];exact(below_setRow HB.out lR _).drew);clear hw2 S1 HA HB;have S2:=aH (show∀j u,(xs.drop (i*4))[j]?=some u→w2.drew.cell? ((⟨g,off+i*4,none⟩:Addr).add j)=some u from fun j u hu=>by
  rw[Addr.add_lit,Nat.add_assoc,HB2.out.cell (p:=⟨g,_,none⟩) hgw];exact HI.out.xat (i*4+j) u (by rwa [List.getElem?_drop]at hu))
 go_region_law ((refine yJ rfl (.tmp 50) (.tmp 53) rfl ⟨g,off+i*4,none⟩ (n+1-(i+1)) (G-(i+1)) (n-i) (c-i) gs ((i+1)*4) (by simp[Act.eval,Act.put]) (by simp[Act.eval,Act.put]) _ HA2.out (xs.drop (i*4)) (n-i) (by simp only[Nat.min_def];split<;>omega) L1.out S2.out F2.out O1.out ?_;intro w3 hw3));have hB3:Blk w3 gs aM (splice (splice R (i*4) [x0,x1,x2,x3]) ((i+1)*4) (xs.drop (i*4))).toArray:=by rw[hw3.out];exact setRow_heap w2.drew gs _ _ _ _ HA2.out
 have hBL:Below gs w w3:=by rw[hw3.out];exact below_setRow HB2.out lR _
 subst hGS;have hcc:=(aAy (L:=R) (a:=xs.take (i*4)) (y:=[x0,x1,x2,x3]) (d:=xs.drop (i*4)) (off:=0) (p:=i*4) (q:=4) (m:=(n-i)*4) RT.out (by rw[List.length_take,HI.out.len];omega) rfl L1.out (by rw[RL.out];omega)).2;rw[show 0+i*4=i*4 by omega,show i*4+4=(i+1)*4 by omega,show(i+1)*4+(n-i)*4=(n+1)*4 by omega]at hcc;have HE:=aH (aGt (base:=base) (c:=G) (qs:=qs.take i++q::qs.drop i) hB3 hb hcc (HI.out.rt (kL hBL)) (by rw[List.length_append,List.length_cons,List.length_take,List.length_drop,HI.out.hn];omega) hge hgm (by rw[length_splice _ _ _ F2.out,length_splice _ _ _ F1.out,RL.out];omega) (fun u hu=>by
  rcases nG hu with hu|hu
  ·rcases nG hu with hu|hu
   ·exact RW.out u hu
   ·exact K2.out u hu
  ·exact K1.out u (List.mem_of_mem_drop hu)))
 have HZ:=aH (show Below base w w3 from hBL.mono hb);clear hcc hB3 hBL hw3 HA2 HB2 S2;go_wp2;go_ret;exact⟨_,rfl,HE.out,HZ.out⟩
theorem aJl(base:Nat)(v:Value)(qs:List Rat)(i vb:Nat)(x0 x1 x2 x3:Value)(q:Rat)(w:World)(hr:RRow w base v qs)(hi:i≤qs.length)(hX:Blk w vb aM #[x0,x1,x2,x3])(hq:Rt w (.agg #[x0,x1,x2,x3]) q)(hne:v.ownBlock≠some vb) (hl:qs.length≤1000000)(hb:base≤w.heap.size):
  Calls Tryz.prog 62 #[v,I i,.slice (some ⟨vb,0,none⟩) 1 1] w fun e w'=>∃v',e= .returned v'∧RRow w' base v' (qs.take i++q::qs.drop i)∧Below base w w':=by
 by_cases he:i=qs.length
 ·subst he;rw[List.take_of_length_le lR,List.drop_of_length_le lR];exact aJk base v qs vb x0 x1 x2 x3 q w hr hX hq hl hb
 ·obtain⟨⟨xs,hrow,hx⟩,hnw⟩:=id hr;rcases hrow.2 with⟨_,h0⟩|⟨g,off,cap,cur,rfl,hbg,hg,hnc,hcm,hcs,htake⟩
  ·omega
  ·have hI:InsI w base g off cap qs.length i vb cur.toList xs qs x0 x1 x2 x3 q:=⟨by simpa using hg,hbg,htake,hx,rfl,by omega,hnc,hcm,by simpa using hcs,pR hg (fun o n=>hnw g o n rfl),hX,hq,fun e=>hne (by rw[e];rfl)⟩
   by_cases hroom:qs.length+1≤cap
   ·exact insRoom_any base g off cap qs.length i vb _ xs qs x0 x1 x2 x3 q w hI hroom hb
   ·exact aGv base g off cap qs.length i vb _ xs qs x0 x1 x2 x3 q w hI (by omega) hb hl
end Go.Proofs.YtenbglfkdldheaaGreatDoor
