/- slices.Delete of one element, at the struct types. netmodel.Without: the plain function; the plain laws of NetmodelKeeps. No program here. netmodel.Without. One row added to one row, one row times a number: matrix.Add and matrix.Scale at matrices of one row. -/
import Derived.Lib.SliceRun
import Derived.Deep.Cut
import Derived.Test.YtenbglfkdldheaaGreatDoorVXA
set_option maxRecDepth 100000
set_option maxHeartbeats 4000000
namespace Go.Proofs.YtenbglfkdldheaaGreatDoor
section
open Go.RowKit
def mF(cs:Array Value):Nat→List Value→Array Value
 |_,[]=>cs
 |o,v::vs=>mF (cs.setIfInBounds o v) (o+1) vs
theorem cR:∀(vs:List Value) (cs:Array Value) (o:Nat),(mF cs o vs).size=cs.size
 |[],_,_=>rfl
 |v::vs,cs,o=>by rw[mF,cR vs,Array.size_setIfInBounds]
theorem pX:∀(vs:List Value) (cs:Array Value) (o j:Nat),o+vs.length≤cs.size→(mF cs o vs)[j]?=if o≤j∧j<o+vs.length then vs[j-o]? else cs[j]?
 |[],cs,o,j,_=>by rw[mF,if_neg (by rw[List.length_nil];omega)]
 |v::vs,cs,o,j,h=>by
  rw[List.length_cons]at h;rw[mF,pX vs _ _ j (by rw[Array.size_setIfInBounds];omega),List.length_cons];by_cases h1:o+1≤j∧j<o+1+vs.length
  ·rw[if_pos h1,if_pos ⟨by omega,by omega⟩,show j-o=(j-(o+1))+1 by omega,List.getElem?_cons_succ]
  ·rw[if_neg h1,Array.getElem?_setIfInBounds];by_cases h2:o=j
   ·subst h2;rw[if_pos rfl,if_pos (by omega),if_pos ⟨Nat.le_refl _,by omega⟩,Nat.sub_self];rfl
   ·rw[if_neg h2,if_neg (by omega)]
theorem iC{g:Nat}{e:TypeId}:∀(vs:List Value) (w:World) (cs:Array Value) (o:Nat),Blk w g e cs→Blk (w.setCells g o vs) g e (mF cs o vs)
 |[],_,_,_,h=>h
 |v::vs,_,_,o,h=>iC vs _ _ _ (h.set_ o v)
theorem cO{B g:Nat}(hB:B≤g):∀(vs:List Value) (w w0:World) (o:Nat),Below B w0 w→Below B w0 (w.setCells g o vs)
 |[],_,_,_,h=>h
 |v::vs,_,_,_,h=>cO hB vs _ _ _ (h.setCell (by exact hB) v)
theorem dC{b g:Nat}(hne:b≠g):∀(vs:List Value) (w:World) (o:Nat),(w.setCells g o vs).heap[b]?=w.heap[b]?
 |[],_,_=>rfl
 |v::vs,w,o=>(dC hne vs _ _).trans (Below.heap_setCell w ⟨g,o,none⟩ v b hne)
theorem dD(g:Nat):∀(vs:List Value) (w:World) (o:Nat),(w.setCells g o vs).heap.size=w.heap.size
 |[],_,_=>rfl
 |v::vs,w,o=>(dD g vs _ _).trans (by simp[World.setCell])
theorem gT{P:Program}(w:World)(t e ty:TypeId)(z:Value)(ht:P.underlying t=some (.slice e))(hv:∀w,(zeroValue e).run P w= .ok z w)(zs:List Value)(b o n c:Nat)(hn:0<n)(hz:(Builtin.zeroCells z.cells n).toList=zs)(h1:∀u∈zs,u.oneCell'=true) (hc:∀j,j<zs.length→(w.cell? ⟨b,o+j,none⟩).isSome=true)(hf:∀j,j<zs.length→w.frozen? ⟨b,o+j,none⟩=false):
  (Builtin.clear_ #[t] ty #[.slice (some ⟨b,o,none⟩) n c]).run P w= .ok (.tuple #[]) (w.setCells b o zs):=by
 have hst:=run_storeCells_cells (P:=P) b o zs 0 w (by simpa using hc) (by simpa using hf) h1;simp only[Nat.add_zero]at hst;obtain⟨m,rfl⟩:∃m,n=m+1:=⟨n-1,by omega⟩;simp[Builtin.clear_,run_underlying ht,hv,hz,hst]
theorem oM{w:World}{base g off c n k sz:Nat}{e:TypeId}{cur:Array Value}{xs zs:List Value}(hxl:xs.length=n*sz)(hb:base≤g)(hB:Blk w g e cur)(hn:n≤c)(hm:c≤maxLen)(hs:off+c*sz≤cur.size)(ht:(cur.toList.drop off).take (n*sz)=xs)(hk:k<n)(hz:zs.length=sz): Row ((w.setCells g (off+k*sz) (xs.drop ((k+1)*sz))).setCells g (off+(n-1)*sz) zs) base e sz (.slice (some ⟨g,off,none⟩) (n-1) c) (n-1) (xs.take (k*sz)++xs.drop ((k+1)*sz)):=by
 have hkn:(k+1)*sz≤n*sz:=Nat.mul_le_mul_right _ hk;have hk1:(k+1)*sz=k*sz+sz:=Nat.succ_mul k sz;have hn1:(n-1)*sz+sz=n*sz:=by rw[←Nat.succ_mul,show(n-1).succ=n by omega]
 have hcn:n*sz≤c*sz:=Nat.mul_le_mul_right _ hn;have hdl:(xs.drop ((k+1)*sz)).length=n*sz-(k+1)*sz:=by rw[List.length_drop,hxl]
 have h2:=iC zs _ _ (off+(n-1)*sz) (iC (xs.drop ((k+1)*sz)) _ _ (off+k*sz) hB);refine⟨by rw[List.length_append,List.length_take,hdl,hxl];omega,.inr ⟨g,off,c,_,rfl,hb,h2,by omega,hm,by rw[cR,cR];exact hs,?_⟩⟩;apply List.ext_getElem?;intro j;rw[List.getElem?_take];by_cases hj:j<(n-1)*sz
 ·rw[if_pos hj,List.getElem?_drop,Array.getElem?_toList,pX _ _ _ _ (by rw[cR,hz];omega),if_neg (by omega),pX _ _ _ _ (by rw[hdl];omega),hdl];by_cases hjk:j<k*sz
  ·rw[if_neg (by omega),List.getElem?_append_left (by rw[List.length_take,hxl];omega),List.getElem?_take,if_pos hjk,←ht,List.getElem?_take,if_pos (by omega),List.getElem?_drop,Array.getElem?_toList]
  ·rw[if_pos ⟨by omega,by omega⟩,List.getElem?_append_right (by rw[List.length_take,hxl];omega),List.length_take,hxl];congr 1;omega
 ·rw[if_neg hj,List.getElem?_eq_none (by rw[List.length_append,List.length_take,hdl,hxl];omega)]
theorem rM{α:Type}{f:α→List Value}{sz:Nat}(hf:∀x,(f x).length=sz):∀(l:List α) (k:Nat),(aE f l).take (k*sz)=aE f (l.take k)
 |[],k=>by simp[aE]
 |x::l,0=>by simp[aE]
 |x::l,k+1=>by
  have ih:=rM hf l k;rw[aE]at ih;rw[aE,List.flatMap_cons,List.take_succ_cons,aE,List.flatMap_cons,List.take_append,hf,List.take_of_length_le (by rw[hf,Nat.succ_mul];omega),show(k+1)*sz-sz=k*sz by rw[Nat.succ_mul];omega,ih,aE]
theorem rN{α:Type}{f:α→List Value}{sz:Nat}(hf:∀x,(f x).length=sz):∀(l:List α) (k:Nat),(aE f l).drop (k*sz)=aE f (l.drop k)
 |[],k=>by simp[aE]
 |x::l,0=>by simp[aE]
 |x::l,k+1=>by
  have ih:=rN hf l k;rw[aE]at ih;rw[aE,List.flatMap_cons,List.drop_succ_cons,List.drop_append,hf,List.drop_of_length_le (by rw[hf,Nat.succ_mul];omega),show(k+1)*sz-sz=k*sz by rw[Nat.succ_mul];omega,ih,List.nil_append]
theorem gH{α:Type}{f:α→List Value}{sz:Nat}(hf:∀x,(f x).length=sz)(l:List α)(k:Nat):(aE f l).take (k*sz)++(aE f l).drop ((k+1)*sz)=aE f (l.eraseIdx k):=by
 rw[rM hf,rN hf,List.eraseIdx_eq_take_drop_succ,aE,aE,aE,List.flatMap_append]
theorem aDq:(Tryz.prog.info? 134).map (fun i=>(i.zero,i.size,i.bytes))=some (some (.agg #[.string ⟨#[]⟩,.string ⟨#[]⟩,.string ⟨#[]⟩,.bool false,.bool false]),5,56):=by kernel_rfl
theorem xI(A:Option Addr)(n c k:Nat)(xs:List Value)(w:World)(base:Nat)(hr:Row w base 134 5 (.slice A n c) n xs)(h1:∀u∈xs,u.oneCell'=true)(hk:k<n)(hn:n≤1000000)(_hb:base≤w.heap.size): Calls Tryz.prog 80 #[.slice A n c,I k,I ((k+1:Nat):Int)] w fun e w'=>e= .returned (.slice A (n-1) c)∧Row w' base 134 5 (.slice A (n-1) c) (n-1) (xs.take (k*5)++xs.drop ((k+1)*5))∧Below base w w'∧(∀b,(∀o,A≠some ⟨b,o,none⟩)→w'.heap[b]?=w.heap[b]?)∧w'.heap.size=w.heap.size:=by
 obtain⟨hxl,hr2⟩:=hr;obtain⟨g,off,cap,cur,hv,hbg,hB,hnc,hm,hs,ht⟩:=hr2.resolve_left (fun q=>by omega);injection hv with hA _ hc;subst hA hc;obtain⟨i0,hi0,hz0,hz1,hz2⟩:=info_parts aDq;have hdr:Blk w.drew g 134 cur:=hB;have HRD:=aH (oM (zs:=[.string ⟨#[]⟩,.string ⟨#[]⟩,.string ⟨#[]⟩,.bool false,.bool false]) hxl hbg hdr hnc hm hs ht hk rfl);have hm2:c≤9223372036854775807:=by unfold maxLen at hm;omega
 have hd:=(Below.refl base w).drew;have HBL:=aH (cO hbg [.string ⟨#[]⟩,.string ⟨#[]⟩,.string ⟨#[]⟩,.bool false,.bool false] _ _ (off+(n-1)*5) (cO hbg (xs.drop ((k+1)*5)) _ _ (off+k*5) hd));have HSH:=aH (show(∀b,¬g=b→((w.drew.setCells g (off+k*5) (xs.drop ((k+1)*5))).setCells g (off+(n-1)*5) [.string ⟨#[]⟩,.string ⟨#[]⟩,.string ⟨#[]⟩,.bool false,.bool false]).heap[b]?=w.heap[b]?)∧((w.drew.setCells g (off+k*5) (xs.drop ((k+1)*5))).setCells g (off+(n-1)*5) [.string ⟨#[]⟩,.string ⟨#[]⟩,.string ⟨#[]⟩,.bool false,.bool false]).heap.size=w.heap.size from⟨fun b hb=>by
  have hbg:b≠g:=fun e=>hb e.symm;rw[dC hbg,dC hbg];rfl,by rw[dD,dD];rfl⟩)
 obtain⟨news,hnews⟩:∃news,xs.drop ((k+1)*5)=news:=⟨_,rfl⟩;have hnl:news.length=(n-(k+1))*5:=by rw[←hnews,List.length_drop,hxl];omega
 have hat:∀t u,news[t]?=some u→w.drew.cell? ⟨g,off+(k+1)*5+t,none⟩=some u:=by
  intro t u hu;rw[←hnews,List.getElem?_drop,←ht,List.getElem?_take]at hu;split at hu
  ·rw[List.getElem?_drop,Array.getElem?_toList]at hu;rw[show w.drew.cell? ⟨g,off+(k+1)*5+t,none⟩=w.cell? ⟨g,off+(k+1)*5+t,none⟩from rfl,hB.cell,show off+(k+1)*5+t=off+((k+1)*5+t) by omega];exact hu
  ·cases hu
 have hspare:∀j,j<news.length→(w.drew.cell? ⟨g,off+k*5+j,none⟩).isSome=true∧w.drew.frozen? ⟨g,off+k*5+j,none⟩=false:=by
  intro j hj;refine⟨?_,hdr.frozen _⟩;rw[hdr.cell,Array.getElem?_eq_getElem (by omega)];rfl
 have h1n:∀u∈news,u.oneCell'=true:=fun u hu=>h1 u (List.mem_of_mem_drop (hnews▸hu));obtain⟨Ad,hAd,hsrc⟩:∃Ad:Addr,(if c=k+1 then(some ⟨g,off,none⟩:Option Addr)else some ⟨g,off+(k+1)*5,none⟩)=some Ad∧∀t u,news[t]?=some u→w.drew.cell? (Ad.add t)=some u:=by
  by_cases h:c=k+1
  ·refine⟨⟨g,off,none⟩,if_pos h,fun t u hu=>?_⟩;have h0:news.length=0:=by rw[hnl,show n-(k+1)=0 by omega]
   rw[List.length_eq_zero_iff.1 h0]at hu;simp at hu
  ·exact⟨⟨g,off+(k+1)*5,none⟩,if_neg h,fun t u hu=>by rw[Addr.add_lit];exact hat t u hu⟩
 have HB1:=aH (iC news _ _ (off+k*5) hdr);have hcs:off+(n-1)*5+5≤cur.size:=by omega
 have HCL:=aH (fun ty=>gT (P:=Tryz.prog) (w.drew.setCells g (off+k*5) news) 23 134 ty (.agg #[.string ⟨#[]⟩,.string ⟨#[]⟩,.string ⟨#[]⟩,.bool false,.bool false]) Tryz.underlying23 Tryz.zeroValue134 [.string ⟨#[]⟩,.string ⟨#[]⟩,.string ⟨#[]⟩,.bool false,.bool false] g (off+(n-1)*5) 1 (c-(n-1)) (by decide) (by kernel_rfl) (by simp[Value.oneCell']) (fun j hj=>by
  have hj2:j<5:=hj;rw[HB1.out.cell,Array.getElem?_eq_getElem (by rw[cR];omega)];rfl) (fun j _=>HB1.out.frozen _))
 rw[hnews]at HRD HBL HSH⊢;have S1:=aH hnl;have S2:=aH hsrc;have S3:=aH h1n;have S4:=aH hspare;obtain⟨j,hj⟩:∃j,k+1=j:=⟨_,rfl⟩;have HJ:=aH hj;rw[hj]at hAd S1⊢;have hkc:k≤c:=by omega
 have hjc:j≤c:=by omega
 have hjn:j≤n:=by omega
 have hkj:k≤j:=by omega
 have hne:((k:Int)==(j:Int))=false:=by rw[beq_eq_false_iff_ne];omega
 have hnj:k+(n-j)=n-1:=by omega
 have HNJ:=aH hnj;have hn1:n-1≤n:=by omega
 have hn2:n-(n-1)=1:=by omega
 have hcn1:¬c=n-1:=by omega
 have HN2:=aH hn2;clear hxl hr2 hB hdr hs ht hnl hat hspare h1n hd hnews hsrc HB1 h1 hj hnj hn2;by_cases hce:c=j
 ·rw[if_pos hce]at hAd;obtain rfl:j=c:=hce.symm;have hnk:n-1=k:=by have:=HJ.out;omega
  rw[hnk]at HRD HBL HSH HCL HN2⊢;have hnj0:n-j=0:=by omega
  have S1b:=aH (show news.length=0*5 by rw[S1.out,hnj0]);clear hnk hnj0 hn1 hcn1;injection hAd with hAd;subst hAd;go_enter Tryz.func80,Tryz.ntmps80;go_upto_region 5 with(fail)
  go_region_law ((refine step_append_room (by rfl) (.tmp 22) (.tmp 25) 23 (by rfl) 134 i0 5 Tryz.underlying23 hi0 hz1 g off k j (by kernel_rfl) _ 0 0 news (by kernel_rfl) S1b.out S2.out S3.out (by omega) S4.out ?_));simp only[Act.put,List.getElem_toArray,List.getElem_cons_succ,List.getElem_cons_zero,List.setIfInBounds_toArray,List.set_cons_zero];have hcl:=HCL.out;have hcl:=HCL.out;rw[←HN2.out]at hcl;generalize w.drew.setCells g (off+k*5) news=W1 at*;go_wp2;go_ret;exact⟨rfl,HRD.out,HBL.out,HSH.out⟩
 ·rw[if_neg hce]at hAd;injection hAd with hAd;subst hAd;go_enter Tryz.func80,Tryz.ntmps80;go_upto_region 5 with(fail)
  go_region_law ((refine step_append_room (by rfl) (.tmp 22) (.tmp 25) 23 (by rfl) 134 i0 5 Tryz.underlying23 hi0 hz1 g off k c (by kernel_rfl) _ (n-j) (c-j) news (by kernel_rfl) S1.out S2.out S3.out (by omega) S4.out ?_));rw[HNJ.out];simp only[Act.put,List.getElem_toArray,List.getElem_cons_succ,List.getElem_cons_zero,List.setIfInBounds_toArray,List.set_cons_zero];have hcl:∀ty,(Builtin.clear_ #[23] ty #[.slice (some ⟨g,off+(n-1)*5,none⟩) (n-(n-1)) (c-(n-1))]).run Tryz.prog (w.drew.setCells g (off+k*5) news)= .ok (.tuple #[]) ((w.drew.setCells g (off+k*5) news).setCells g (off+(n-1)*5) [.string ⟨#[]⟩,.string ⟨#[]⟩,.string ⟨#[]⟩,.bool false,.bool false]):=by
   intro ty;rw[HN2.out];exact HCL.out ty
  generalize w.drew.setCells g (off+k*5) news=W1 at*;go_wp2;go_ret;exact⟨rfl,HRD.out,HBL.out,HSH.out⟩
theorem aDr:(Tryz.prog.info? 41).map (fun i=>(i.zero,i.size,i.bytes))=some (some (.agg #[.string ⟨#[]⟩,.string ⟨#[]⟩,.string ⟨#[]⟩,.int .i64 0,.int .i64 0,.int .i64 0,.int .i64 0,.int .i64 0,.int .i64 0]),9,96):=by kernel_rfl
theorem pE(A:Option Addr)(n c k:Nat)(xs:List Value)(w:World)(base:Nat)(hr:Row w base 41 9 (.slice A n c) n xs)(h1:∀u∈xs,u.oneCell'=true)(hk:k<n)(hn:n≤1000000)(_hb:base≤w.heap.size): Calls Tryz.prog 81 #[.slice A n c,I k,I ((k+1:Nat):Int)] w fun e w'=>e= .returned (.slice A (n-1) c)∧Row w' base 41 9 (.slice A (n-1) c) (n-1) (xs.take (k*9)++xs.drop ((k+1)*9))∧Below base w w'∧(∀b,(∀o,A≠some ⟨b,o,none⟩)→w'.heap[b]?=w.heap[b]?)∧w'.heap.size=w.heap.size:=by
 obtain⟨hxl,hr2⟩:=hr;obtain⟨g,off,cap,cur,hv,hbg,hB,hnc,hm,hs,ht⟩:=hr2.resolve_left (fun q=>by omega);injection hv with hA _ hc;subst hA hc;obtain⟨i0,hi0,hz0,hz1,hz2⟩:=info_parts aDr;have hdr:Blk w.drew g 41 cur:=hB;have HRD:=aH (oM (zs:=[.string ⟨#[]⟩,.string ⟨#[]⟩,.string ⟨#[]⟩,.int .i64 0,.int .i64 0,.int .i64 0,.int .i64 0,.int .i64 0,.int .i64 0]) hxl hbg hdr hnc hm hs ht hk rfl);have hm2:c≤9223372036854775807:=by unfold maxLen at hm;omega
 have hd:=(Below.refl base w).drew;have HBL:=aH (cO hbg [.string ⟨#[]⟩,.string ⟨#[]⟩,.string ⟨#[]⟩,.int .i64 0,.int .i64 0,.int .i64 0,.int .i64 0,.int .i64 0,.int .i64 0] _ _ (off+(n-1)*9) (cO hbg (xs.drop ((k+1)*9)) _ _ (off+k*9) hd));have HSH:=aH (show(∀b,¬g=b→((w.drew.setCells g (off+k*9) (xs.drop ((k+1)*9))).setCells g (off+(n-1)*9) [.string ⟨#[]⟩,.string ⟨#[]⟩,.string ⟨#[]⟩,.int .i64 0,.int .i64 0,.int .i64 0,.int .i64 0,.int .i64 0,.int .i64 0]).heap[b]?=w.heap[b]?)∧((w.drew.setCells g (off+k*9) (xs.drop ((k+1)*9))).setCells g (off+(n-1)*9) [.string ⟨#[]⟩,.string ⟨#[]⟩,.string ⟨#[]⟩,.int .i64 0,.int .i64 0,.int .i64 0,.int .i64 0,.int .i64 0,.int .i64 0]).heap.size=w.heap.size from⟨fun b hb=>by
  have hbg:b≠g:=fun e=>hb e.symm;rw[dC hbg,dC hbg];rfl,by rw[dD,dD];rfl⟩)
 obtain⟨news,hnews⟩:∃news,xs.drop ((k+1)*9)=news:=⟨_,rfl⟩;have hnl:news.length=(n-(k+1))*9:=by rw[←hnews,List.length_drop,hxl];omega
 have hat:∀t u,news[t]?=some u→w.drew.cell? ⟨g,off+(k+1)*9+t,none⟩=some u:=by
  intro t u hu;rw[←hnews,List.getElem?_drop,←ht,List.getElem?_take]at hu;split at hu
  ·rw[List.getElem?_drop,Array.getElem?_toList]at hu;rw[show w.drew.cell? ⟨g,off+(k+1)*9+t,none⟩=w.cell? ⟨g,off+(k+1)*9+t,none⟩from rfl,hB.cell,show off+(k+1)*9+t=off+((k+1)*9+t) by omega];exact hu
  ·cases hu
 have hspare:∀j,j<news.length→(w.drew.cell? ⟨g,off+k*9+j,none⟩).isSome=true∧w.drew.frozen? ⟨g,off+k*9+j,none⟩=false:=by
  intro j hj;refine⟨?_,hdr.frozen _⟩;rw[hdr.cell,Array.getElem?_eq_getElem (by omega)];rfl
 have h1n:∀u∈news,u.oneCell'=true:=fun u hu=>h1 u (List.mem_of_mem_drop (hnews▸hu));obtain⟨Ad,hAd,hsrc⟩:∃Ad:Addr,(if c=k+1 then(some ⟨g,off,none⟩:Option Addr)else some ⟨g,off+(k+1)*9,none⟩)=some Ad∧∀t u,news[t]?=some u→w.drew.cell? (Ad.add t)=some u:=by
  by_cases h:c=k+1
  ·refine⟨⟨g,off,none⟩,if_pos h,fun t u hu=>?_⟩;have h0:news.length=0:=by rw[hnl,show n-(k+1)=0 by omega]
   rw[List.length_eq_zero_iff.1 h0]at hu;simp at hu
  ·exact⟨⟨g,off+(k+1)*9,none⟩,if_neg h,fun t u hu=>by rw[Addr.add_lit];exact hat t u hu⟩
 have HB1:=aH (iC news _ _ (off+k*9) hdr);have hcs:off+(n-1)*9+9≤cur.size:=by omega
 have HCL:=aH (fun ty=>gT (P:=Tryz.prog) (w.drew.setCells g (off+k*9) news) 24 41 ty (.agg #[.string ⟨#[]⟩,.string ⟨#[]⟩,.string ⟨#[]⟩,.int .i64 0,.int .i64 0,.int .i64 0,.int .i64 0,.int .i64 0,.int .i64 0]) Tryz.underlying24 Tryz.zeroValue41 [.string ⟨#[]⟩,.string ⟨#[]⟩,.string ⟨#[]⟩,.int .i64 0,.int .i64 0,.int .i64 0,.int .i64 0,.int .i64 0,.int .i64 0] g (off+(n-1)*9) 1 (c-(n-1)) (by decide) (by kernel_rfl) (by simp[Value.oneCell']) (fun j hj=>by
  have hj2:j<9:=hj;rw[HB1.out.cell,Array.getElem?_eq_getElem (by rw[cR];omega)];rfl) (fun j _=>HB1.out.frozen _))
 rw[hnews]at HRD HBL HSH⊢;have S1:=aH hnl;have S2:=aH hsrc;have S3:=aH h1n;have S4:=aH hspare;obtain⟨j,hj⟩:∃j,k+1=j:=⟨_,rfl⟩;have HJ:=aH hj;rw[hj]at hAd S1⊢;have hkc:k≤c:=by omega
 have hjc:j≤c:=by omega
 have hjn:j≤n:=by omega
 have hkj:k≤j:=by omega
 have hne:((k:Int)==(j:Int))=false:=by rw[beq_eq_false_iff_ne];omega
 have hnj:k+(n-j)=n-1:=by omega
 have HNJ:=aH hnj;have hn1:n-1≤n:=by omega
 have hn2:n-(n-1)=1:=by omega
 have hcn1:¬c=n-1:=by omega
 have HN2:=aH hn2;clear hxl hr2 hB hdr hs ht hnl hat hspare h1n hd hnews hsrc HB1 h1 hj hnj hn2;by_cases hce:c=j
 ·rw[if_pos hce]at hAd;obtain rfl:j=c:=hce.symm;have hnk:n-1=k:=by have:=HJ.out;omega
  rw[hnk]at HRD HBL HSH HCL HN2⊢;have hnj0:n-j=0:=by omega
  have S1b:=aH (show news.length=0*9 by rw[S1.out,hnj0]);clear hnk hnj0 hn1 hcn1;injection hAd with hAd;subst hAd;go_enter Tryz.func81,Tryz.ntmps81;go_upto_region 5 with(fail)
  go_region_law ((refine step_append_room (by rfl) (.tmp 22) (.tmp 25) 24 (by rfl) 41 i0 9 Tryz.underlying24 hi0 hz1 g off k j (by kernel_rfl) _ 0 0 news (by kernel_rfl) S1b.out S2.out S3.out (by omega) S4.out ?_));simp only[Act.put,List.getElem_toArray,List.getElem_cons_succ,List.getElem_cons_zero,List.setIfInBounds_toArray,List.set_cons_zero];have hcl:=HCL.out;have hcl:=HCL.out;rw[←HN2.out]at hcl;generalize w.drew.setCells g (off+k*9) news=W1 at*;go_wp2;go_ret;exact⟨rfl,HRD.out,HBL.out,HSH.out⟩
 ·rw[if_neg hce]at hAd;injection hAd with hAd;subst hAd;go_enter Tryz.func81,Tryz.ntmps81;go_upto_region 5 with(fail)
  go_region_law ((refine step_append_room (by rfl) (.tmp 22) (.tmp 25) 24 (by rfl) 41 i0 9 Tryz.underlying24 hi0 hz1 g off k c (by kernel_rfl) _ (n-j) (c-j) news (by kernel_rfl) S1.out S2.out S3.out (by omega) S4.out ?_));rw[HNJ.out];simp only[Act.put,List.getElem_toArray,List.getElem_cons_succ,List.getElem_cons_zero,List.setIfInBounds_toArray,List.set_cons_zero];have hcl:∀ty,(Builtin.clear_ #[24] ty #[.slice (some ⟨g,off+(n-1)*9,none⟩) (n-(n-1)) (c-(n-1))]).run Tryz.prog (w.drew.setCells g (off+k*9) news)= .ok (.tuple #[]) ((w.drew.setCells g (off+k*9) news).setCells g (off+(n-1)*9) [.string ⟨#[]⟩,.string ⟨#[]⟩,.string ⟨#[]⟩,.int .i64 0,.int .i64 0,.int .i64 0,.int .i64 0,.int .i64 0,.int .i64 0]):=by
   intro ty;rw[HN2.out];exact HCL.out ty
  generalize w.drew.setCells g (off+k*9) news=W1 at*;go_wp2;go_ret;exact⟨rfl,HRD.out,HBL.out,HSH.out⟩
theorem aPx:(Tryz.prog.info? 138).map (fun i=>(i.zero,i.size,i.bytes))=some (some (.agg #[.string ⟨#[]⟩,.string ⟨#[]⟩,.int .i64 0,.int .i64 0,.int .i64 0]),5,56):=by kernel_rfl
theorem aGb(A:Option Addr)(n c k:Nat)(xs:List Value)(w:World)(base:Nat)(hr:Row w base 138 5 (.slice A n c) n xs)(h1:∀u∈xs,u.oneCell'=true)(hk:k<n)(hn:n≤1000000)(_hb:base≤w.heap.size): Calls Tryz.prog 82 #[.slice A n c,I k,I ((k+1:Nat):Int)] w fun e w'=>e= .returned (.slice A (n-1) c)∧Row w' base 138 5 (.slice A (n-1) c) (n-1) (xs.take (k*5)++xs.drop ((k+1)*5))∧Below base w w'∧(∀b,(∀o,A≠some ⟨b,o,none⟩)→w'.heap[b]?=w.heap[b]?)∧w'.heap.size=w.heap.size:=by
 obtain⟨hxl,hr2⟩:=hr;obtain⟨g,off,cap,cur,hv,hbg,hB,hnc,hm,hs,ht⟩:=hr2.resolve_left (fun q=>by omega);injection hv with hA _ hc;subst hA hc;obtain⟨i0,hi0,hz0,hz1,hz2⟩:=info_parts aPx;have hdr:Blk w.drew g 138 cur:=hB;have HRD:=aH (oM (zs:=[.string ⟨#[]⟩,.string ⟨#[]⟩,.int .i64 0,.int .i64 0,.int .i64 0]) hxl hbg hdr hnc hm hs ht hk rfl);have hm2:c≤9223372036854775807:=by unfold maxLen at hm;omega
 have hd:=(Below.refl base w).drew;have HBL:=aH (cO hbg [.string ⟨#[]⟩,.string ⟨#[]⟩,.int .i64 0,.int .i64 0,.int .i64 0] _ _ (off+(n-1)*5) (cO hbg (xs.drop ((k+1)*5)) _ _ (off+k*5) hd));have HSH:=aH (show(∀b,¬g=b→((w.drew.setCells g (off+k*5) (xs.drop ((k+1)*5))).setCells g (off+(n-1)*5) [.string ⟨#[]⟩,.string ⟨#[]⟩,.int .i64 0,.int .i64 0,.int .i64 0]).heap[b]?=w.heap[b]?)∧((w.drew.setCells g (off+k*5) (xs.drop ((k+1)*5))).setCells g (off+(n-1)*5) [.string ⟨#[]⟩,.string ⟨#[]⟩,.int .i64 0,.int .i64 0,.int .i64 0]).heap.size=w.heap.size from⟨fun b hb=>by
  have hbg:b≠g:=fun e=>hb e.symm;rw[dC hbg,dC hbg];rfl,by rw[dD,dD];rfl⟩)
 obtain⟨news,hnews⟩:∃news,xs.drop ((k+1)*5)=news:=⟨_,rfl⟩;have hnl:news.length=(n-(k+1))*5:=by rw[←hnews,List.length_drop,hxl];omega
 have hat:∀t u,news[t]?=some u→w.drew.cell? ⟨g,off+(k+1)*5+t,none⟩=some u:=by
  intro t u hu;rw[←hnews,List.getElem?_drop,←ht,List.getElem?_take]at hu;split at hu
  ·rw[List.getElem?_drop,Array.getElem?_toList]at hu;rw[show w.drew.cell? ⟨g,off+(k+1)*5+t,none⟩=w.cell? ⟨g,off+(k+1)*5+t,none⟩from rfl,hB.cell,show off+(k+1)*5+t=off+((k+1)*5+t) by omega];exact hu
  ·cases hu
 have hspare:∀j,j<news.length→(w.drew.cell? ⟨g,off+k*5+j,none⟩).isSome=true∧w.drew.frozen? ⟨g,off+k*5+j,none⟩=false:=by
  intro j hj;refine⟨?_,hdr.frozen _⟩;rw[hdr.cell,Array.getElem?_eq_getElem (by omega)];rfl
 have h1n:∀u∈news,u.oneCell'=true:=fun u hu=>h1 u (List.mem_of_mem_drop (hnews▸hu));obtain⟨Ad,hAd,hsrc⟩:∃Ad:Addr,(if c=k+1 then(some ⟨g,off,none⟩:Option Addr)else some ⟨g,off+(k+1)*5,none⟩)=some Ad∧∀t u,news[t]?=some u→w.drew.cell? (Ad.add t)=some u:=by
  by_cases h:c=k+1
  ·refine⟨⟨g,off,none⟩,if_pos h,fun t u hu=>?_⟩;have h0:news.length=0:=by rw[hnl,show n-(k+1)=0 by omega]
   rw[List.length_eq_zero_iff.1 h0]at hu;simp at hu
  ·exact⟨⟨g,off+(k+1)*5,none⟩,if_neg h,fun t u hu=>by rw[Addr.add_lit];exact hat t u hu⟩
 have HB1:=aH (iC news _ _ (off+k*5) hdr);have hcs:off+(n-1)*5+5≤cur.size:=by omega
 have HCL:=aH (fun ty=>gT (P:=Tryz.prog) (w.drew.setCells g (off+k*5) news) 25 138 ty (.agg #[.string ⟨#[]⟩,.string ⟨#[]⟩,.int .i64 0,.int .i64 0,.int .i64 0]) Tryz.underlying25 Tryz.zeroValue138 [.string ⟨#[]⟩,.string ⟨#[]⟩,.int .i64 0,.int .i64 0,.int .i64 0] g (off+(n-1)*5) 1 (c-(n-1)) (by decide) (by kernel_rfl) (by simp[Value.oneCell']) (fun j hj=>by
  have hj2:j<5:=hj;rw[HB1.out.cell,Array.getElem?_eq_getElem (by rw[cR];omega)];rfl) (fun j _=>HB1.out.frozen _))
 rw[hnews]at HRD HBL HSH⊢;have S1:=aH hnl;have S2:=aH hsrc;have S3:=aH h1n;have S4:=aH hspare;obtain⟨j,hj⟩:∃j,k+1=j:=⟨_,rfl⟩;have HJ:=aH hj;rw[hj]at hAd S1⊢;have hkc:k≤c:=by omega
 have hjc:j≤c:=by omega
 have hjn:j≤n:=by omega
 have hkj:k≤j:=by omega
 have hne:((k:Int)==(j:Int))=false:=by rw[beq_eq_false_iff_ne];omega
 have hnj:k+(n-j)=n-1:=by omega
 have HNJ:=aH hnj;have hn1:n-1≤n:=by omega
 have hn2:n-(n-1)=1:=by omega
 have hcn1:¬c=n-1:=by omega
 have HN2:=aH hn2;clear hxl hr2 hB hdr hs ht hnl hat hspare h1n hd hnews hsrc HB1 h1 hj hnj hn2;by_cases hce:c=j
 ·rw[if_pos hce]at hAd;obtain rfl:j=c:=hce.symm;have hnk:n-1=k:=by have:=HJ.out;omega
  rw[hnk]at HRD HBL HSH HCL HN2⊢;have hnj0:n-j=0:=by omega
  have S1b:=aH (show news.length=0*5 by rw[S1.out,hnj0]);clear hnk hnj0 hn1 hcn1;injection hAd with hAd;subst hAd;go_enter Tryz.func82,Tryz.ntmps82;go_upto_region 5 with(fail)
  go_region_law ((refine step_append_room (by rfl) (.tmp 22) (.tmp 25) 25 (by rfl) 138 i0 5 Tryz.underlying25 hi0 hz1 g off k j (by kernel_rfl) _ 0 0 news (by kernel_rfl) S1b.out S2.out S3.out (by omega) S4.out ?_));simp only[Act.put,List.getElem_toArray,List.getElem_cons_succ,List.getElem_cons_zero,List.setIfInBounds_toArray,List.set_cons_zero];have hcl:=HCL.out;have hcl:=HCL.out;rw[←HN2.out]at hcl;generalize w.drew.setCells g (off+k*5) news=W1 at*;go_wp2;go_ret;exact⟨rfl,HRD.out,HBL.out,HSH.out⟩
 ·rw[if_neg hce]at hAd;injection hAd with hAd;subst hAd;go_enter Tryz.func82,Tryz.ntmps82;go_upto_region 5 with(fail)
  go_region_law ((refine step_append_room (by rfl) (.tmp 22) (.tmp 25) 25 (by rfl) 138 i0 5 Tryz.underlying25 hi0 hz1 g off k c (by kernel_rfl) _ (n-j) (c-j) news (by kernel_rfl) S1.out S2.out S3.out (by omega) S4.out ?_));rw[HNJ.out];simp only[Act.put,List.getElem_toArray,List.getElem_cons_succ,List.getElem_cons_zero,List.setIfInBounds_toArray,List.set_cons_zero];have hcl:∀ty,(Builtin.clear_ #[25] ty #[.slice (some ⟨g,off+(n-1)*5,none⟩) (n-(n-1)) (c-(n-1))]).run Tryz.prog (w.drew.setCells g (off+k*5) news)= .ok (.tuple #[]) ((w.drew.setCells g (off+k*5) news).setCells g (off+(n-1)*5) [.string ⟨#[]⟩,.string ⟨#[]⟩,.int .i64 0,.int .i64 0,.int .i64 0]):=by
   intro ty;rw[HN2.out];exact HCL.out ty
  generalize w.drew.setCells g (off+k*5) news=W1 at*;go_wp2;go_ret;exact⟨rfl,HRD.out,HBL.out,HSH.out⟩
theorem aLa:(Tryz.prog.info? 141).map (fun i=>(i.zero,i.size,i.bytes))=some (some (.agg #[.string ⟨#[]⟩,.string ⟨#[]⟩,.int .i64 0]),3,40):=by kernel_rfl
theorem aDs(A:Option Addr)(n c k:Nat)(xs:List Value)(w:World)(base:Nat)(hr:Row w base 141 3 (.slice A n c) n xs)(h1:∀u∈xs,u.oneCell'=true)(hk:k<n)(hn:n≤1000000)(_hb:base≤w.heap.size): Calls Tryz.prog 83 #[.slice A n c,I k,I ((k+1:Nat):Int)] w fun e w'=>e= .returned (.slice A (n-1) c)∧Row w' base 141 3 (.slice A (n-1) c) (n-1) (xs.take (k*3)++xs.drop ((k+1)*3))∧Below base w w'∧(∀b,(∀o,A≠some ⟨b,o,none⟩)→w'.heap[b]?=w.heap[b]?)∧w'.heap.size=w.heap.size:=by
 obtain⟨hxl,hr2⟩:=hr;obtain⟨g,off,cap,cur,hv,hbg,hB,hnc,hm,hs,ht⟩:=hr2.resolve_left (fun q=>by omega);injection hv with hA _ hc;subst hA hc;obtain⟨i0,hi0,hz0,hz1,hz2⟩:=info_parts aLa;have hdr:Blk w.drew g 141 cur:=hB;have HRD:=aH (oM (zs:=[.string ⟨#[]⟩,.string ⟨#[]⟩,.int .i64 0]) hxl hbg hdr hnc hm hs ht hk rfl);have hm2:c≤9223372036854775807:=by unfold maxLen at hm;omega
 have hd:=(Below.refl base w).drew;have HBL:=aH (cO hbg [.string ⟨#[]⟩,.string ⟨#[]⟩,.int .i64 0] _ _ (off+(n-1)*3) (cO hbg (xs.drop ((k+1)*3)) _ _ (off+k*3) hd));have HSH:=aH (show(∀b,¬g=b→((w.drew.setCells g (off+k*3) (xs.drop ((k+1)*3))).setCells g (off+(n-1)*3) [.string ⟨#[]⟩,.string ⟨#[]⟩,.int .i64 0]).heap[b]?=w.heap[b]?)∧((w.drew.setCells g (off+k*3) (xs.drop ((k+1)*3))).setCells g (off+(n-1)*3) [.string ⟨#[]⟩,.string ⟨#[]⟩,.int .i64 0]).heap.size=w.heap.size from⟨fun b hb=>by
  have hbg:b≠g:=fun e=>hb e.symm;rw[dC hbg,dC hbg];rfl,by rw[dD,dD];rfl⟩)
 obtain⟨news,hnews⟩:∃news,xs.drop ((k+1)*3)=news:=⟨_,rfl⟩;have hnl:news.length=(n-(k+1))*3:=by rw[←hnews,List.length_drop,hxl];omega
 have hat:∀t u,news[t]?=some u→w.drew.cell? ⟨g,off+(k+1)*3+t,none⟩=some u:=by
  intro t u hu;rw[←hnews,List.getElem?_drop,←ht,List.getElem?_take]at hu;split at hu
  ·rw[List.getElem?_drop,Array.getElem?_toList]at hu;rw[show w.drew.cell? ⟨g,off+(k+1)*3+t,none⟩=w.cell? ⟨g,off+(k+1)*3+t,none⟩from rfl,hB.cell,show off+(k+1)*3+t=off+((k+1)*3+t) by omega];exact hu
  ·cases hu
 have hspare:∀j,j<news.length→(w.drew.cell? ⟨g,off+k*3+j,none⟩).isSome=true∧w.drew.frozen? ⟨g,off+k*3+j,none⟩=false:=by
  intro j hj;refine⟨?_,hdr.frozen _⟩;rw[hdr.cell,Array.getElem?_eq_getElem (by omega)];rfl
 have h1n:∀u∈news,u.oneCell'=true:=fun u hu=>h1 u (List.mem_of_mem_drop (hnews▸hu));obtain⟨Ad,hAd,hsrc⟩:∃Ad:Addr,(if c=k+1 then(some ⟨g,off,none⟩:Option Addr)else some ⟨g,off+(k+1)*3,none⟩)=some Ad∧∀t u,news[t]?=some u→w.drew.cell? (Ad.add t)=some u:=by
  by_cases h:c=k+1
  ·refine⟨⟨g,off,none⟩,if_pos h,fun t u hu=>?_⟩;have h0:news.length=0:=by rw[hnl,show n-(k+1)=0 by omega]
   rw[List.length_eq_zero_iff.1 h0]at hu;simp at hu
  ·exact⟨⟨g,off+(k+1)*3,none⟩,if_neg h,fun t u hu=>by rw[Addr.add_lit];exact hat t u hu⟩
 have HB1:=aH (iC news _ _ (off+k*3) hdr);have hcs:off+(n-1)*3+3≤cur.size:=by omega
 have HCL:=aH (fun ty=>gT (P:=Tryz.prog) (w.drew.setCells g (off+k*3) news) 26 141 ty (.agg #[.string ⟨#[]⟩,.string ⟨#[]⟩,.int .i64 0]) Tryz.underlying26 Tryz.zeroValue141 [.string ⟨#[]⟩,.string ⟨#[]⟩,.int .i64 0] g (off+(n-1)*3) 1 (c-(n-1)) (by decide) (by kernel_rfl) (by simp[Value.oneCell']) (fun j hj=>by
  have hj2:j<3:=hj;rw[HB1.out.cell,Array.getElem?_eq_getElem (by rw[cR];omega)];rfl) (fun j _=>HB1.out.frozen _))
 rw[hnews]at HRD HBL HSH⊢;have S1:=aH hnl;have S2:=aH hsrc;have S3:=aH h1n;have S4:=aH hspare;obtain⟨j,hj⟩:∃j,k+1=j:=⟨_,rfl⟩;have HJ:=aH hj;rw[hj]at hAd S1⊢;have hkc:k≤c:=by omega
 have hjc:j≤c:=by omega
 have hjn:j≤n:=by omega
 have hkj:k≤j:=by omega
 have hne:((k:Int)==(j:Int))=false:=by rw[beq_eq_false_iff_ne];omega
 have hnj:k+(n-j)=n-1:=by omega
 have HNJ:=aH hnj;have hn1:n-1≤n:=by omega
 have hn2:n-(n-1)=1:=by omega
 have hcn1:¬c=n-1:=by omega
 have HN2:=aH hn2;clear hxl hr2 hB hdr hs ht hnl hat hspare h1n hd hnews hsrc HB1 h1 hj hnj hn2;by_cases hce:c=j
 ·rw[if_pos hce]at hAd;obtain rfl:j=c:=hce.symm;have hnk:n-1=k:=by have:=HJ.out;omega
  rw[hnk]at HRD HBL HSH HCL HN2⊢;have hnj0:n-j=0:=by omega
  have S1b:=aH (show news.length=0*3 by rw[S1.out,hnj0]);clear hnk hnj0 hn1 hcn1;injection hAd with hAd;subst hAd;go_enter Tryz.func83,Tryz.ntmps83;go_upto_region 5 with(fail)
  go_region_law ((refine step_append_room (by rfl) (.tmp 22) (.tmp 25) 26 (by rfl) 141 i0 3 Tryz.underlying26 hi0 hz1 g off k j (by kernel_rfl) _ 0 0 news (by kernel_rfl) S1b.out S2.out S3.out (by omega) S4.out ?_));simp only[Act.put,List.getElem_toArray,List.getElem_cons_succ,List.getElem_cons_zero,List.setIfInBounds_toArray,List.set_cons_zero];have hcl:=HCL.out;have hcl:=HCL.out;rw[←HN2.out]at hcl;generalize w.drew.setCells g (off+k*3) news=W1 at*;go_wp2;go_ret;exact⟨rfl,HRD.out,HBL.out,HSH.out⟩
 ·rw[if_neg hce]at hAd;injection hAd with hAd;subst hAd;go_enter Tryz.func83,Tryz.ntmps83;go_upto_region 5 with(fail)
  go_region_law ((refine step_append_room (by rfl) (.tmp 22) (.tmp 25) 26 (by rfl) 141 i0 3 Tryz.underlying26 hi0 hz1 g off k c (by kernel_rfl) _ (n-j) (c-j) news (by kernel_rfl) S1.out S2.out S3.out (by omega) S4.out ?_));rw[HNJ.out];simp only[Act.put,List.getElem_toArray,List.getElem_cons_succ,List.getElem_cons_zero,List.setIfInBounds_toArray,List.set_cons_zero];have hcl:∀ty,(Builtin.clear_ #[26] ty #[.slice (some ⟨g,off+(n-1)*3,none⟩) (n-(n-1)) (c-(n-1))]).run Tryz.prog (w.drew.setCells g (off+k*3) news)= .ok (.tuple #[]) ((w.drew.setCells g (off+k*3) news).setCells g (off+(n-1)*3) [.string ⟨#[]⟩,.string ⟨#[]⟩,.int .i64 0]):=by
   intro ty;rw[HN2.out];exact HCL.out ty
  generalize w.drew.setCells g (off+k*3) news=W1 at*;go_wp2;go_ret;exact⟨rfl,HRD.out,HBL.out,HSH.out⟩
theorem aGc:(Tryz.prog.info? 144).map (fun i=>(i.zero,i.size,i.bytes))=some (some (.agg #[.string ⟨#[]⟩,.string ⟨#[]⟩,.int .i64 0,.int .i64 0,.int .i64 0]),5,56):=by kernel_rfl
theorem aBa(A:Option Addr)(n c k:Nat)(xs:List Value)(w:World)(base:Nat)(hr:Row w base 144 5 (.slice A n c) n xs)(h1:∀u∈xs,u.oneCell'=true)(hk:k<n)(hn:n≤1000000)(_hb:base≤w.heap.size): Calls Tryz.prog 84 #[.slice A n c,I k,I ((k+1:Nat):Int)] w fun e w'=>e= .returned (.slice A (n-1) c)∧Row w' base 144 5 (.slice A (n-1) c) (n-1) (xs.take (k*5)++xs.drop ((k+1)*5))∧Below base w w'∧(∀b,(∀o,A≠some ⟨b,o,none⟩)→w'.heap[b]?=w.heap[b]?)∧w'.heap.size=w.heap.size:=by
 obtain⟨hxl,hr2⟩:=hr;obtain⟨g,off,cap,cur,hv,hbg,hB,hnc,hm,hs,ht⟩:=hr2.resolve_left (fun q=>by omega);injection hv with hA _ hc;subst hA hc;obtain⟨i0,hi0,hz0,hz1,hz2⟩:=info_parts aGc;have hdr:Blk w.drew g 144 cur:=hB;have HRD:=aH (oM (zs:=[.string ⟨#[]⟩,.string ⟨#[]⟩,.int .i64 0,.int .i64 0,.int .i64 0]) hxl hbg hdr hnc hm hs ht hk rfl);have hm2:c≤9223372036854775807:=by unfold maxLen at hm;omega
 have hd:=(Below.refl base w).drew;have HBL:=aH (cO hbg [.string ⟨#[]⟩,.string ⟨#[]⟩,.int .i64 0,.int .i64 0,.int .i64 0] _ _ (off+(n-1)*5) (cO hbg (xs.drop ((k+1)*5)) _ _ (off+k*5) hd));have HSH:=aH (show(∀b,¬g=b→((w.drew.setCells g (off+k*5) (xs.drop ((k+1)*5))).setCells g (off+(n-1)*5) [.string ⟨#[]⟩,.string ⟨#[]⟩,.int .i64 0,.int .i64 0,.int .i64 0]).heap[b]?=w.heap[b]?)∧((w.drew.setCells g (off+k*5) (xs.drop ((k+1)*5))).setCells g (off+(n-1)*5) [.string ⟨#[]⟩,.string ⟨#[]⟩,.int .i64 0,.int .i64 0,.int .i64 0]).heap.size=w.heap.size from⟨fun b hb=>by
  have hbg:b≠g:=fun e=>hb e.symm;rw[dC hbg,dC hbg];rfl,by rw[dD,dD];rfl⟩)
 obtain⟨news,hnews⟩:∃news,xs.drop ((k+1)*5)=news:=⟨_,rfl⟩;have hnl:news.length=(n-(k+1))*5:=by rw[←hnews,List.length_drop,hxl];omega
 have hat:∀t u,news[t]?=some u→w.drew.cell? ⟨g,off+(k+1)*5+t,none⟩=some u:=by
  intro t u hu;rw[←hnews,List.getElem?_drop,←ht,List.getElem?_take]at hu;split at hu
  ·rw[List.getElem?_drop,Array.getElem?_toList]at hu;rw[show w.drew.cell? ⟨g,off+(k+1)*5+t,none⟩=w.cell? ⟨g,off+(k+1)*5+t,none⟩from rfl,hB.cell,show off+(k+1)*5+t=off+((k+1)*5+t) by omega];exact hu
  ·cases hu
 have hspare:∀j,j<news.length→(w.drew.cell? ⟨g,off+k*5+j,none⟩).isSome=true∧w.drew.frozen? ⟨g,off+k*5+j,none⟩=false:=by
  intro j hj;refine⟨?_,hdr.frozen _⟩;rw[hdr.cell,Array.getElem?_eq_getElem (by omega)];rfl
 have h1n:∀u∈news,u.oneCell'=true:=fun u hu=>h1 u (List.mem_of_mem_drop (hnews▸hu));obtain⟨Ad,hAd,hsrc⟩:∃Ad:Addr,(if c=k+1 then(some ⟨g,off,none⟩:Option Addr)else some ⟨g,off+(k+1)*5,none⟩)=some Ad∧∀t u,news[t]?=some u→w.drew.cell? (Ad.add t)=some u:=by
  by_cases h:c=k+1
  ·refine⟨⟨g,off,none⟩,if_pos h,fun t u hu=>?_⟩;have h0:news.length=0:=by rw[hnl,show n-(k+1)=0 by omega]
   rw[List.length_eq_zero_iff.1 h0]at hu;simp at hu
  ·exact⟨⟨g,off+(k+1)*5,none⟩,if_neg h,fun t u hu=>by rw[Addr.add_lit];exact hat t u hu⟩
 have HB1:=aH (iC news _ _ (off+k*5) hdr);have hcs:off+(n-1)*5+5≤cur.size:=by omega
 have HCL:=aH (fun ty=>gT (P:=Tryz.prog) (w.drew.setCells g (off+k*5) news) 27 144 ty (.agg #[.string ⟨#[]⟩,.string ⟨#[]⟩,.int .i64 0,.int .i64 0,.int .i64 0]) Tryz.underlying27 Tryz.zeroValue144 [.string ⟨#[]⟩,.string ⟨#[]⟩,.int .i64 0,.int .i64 0,.int .i64 0] g (off+(n-1)*5) 1 (c-(n-1)) (by decide) (by kernel_rfl) (by simp[Value.oneCell']) (fun j hj=>by
  have hj2:j<5:=hj;rw[HB1.out.cell,Array.getElem?_eq_getElem (by rw[cR];omega)];rfl) (fun j _=>HB1.out.frozen _))
 rw[hnews]at HRD HBL HSH⊢;have S1:=aH hnl;have S2:=aH hsrc;have S3:=aH h1n;have S4:=aH hspare;obtain⟨j,hj⟩:∃j,k+1=j:=⟨_,rfl⟩;have HJ:=aH hj;rw[hj]at hAd S1⊢;have hkc:k≤c:=by omega
 have hjc:j≤c:=by omega
 have hjn:j≤n:=by omega
 have hkj:k≤j:=by omega
 have hne:((k:Int)==(j:Int))=false:=by rw[beq_eq_false_iff_ne];omega
 have hnj:k+(n-j)=n-1:=by omega
 have HNJ:=aH hnj;have hn1:n-1≤n:=by omega
 have hn2:n-(n-1)=1:=by omega
 have hcn1:¬c=n-1:=by omega
 have HN2:=aH hn2;clear hxl hr2 hB hdr hs ht hnl hat hspare h1n hd hnews hsrc HB1 h1 hj hnj hn2;by_cases hce:c=j
 ·rw[if_pos hce]at hAd;obtain rfl:j=c:=hce.symm;have hnk:n-1=k:=by have:=HJ.out;omega
  rw[hnk]at HRD HBL HSH HCL HN2⊢;have hnj0:n-j=0:=by omega
  have S1b:=aH (show news.length=0*5 by rw[S1.out,hnj0]);clear hnk hnj0 hn1 hcn1;injection hAd with hAd;subst hAd;go_enter Tryz.func84,Tryz.ntmps84;go_upto_region 5 with(fail)
  go_region_law ((refine step_append_room (by rfl) (.tmp 22) (.tmp 25) 27 (by rfl) 144 i0 5 Tryz.underlying27 hi0 hz1 g off k j (by kernel_rfl) _ 0 0 news (by kernel_rfl) S1b.out S2.out S3.out (by omega) S4.out ?_));simp only[Act.put,List.getElem_toArray,List.getElem_cons_succ,List.getElem_cons_zero,List.setIfInBounds_toArray,List.set_cons_zero];have hcl:=HCL.out;have hcl:=HCL.out;rw[←HN2.out]at hcl;generalize w.drew.setCells g (off+k*5) news=W1 at*;go_wp2;go_ret;exact⟨rfl,HRD.out,HBL.out,HSH.out⟩
 ·rw[if_neg hce]at hAd;injection hAd with hAd;subst hAd;go_enter Tryz.func84,Tryz.ntmps84;go_upto_region 5 with(fail)
  go_region_law ((refine step_append_room (by rfl) (.tmp 22) (.tmp 25) 27 (by rfl) 144 i0 5 Tryz.underlying27 hi0 hz1 g off k c (by kernel_rfl) _ (n-j) (c-j) news (by kernel_rfl) S1.out S2.out S3.out (by omega) S4.out ?_));rw[HNJ.out];simp only[Act.put,List.getElem_toArray,List.getElem_cons_succ,List.getElem_cons_zero,List.setIfInBounds_toArray,List.set_cons_zero];have hcl:∀ty,(Builtin.clear_ #[27] ty #[.slice (some ⟨g,off+(n-1)*5,none⟩) (n-(n-1)) (c-(n-1))]).run Tryz.prog (w.drew.setCells g (off+k*5) news)= .ok (.tuple #[]) ((w.drew.setCells g (off+k*5) news).setCells g (off+(n-1)*5) [.string ⟨#[]⟩,.string ⟨#[]⟩,.int .i64 0,.int .i64 0,.int .i64 0]):=by
   intro ty;rw[HN2.out];exact HCL.out ty
  generalize w.drew.setCells g (off+k*5) news=W1 at*;go_wp2;go_ret;exact⟨rfl,HRD.out,HBL.out,HSH.out⟩
end
section
theorem aLb{nodes seen:List ByteArray}{name:ByteArray}{ends:List ByteArray}(h1:eD name=true)(h2:name∉seen)(h3:∀e∈ends,e∈nodes)(h4:fN ends=false):aT nodes seen name ends=(0,name::seen):=by
 have h3':(ends.all fun e=>Lib.containsS nodes e)=true:=List.all_eq_true.2 fun e he=>(Lib.containsS_iff _ _).2 (h3 e he);rw[aT,if_neg (by simp[h1]),if_neg (fun k=>h2 ((Lib.containsS_iff _ _).1 k)),if_neg (by rw[h3'];decide),if_neg (by rw[h4];decide)]
theorem aIh{nodes:List ByteArray}:∀{items:List aVg} {seen:List ByteArray},(∀it∈items,eD it.1=true∧it.1∉seen∧(∀e∈it.2.1,e∈nodes)∧fN it.2.1=false∧it.2.2=true)→(items.map (·.1)).Nodup→iP nodes items seen=0
 |[],_,_,_=>rfl
 |(name,ends,ok)::rest,seen,h,hn=>by
  obtain⟨k1,k2,k3,k4,k5⟩:=h _ List.mem_cons_self;simp only at k1 k2 k3 k4 k5;rw[iP,aLb k1 k2 k3 k4,if_pos rfl,if_pos k5];rw[List.map_cons,List.nodup_cons]at hn;refine aIh (fun it hit=>?_) hn.2;obtain⟨j1,j2,j3⟩:=h it (List.mem_cons_of_mem _ hit);refine⟨j1,fun hm=>?_,j3⟩;rcases List.mem_cons.1 hm with e|e
  ·exact hn.1 (List.mem_map.2 ⟨it,hit,e⟩)
  ·exact j2 e
theorem lN{n m:NetD}(h:aW n=0)(h0:m.nodes=n.nodes)(h1:m.switches.Sublist n.switches)(h2:m.branches.Sublist n.branches)(h3:m.gens.Sublist n.gens)(h4:m.loads.Sublist n.loads)(h5:m.stores.Sublist n.stores):aW m=0:=by
 obtain⟨a,b⟩:=nB h;obtain⟨i1,i2⟩:=aAo b;have hs:m.items.Sublist n.items:=by
  rw[NetD.items,NetD.items,h0];exact(List.Sublist.refl _).append ((h1.map _).append ((h2.map _).append ((h3.map _).append ((h4.map _).append (h5.map _)))))
 have l1:=h1.length_le;have l2:=h2.length_le;have l3:=h3.length_le;have l4:=h4.length_le;have l5:=h5.length_le;rw[aW,if_neg (by rw[h0];omega),h0];exact aIh (fun it hit=>i1 it (hs.subset hit)) (List.Pairwise.sublist (hs.map _) i2)
def aDt:ByteArray:=⟨#[110,111,100,101]⟩
def iD:ByteArray:=⟨#[98,114,97,110,99,104]⟩
def aGd:ByteArray:=⟨#[103,101,110]⟩
def wL:ByteArray:=⟨#[108,111,97,100]⟩
def eT(n:NetD)(k:ByteArray)(i:Nat):NetD:=if k=swB then{n with switches:=n.switches.eraseIdx i}
 else if k=iD then{n with branches:=n.branches.eraseIdx i}
 else if k=aGd then{n with gens:=n.gens.eraseIdx i}
 else if k=wL then{n with loads:=n.loads.eraseIdx i}
 else{n with stores:=n.stores.eraseIdx i}
def eU(n:NetD)(x:ByteArray):NetD×Int:=if(fS n x).2.2=0 then(if(fS n x).1=aDt then(zB,1)else(eT n (fS n x).1 (fS n x).2.1.toNat,0))else(zB,(fS n x).2.2)
theorem aGe{n:NetD}(h:aW n=0)(k:ByteArray)(i:Nat):aW (eT n k i)=0:=by
 have r:∀{α:Type} (l:List α),l.Sublist l:=fun l=>List.Sublist.refl l;rw[eT];split
 ·exact lN h rfl (List.eraseIdx_sublist ..) (r _) (r _) (r _) (r _)
 ·split
  ·exact lN h rfl (r _) (List.eraseIdx_sublist ..) (r _) (r _) (r _)
  ·split
   ·exact lN h rfl (r _) (r _) (List.eraseIdx_sublist ..) (r _) (r _)
   ·split
    ·exact lN h rfl (r _) (r _) (r _) (List.eraseIdx_sublist ..) (r _)
    ·exact lN h rfl (r _) (r _) (r _) (r _) (List.eraseIdx_sublist ..)
theorem aDu{n:NetD}{x:ByteArray}(h:0≤(cU n x).2): ((cU n x).1=aDt∧(cU n x).2<n.nodes.length)∨((cU n x).1=swB∧(cU n x).2<n.switches.length)∨((cU n x).1=iD∧(cU n x).2<n.branches.length)∨((cU n x).1=aGd∧(cU n x).2<n.gens.length)∨((cU n x).1=wL∧(cU n x).2<n.loads.length)∨((cU n x).1=⟨#[115,116,111,114,101]⟩∧(cU n x).2<n.stores.length):=by
 rw[cU,nQ]at h⊢;have g0:=yB n.nodes x;have g1:=gS SwitchD.name x n.switches 0;have g2:=gS BranchD.name x n.branches 0;have g3:=gS GenD.name x n.gens 0;have g4:=gS LoadD.name x n.loads 0;have g5:=gS StoreD.name x n.stores 0;generalize aL BranchD.name x n.branches 0=r2 at*;generalize aL GenD.name x n.gens 0=r3 at*;generalize aL LoadD.name x n.loads 0=r4 at*;generalize aL StoreD.name x n.stores 0=r5 at*;generalize aL SwitchD.name x n.switches 0=r1 at*;generalize Lib.idxOfS n.nodes x=r0 at*;by_cases h0:0≤r0
 ·rw[if_pos h0];exact .inl ⟨rfl,by simp only;omega⟩
 rw[if_neg h0]at h⊢;by_cases h1:0≤r1
 ·rw[if_pos h1];exact .inr (.inl ⟨rfl,by simp only;omega⟩)
 rw[if_neg h1]at h⊢;by_cases h2:0≤r2
 ·rw[if_pos h2];exact .inr (.inr (.inl ⟨rfl,by simp only;omega⟩))
 rw[if_neg h2]at h⊢;by_cases h3:0≤r3
 ·rw[if_pos h3];exact .inr (.inr (.inr (.inl ⟨rfl,by simp only;omega⟩)))
 rw[if_neg h3]at h⊢;by_cases h4:0≤r4
 ·rw[if_pos h4];exact .inr (.inr (.inr (.inr (.inl ⟨rfl,by simp only;omega⟩))))
 rw[if_neg h4]at h⊢;by_cases h5:0≤r5
 ·rw[if_pos h5];exact .inr (.inr (.inr (.inr (.inr ⟨rfl,by simp only;omega⟩))))
 rw[if_neg h5]at h;simp only at h;omega
end
section
open Go.RowKit
def aWz(w:World)(r:NetD×Int)(e:Ending)(w':World):Prop:=∃v:NetV,e= .returned (.tuple #[v.val r.1,I r.2])∧NetIn w' r.1 v∧Below w.heap.size w w'
theorem fQ{w:World}{base:Nat}{e:TypeId}{sz n c:Nat}{A:Option Addr}{xs:List Value}(hl:xs.length=n*sz)(h:0<n→Row w base e sz (.slice A n c) n xs):Reads w w.heap.size sz A n xs:=⟨hl,fun hn=>(h hn).reads.2 hn⟩
theorem NetRows.netIn{w:World}{base:Nat}{n:NetD}{v:NetV}(h:NetRows w base n v):NetIn w n v:=⟨fQ (by simp) h.r0,fQ (eH (f:=SwitchD.cells) (sz:=5) (fun _=>rfl) _) h.r1,fQ (eH (f:=BranchD.cells) (sz:=9) (fun _=>rfl) _) h.r2,fQ (eH (f:=GenD.cells) (sz:=5) (fun _=>rfl) _) h.r3,fQ (eH (f:=LoadD.cells) (sz:=3) (fun _=>rfl) _) h.r4,fQ (eH (f:=StoreD.cells) (sz:=5) (fun _=>rfl) _) h.r5⟩
theorem NetRows.keep{w w':World}{base:Nat}{n:NetD}{v:NetV}(h:NetRows w base n v)(hk:∀g,base≤g→g<w.heap.size→w'.heap[g]?=w.heap[g]?):NetRows w' base n v:=⟨fun q=>(h.r0 q).keep hk,fun q=>(h.r1 q).keep hk,fun q=>(h.r2 q).keep hk,fun q=>(h.r3 q).keep hk,fun q=>(h.r4 q).keep hk,fun q=>(h.r5 q).keep hk⟩
theorem Row.setNet{w:World}{base b:Nat}{e t:TypeId}{sz n:Nat}{v:Value}{xs:List Value}{cs:Array Value}(h:Row w base e sz v n xs)(hB:Blk w b t cs)(hne:e≠t)(i:Nat)(u:Value):Row (w.setCell ⟨b,i,none⟩ u) base e sz v n xs:=h.set_away (h.ne_blk hB hne) u
theorem NetRows.setNet{w:World}{base b:Nat}{n:NetD}{v:NetV}{cs:Array Value}(h:NetRows w base n v)(hB:Blk w b 29 cs)(i:Nat)(u:Value):NetRows (w.setCell ⟨b,i,none⟩ u) base n v:=⟨fun q=>(h.r0 q).setNet hB (by decide) i u,fun q=>(h.r1 q).setNet hB (by decide) i u,fun q=>(h.r2 q).setNet hB (by decide) i u,fun q=>(h.r3 q).setNet hB (by decide) i u,fun q=>(h.r4 q).setNet hB (by decide) i u,fun q=>(h.r5 q).setNet hB (by decide) i u⟩
theorem Row.other{w w':World}{base base':Nat}{e e':TypeId}{sz sz' n n' c':Nat}{A:Option Addr}{v:Value}{xs xs':List Value}(h:Row w base e sz v n xs)(h':Row w base' e' sz' (.slice A n' c') n' xs')(hn':0<n')(hne:e≠e')(hk:∀b,(∀o,A≠some ⟨b,o,none⟩)→w'.heap[b]?=w.heap[b]?):Row w' base e sz v n xs:=by
 obtain⟨g',off',cap',cur',hv',_,hh',_⟩:=h'.form hn';injection hv' with hA;obtain⟨h1,h2⟩:=h;refine⟨h1,h2.imp id ?_⟩;rintro⟨g,off,cap,cur,rfl,hb,hh,r⟩;refine⟨g,off,cap,cur,rfl,hb,?_,r⟩;unfold Blk at hh hh'⊢;rw[hk g ?_]
 ·exact hh
 ·intro o ho;rw[hA]at ho;injection ho with ho;injection ho with ho;subst ho;rw[hh]at hh';injection hh' with hh';injection hh' with _ hh';exact hne hh'
theorem Row.blk_lt{w:World}{base:Nat}{e:TypeId}{sz n c:Nat}{A:Option Addr}{xs:List Value}(h:Row w base e sz (.slice A n c) n xs)(hn:0<n){b:Nat}(hb:w.heap.size≤b):∀o,A≠some ⟨b,o,none⟩:=by
 obtain⟨g,off,cap,cur,hv,_,hh,_⟩:=h.form hn;injection hv with hA;intro o ho;rw[hA]at ho;injection ho with ho;injection ho with ho;have:=hh.lt;omega
def aBb:ByteArray:=⟨#[115,116,111,114,101]⟩
theorem pF(n:NetD)(x s:ByteArray)(k:Nat)(h:fS n x=(s,(k:Int),0))(hs:s≠aDt):eU n x=(eT n s k,0):=by
 rw[eU,h];simp only[if_true,if_neg hs,Int.toNat_natCast]
theorem aTe{w w':World}{base:Nat}{n:NetD}{v:NetV}(h:NetRows w base n v){k:Nat}(hk1:k<n.switches.length) (hd:Row w' base 134 5 (.slice v.sa (n.switches.length-1) v.sc) (n.switches.length-1) ((aE SwitchD.cells n.switches).take (k*5)++(aE SwitchD.cells n.switches).drop ((k+1)*5)))
  (hk:∀b,(∀o,v.sa≠some ⟨b,o,none⟩)→w'.heap[b]?=w.heap[b]?):NetRows w' base (eT n swB k) v:=by
 have hp:0<n.switches.length:=by omega
 rw[gH (f:=SwitchD.cells) (sz:=5) (fun _=>rfl),←List.length_eraseIdx_of_lt hk1]at hd;rw[show eT n swB k={n with switches:=n.switches.eraseIdx k}from rfl];exact⟨fun q=>(h.r0 q).other (h.r1 hp) hp (by decide) hk,fun _=>hd,fun q=>(h.r2 q).other (h.r1 hp) hp (by decide) hk,fun q=>(h.r3 q).other (h.r1 hp) hp (by decide) hk,fun q=>(h.r4 q).other (h.r1 hp) hp (by decide) hk,fun q=>(h.r5 q).other (h.r1 hp) hp (by decide) hk⟩
theorem aIi{w w':World}{base:Nat}{n:NetD}{v:NetV}(h:NetRows w base n v){k:Nat}(hk1:k<n.branches.length) (hd:Row w' base 41 9 (.slice v.ba (n.branches.length-1) v.bc) (n.branches.length-1) ((aE BranchD.cells n.branches).take (k*9)++(aE BranchD.cells n.branches).drop ((k+1)*9)))
  (hk:∀b,(∀o,v.ba≠some ⟨b,o,none⟩)→w'.heap[b]?=w.heap[b]?):NetRows w' base (eT n iD k) v:=by
 have hp:0<n.branches.length:=by omega
 rw[gH (f:=BranchD.cells) (sz:=9) (fun _=>rfl),←List.length_eraseIdx_of_lt hk1]at hd;rw[show eT n iD k={n with branches:=n.branches.eraseIdx k}from rfl];exact⟨fun q=>(h.r0 q).other (h.r2 hp) hp (by decide) hk,fun q=>(h.r1 q).other (h.r2 hp) hp (by decide) hk,fun _=>hd,fun q=>(h.r3 q).other (h.r2 hp) hp (by decide) hk,fun q=>(h.r4 q).other (h.r2 hp) hp (by decide) hk,fun q=>(h.r5 q).other (h.r2 hp) hp (by decide) hk⟩
theorem aTf{w w':World}{base:Nat}{n:NetD}{v:NetV}(h:NetRows w base n v){k:Nat}(hk1:k<n.gens.length) (hd:Row w' base 138 5 (.slice v.ga (n.gens.length-1) v.gc) (n.gens.length-1) ((aE GenD.cells n.gens).take (k*5)++(aE GenD.cells n.gens).drop ((k+1)*5)))
  (hk:∀b,(∀o,v.ga≠some ⟨b,o,none⟩)→w'.heap[b]?=w.heap[b]?):NetRows w' base (eT n aGd k) v:=by
 have hp:0<n.gens.length:=by omega
 rw[gH (f:=GenD.cells) (sz:=5) (fun _=>rfl),←List.length_eraseIdx_of_lt hk1]at hd;rw[show eT n aGd k={n with gens:=n.gens.eraseIdx k}from rfl];exact⟨fun q=>(h.r0 q).other (h.r3 hp) hp (by decide) hk,fun q=>(h.r1 q).other (h.r3 hp) hp (by decide) hk,fun q=>(h.r2 q).other (h.r3 hp) hp (by decide) hk,fun _=>hd,fun q=>(h.r4 q).other (h.r3 hp) hp (by decide) hk,fun q=>(h.r5 q).other (h.r3 hp) hp (by decide) hk⟩
theorem aTg{w w':World}{base:Nat}{n:NetD}{v:NetV}(h:NetRows w base n v){k:Nat}(hk1:k<n.loads.length) (hd:Row w' base 141 3 (.slice v.la (n.loads.length-1) v.lc) (n.loads.length-1) ((aE LoadD.cells n.loads).take (k*3)++(aE LoadD.cells n.loads).drop ((k+1)*3)))
  (hk:∀b,(∀o,v.la≠some ⟨b,o,none⟩)→w'.heap[b]?=w.heap[b]?):NetRows w' base (eT n wL k) v:=by
 have hp:0<n.loads.length:=by omega
 rw[gH (f:=LoadD.cells) (sz:=3) (fun _=>rfl),←List.length_eraseIdx_of_lt hk1]at hd;rw[show eT n wL k={n with loads:=n.loads.eraseIdx k}from rfl];exact⟨fun q=>(h.r0 q).other (h.r4 hp) hp (by decide) hk,fun q=>(h.r1 q).other (h.r4 hp) hp (by decide) hk,fun q=>(h.r2 q).other (h.r4 hp) hp (by decide) hk,fun q=>(h.r3 q).other (h.r4 hp) hp (by decide) hk,fun _=>hd,fun q=>(h.r5 q).other (h.r4 hp) hp (by decide) hk⟩
theorem aTh{w w':World}{base:Nat}{n:NetD}{v:NetV}(h:NetRows w base n v){k:Nat}(hk1:k<n.stores.length) (hd:Row w' base 144 5 (.slice v.ta (n.stores.length-1) v.tc) (n.stores.length-1) ((aE StoreD.cells n.stores).take (k*5)++(aE StoreD.cells n.stores).drop ((k+1)*5)))
  (hk:∀b,(∀o,v.ta≠some ⟨b,o,none⟩)→w'.heap[b]?=w.heap[b]?):NetRows w' base (eT n aBb k) v:=by
 have hp:0<n.stores.length:=by omega
 rw[gH (f:=StoreD.cells) (sz:=5) (fun _=>rfl),←List.length_eraseIdx_of_lt hk1]at hd;rw[show eT n aBb k={n with stores:=n.stores.eraseIdx k}from rfl];exact⟨fun q=>(h.r0 q).other (h.r5 hp) hp (by decide) hk,fun q=>(h.r1 q).other (h.r5 hp) hp (by decide) hk,fun q=>(h.r2 q).other (h.r5 hp) hp (by decide) hk,fun q=>(h.r3 q).other (h.r5 hp) hp (by decide) hk,fun q=>(h.r4 q).other (h.r5 hp) hp (by decide) hk,fun _=>hd⟩
theorem tJ(n:NetD)(v:NetV)(x:ByteArray)(w:World)(hN:Net w n v):Calls Tryz.prog 30 #[v.val n,.string x] w (aWz w (eU n x)):=by
 have hb0:=gY w (Obj.cells (v.parts n) 29) (Obj.cells nE 29);have HFI:=aH (aPv n v x _ (hN.below hb0));have HB0:=aH hb0;have HN:=aH hN;have HBX:=aH ((Blk.new w 29 (v.parts n)).alloc (Obj.cells nE 29));have HRX:Hid (Blk ((w.alloc (Obj.cells (v.parts n) 29)).alloc (Obj.cells nE 29)) (w.heap.size+1) 29 nE):=by
  have:=Blk.new (w.alloc (Obj.cells (v.parts n) 29)) 29 nE;rw[World.size_alloc w]at this;exact this
 have HD:=aH (show eU n x=if(fS n x).2.2=0 then(if(fS n x).1=aDt then(zB,1)else(eT n (fS n x).1 (fS n x).2.1.toNat,0))else(zB,(fS n x).2.2)from rfl);have HOK:=aH (@aPw n x);have HRG:=aH (@aDu n x);have HDR:=aH (pF n x);clear hb0 hN;unfold NetV.val NetV.parts at*;obtain⟨r,hr⟩:∃r,fS n x=r:=⟨_,rfl⟩;rw[hr]at HFI HD HOK HDR;clear hr;obtain⟨s,i,er⟩:=r;simp only at HFI HD HOK;go_enter Tryz.func30,Tryz.ntmps30;go_wp2_with fail;refine HFI.out.mono ?_;rintro e w1 ⟨rfl,hb1⟩;have hz1:w.heap.size+1+1≤w1.heap.size:=by have:=hb1.size;simpa using this
 have HBX1:=aH (HBX.out.below hb1 (by simp;omega));have HRX1:=aH (HRX.out.below hb1 (by simp));have HB1:=aH (HB0.out.trans (hb1.mono HB0.out.size));clear hb1 HFI HBX HRX HB0;have f0:=HRX1.out.frozen 0;have f1:=HRX1.out.frozen 1;have f2:=HRX1.out.frozen 2;have f3:=HRX1.out.frozen 3;have f4:=HRX1.out.frozen 4;have f5:=HRX1.out.frozen 5;have y0:=HRX1.out.cell 0;have y1:=HRX1.out.cell 1;have y2:=HRX1.out.cell 2;have y3:=HRX1.out.cell 3;have y4:=HRX1.out.cell 4;have y5:=HRX1.out.cell 5;by_cases h0:er=0
 ·subst h0;obtain⟨hck,hi0,hfe⟩:=HOK.out rfl;have hrg:=HRG.out hi0;injection hfe with hs1 hs2;injection hs2 with hs2;rw[←hs1,←hs2]at hrg;rw[←hs2]at hi0;clear hs1 hs2 HRG HOK;obtain⟨k,rfl⟩:=Int.eq_ofNat_of_zero_le hi0;rcases hrg with⟨rfl,_⟩|hrg
  ·have HX:=aH (show eU n x=(zB,1) by rw[HD.out];simp);clear HD HDR hi0 hck;unfold aDt;go_wp2;have hB:=fY HRX1.out rfl (.slice none 0 0) (.slice none 0 0) (.slice none 0 0) (.slice none 0 0) (.slice none 0 0) (.slice none 0 0);rw[←fH];have HBE:=aH (HB1.out.trans (dX w1 (w.heap.size+1) w.heap.size (.slice none 0 0) (.slice none 0 0) (.slice none 0 0) (.slice none 0 0) (.slice none 0 0) (.slice none 0 0) (by omega)));generalize set6 w1 (w.heap.size+1) (.slice none 0 0) (.slice none 0 0) (.slice none 0 0) (.slice none 0 0) (.slice none 0 0) (.slice none 0 0)=W at*;have z0:=hB.cell 0;have z1:=hB.cell 1;have z2:=hB.cell 2;have z3:=hB.cell 3;have z4:=hB.cell 4;have z5:=hB.cell 5;refine bodyPost_ret (v:= .tuple #[.agg nE,I 1]) (by simp[results,go_sem,z0,z1,z2,z3,z4,z5]) rfl ?_;rw[HX.out];exact⟨⟨none,0,none,0,none,0,none,0,none,0,none,0⟩,rfl,⟨Reads.nil,Reads.nil,Reads.nil,Reads.nil,Reads.nil,Reads.nil⟩,HBE.out⟩
  have HCP:=aH (aCy n v w1 (HN.out.below HB1.out).net (wK hck).byt);have HLE:=aH (wK hck);have x0:=HBX1.out.cell 0;have x1:=HBX1.out.cell 1;have x2:=HBX1.out.cell 2;have x3:=HBX1.out.cell 3;have x4:=HBX1.out.cell 4;have x5:=HBX1.out.cell 5;clear HD hck hi0;unfold NetV.val NetV.parts at*;rcases hrg with⟨rfl,hkn⟩|hrg
  ·have hk:k<n.switches.length:=by omega
   have HX:=aH (show eU n x=(eT n swB k,0)from HDR.out _ _ rfl (by decide));clear HDR;unfold swB;go_wp2_with fail;refine HCP.out.mono ?_;rintro e w2 ⟨v2,rfl,hin,hrows,hb2⟩;have hz2:=hb2.size;have HRX2:=aH (HRX1.out.below hb2 HRX1.out.lt);have HB2:=aH (HB1.out.trans (hb2.mono HB1.out.size));unfold NetV.val NetV.parts;clear hin hb2 HCP x0 x1 x2 x3 x4 x5 y0 y1 y2 y3 y4 y5 f0 f1 f2 f3 f4 f5;have ha:Below w2.heap.size w2 (w2.alloc (Obj.cells #[Value.slice v2.na n.nodes.length v2.nc,Value.slice v2.sa n.switches.length v2.sc,Value.slice v2.ba n.branches.length v2.bc,Value.slice v2.ga n.gens.length v2.gc,Value.slice v2.la n.loads.length v2.lc,Value.slice v2.ta n.stores.length v2.tc] 29)):=(Below.refl _ w2).alloc lR _;have hrows2:=hrows.keep (w':=w2.alloc (Obj.cells #[Value.slice v2.na n.nodes.length v2.nc,Value.slice v2.sa n.switches.length v2.sc,Value.slice v2.ba n.branches.length v2.bc,Value.slice v2.ga n.gens.length v2.gc,Value.slice v2.la n.loads.length v2.lc,Value.slice v2.ta n.stores.length v2.tc] 29)) (fun g _ hg=>ha.block g hg);have HP0:=aH (hrows.r1 (by omega));have HDE:=aH (xI v2.sa n.switches.length v2.sc k _ _ w1.heap.size (hrows2.r1 (by omega)) (yJ _) hk HLE.out.l2 (by simp;omega));have HROWS:=aH hrows2;have HBOX:=aH (Blk.new w2 29 #[Value.slice v2.na n.nodes.length v2.nc,Value.slice v2.sa n.switches.length v2.sc,Value.slice v2.ba n.branches.length v2.bc,Value.slice v2.ga n.gens.length v2.gc,Value.slice v2.la n.loads.length v2.lc,Value.slice v2.ta n.stores.length v2.tc]);have HRX2a:=aH (HRX2.out.below ha (by have:=HRX2.out.lt;omega));have HB2a:=aH (HB2.out.trans (ha.mono (by have:=HB2.out.size;omega)));have hk9:(k:Int)+1≤1000000:=by have:=HLE.out.l2;omega
   clear hrows hrows2 ha;go_wp2_with fail;refine HDE.out.mono ?_;rintro e w3 ⟨rfl,hd,hb3,hk3,hz3⟩;have HBOX3:Hid (Blk w3 w2.heap.size 29 #[Value.slice v2.na n.nodes.length v2.nc,Value.slice v2.sa n.switches.length v2.sc,Value.slice v2.ba n.branches.length v2.bc,Value.slice v2.ga n.gens.length v2.gc,Value.slice v2.la n.loads.length v2.lc,Value.slice v2.ta n.stores.length v2.tc]):=aH ((hk3 _ (HP0.out.blk_lt (by omega) lR)).trans HBOX.out);have HRX3:=aH (HRX2a.out.below (hb3.mono (by omega)) (by omega));have HB3:=aH (HB2a.out.trans (hb3.mono (by omega)));have HROWS3:=aH (aTe HROWS.out hk hd hk3);have hs3:w2.heap.size+1=w3.heap.size:=by rw[hz3];simp
   clear hd hb3 hk3 hz3 HBOX HRX2 HRX2a HB2 HB2a HROWS HDE;have g1:w2.heap.size<w3.heap.size:=by omega
   have g3:¬w2.heap.size=w.heap.size+1:=by omega
   have g4:w.heap.size+1<w3.heap.size:=by omega
   have g6:¬w.heap.size+1=w2.heap.size:=by omega
   have b0:=HBOX3.out.cell 0;have b1:=HBOX3.out.cell 1;have b2:=HBOX3.out.cell 2;have b3:=HBOX3.out.cell 3;have b4:=HBOX3.out.cell 4;have b5:=HBOX3.out.cell 5;have fb:=HBOX3.out.frozen 1;have f0:=HRX3.out.frozen 0;have f1:=HRX3.out.frozen 1;have f2:=HRX3.out.frozen 2;have f3:=HRX3.out.frozen 3;have f4:=HRX3.out.frozen 4;have f5:=HRX3.out.frozen 5;have y0:=HRX3.out.cell 0;have y1:=HRX3.out.cell 1;have y2:=HRX3.out.cell 2;have y3:=HRX3.out.cell 3;have y4:=HRX3.out.cell 4;have y5:=HRX3.out.cell 5;go_wp2;rw[←fH];have hR4:=HRX3.out.far (p:=⟨w2.heap.size,1,none⟩) g6 (Value.slice v2.sa (n.switches.length-1) v2.sc);have hB4:=fY hR4 rfl (Value.slice v2.na n.nodes.length v2.nc) (Value.slice v2.sa (n.switches.length-1) v2.sc) (Value.slice v2.ba n.branches.length v2.bc) (Value.slice v2.ga n.gens.length v2.gc) (Value.slice v2.la n.loads.length v2.lc) (Value.slice v2.ta n.stores.length v2.tc);have hrw:=(HROWS3.out.setNet HBOX3.out 1 (Value.slice v2.sa (n.switches.length-1) v2.sc)).keep (w':=set6 (w3.setCell ⟨w2.heap.size,1,none⟩ (Value.slice v2.sa (n.switches.length-1) v2.sc)) (w.heap.size+1) (Value.slice v2.na n.nodes.length v2.nc) (Value.slice v2.sa (n.switches.length-1) v2.sc) (Value.slice v2.ba n.branches.length v2.bc) (Value.slice v2.ga n.gens.length v2.gc) (Value.slice v2.la n.loads.length v2.lc) (Value.slice v2.ta n.stores.length v2.tc)) (fun g hg _=>gO _ _ _ _ _ _ _ _ g (by omega));have hbe:=(HB3.out.setCell (p:=⟨w2.heap.size,1,none⟩) (by simp;omega) (Value.slice v2.sa (n.switches.length-1) v2.sc)).trans (dX _ (w.heap.size+1) w.heap.size (Value.slice v2.na n.nodes.length v2.nc) (Value.slice v2.sa (n.switches.length-1) v2.sc) (Value.slice v2.ba n.branches.length v2.bc) (Value.slice v2.ga n.gens.length v2.gc) (Value.slice v2.la n.loads.length v2.lc) (Value.slice v2.ta n.stores.length v2.tc) (by omega));generalize set6 (w3.setCell ⟨w2.heap.size,1,none⟩ (Value.slice v2.sa (n.switches.length-1) v2.sc)) (w.heap.size+1) (Value.slice v2.na n.nodes.length v2.nc) (Value.slice v2.sa (n.switches.length-1) v2.sc) (Value.slice v2.ba n.branches.length v2.bc) (Value.slice v2.ga n.gens.length v2.gc) (Value.slice v2.la n.loads.length v2.lc) (Value.slice v2.ta n.stores.length v2.tc)=W at*;have z0:=hB4.cell 0;have z1:=hB4.cell 1;have z2:=hB4.cell 2;have z3:=hB4.cell 3;have z4:=hB4.cell 4;have z5:=hB4.cell 5;refine bodyPost_ret (v:= .tuple #[.agg #[Value.slice v2.na n.nodes.length v2.nc,Value.slice v2.sa (n.switches.length-1) v2.sc,Value.slice v2.ba n.branches.length v2.bc,Value.slice v2.ga n.gens.length v2.gc,Value.slice v2.la n.loads.length v2.lc,Value.slice v2.ta n.stores.length v2.tc],I 0]) (by simp[results,go_sem,z0,z1,z2,z3,z4,z5]) rfl ?_;rw[HX.out];refine⟨v2,?_,hrw.netIn,hbe⟩;rw[show eT n swB k={n with switches:=n.switches.eraseIdx k}from rfl];unfold NetV.val NetV.parts;simp only[List.length_eraseIdx_of_lt hk]
  rcases hrg with⟨rfl,hkn⟩|hrg
  ·have hk:k<n.branches.length:=by omega
   have HX:=aH (show eU n x=(eT n iD k,0)from HDR.out _ _ rfl (by decide));clear HDR;unfold iD;go_wp2_with fail;refine HCP.out.mono ?_;rintro e w2 ⟨v2,rfl,hin,hrows,hb2⟩;have hz2:=hb2.size;have HRX2:=aH (HRX1.out.below hb2 HRX1.out.lt);have HB2:=aH (HB1.out.trans (hb2.mono HB1.out.size));unfold NetV.val NetV.parts;clear hin hb2 HCP x0 x1 x2 x3 x4 x5 y0 y1 y2 y3 y4 y5 f0 f1 f2 f3 f4 f5;have ha:Below w2.heap.size w2 (w2.alloc (Obj.cells #[Value.slice v2.na n.nodes.length v2.nc,Value.slice v2.sa n.switches.length v2.sc,Value.slice v2.ba n.branches.length v2.bc,Value.slice v2.ga n.gens.length v2.gc,Value.slice v2.la n.loads.length v2.lc,Value.slice v2.ta n.stores.length v2.tc] 29)):=(Below.refl _ w2).alloc lR _;have hrows2:=hrows.keep (w':=w2.alloc (Obj.cells #[Value.slice v2.na n.nodes.length v2.nc,Value.slice v2.sa n.switches.length v2.sc,Value.slice v2.ba n.branches.length v2.bc,Value.slice v2.ga n.gens.length v2.gc,Value.slice v2.la n.loads.length v2.lc,Value.slice v2.ta n.stores.length v2.tc] 29)) (fun g _ hg=>ha.block g hg);have HP0:=aH (hrows.r2 (by omega));have HDE:=aH (pE v2.ba n.branches.length v2.bc k _ _ w1.heap.size (hrows2.r2 (by omega)) (sM _) hk HLE.out.l3 (by simp;omega));have HROWS:=aH hrows2;have HBOX:=aH (Blk.new w2 29 #[Value.slice v2.na n.nodes.length v2.nc,Value.slice v2.sa n.switches.length v2.sc,Value.slice v2.ba n.branches.length v2.bc,Value.slice v2.ga n.gens.length v2.gc,Value.slice v2.la n.loads.length v2.lc,Value.slice v2.ta n.stores.length v2.tc]);have HRX2a:=aH (HRX2.out.below ha (by have:=HRX2.out.lt;omega));have HB2a:=aH (HB2.out.trans (ha.mono (by have:=HB2.out.size;omega)));have hk9:(k:Int)+1≤1000000:=by have:=HLE.out.l3;omega
   clear hrows hrows2 ha;go_wp2_with fail;refine HDE.out.mono ?_;rintro e w3 ⟨rfl,hd,hb3,hk3,hz3⟩;have HBOX3:Hid (Blk w3 w2.heap.size 29 #[Value.slice v2.na n.nodes.length v2.nc,Value.slice v2.sa n.switches.length v2.sc,Value.slice v2.ba n.branches.length v2.bc,Value.slice v2.ga n.gens.length v2.gc,Value.slice v2.la n.loads.length v2.lc,Value.slice v2.ta n.stores.length v2.tc]):=aH ((hk3 _ (HP0.out.blk_lt (by omega) lR)).trans HBOX.out);have HRX3:=aH (HRX2a.out.below (hb3.mono (by omega)) (by omega));have HB3:=aH (HB2a.out.trans (hb3.mono (by omega)));have HROWS3:=aH (aIi HROWS.out hk hd hk3);have hs3:w2.heap.size+1=w3.heap.size:=by rw[hz3];simp
   clear hd hb3 hk3 hz3 HBOX HRX2 HRX2a HB2 HB2a HROWS HDE;have g1:w2.heap.size<w3.heap.size:=by omega
   have g3:¬w2.heap.size=w.heap.size+1:=by omega
   have g4:w.heap.size+1<w3.heap.size:=by omega
   have g6:¬w.heap.size+1=w2.heap.size:=by omega
   have b0:=HBOX3.out.cell 0;have b1:=HBOX3.out.cell 1;have b2:=HBOX3.out.cell 2;have b3:=HBOX3.out.cell 3;have b4:=HBOX3.out.cell 4;have b5:=HBOX3.out.cell 5;have fb:=HBOX3.out.frozen 2;have f0:=HRX3.out.frozen 0;have f1:=HRX3.out.frozen 1;have f2:=HRX3.out.frozen 2;have f3:=HRX3.out.frozen 3;have f4:=HRX3.out.frozen 4;have f5:=HRX3.out.frozen 5;have y0:=HRX3.out.cell 0;have y1:=HRX3.out.cell 1;have y2:=HRX3.out.cell 2;have y3:=HRX3.out.cell 3;have y4:=HRX3.out.cell 4;have y5:=HRX3.out.cell 5;go_wp2;rw[←fH];have hR4:=HRX3.out.far (p:=⟨w2.heap.size,2,none⟩) g6 (Value.slice v2.ba (n.branches.length-1) v2.bc);have hB4:=fY hR4 rfl (Value.slice v2.na n.nodes.length v2.nc) (Value.slice v2.sa n.switches.length v2.sc) (Value.slice v2.ba (n.branches.length-1) v2.bc) (Value.slice v2.ga n.gens.length v2.gc) (Value.slice v2.la n.loads.length v2.lc) (Value.slice v2.ta n.stores.length v2.tc);have hrw:=(HROWS3.out.setNet HBOX3.out 2 (Value.slice v2.ba (n.branches.length-1) v2.bc)).keep (w':=set6 (w3.setCell ⟨w2.heap.size,2,none⟩ (Value.slice v2.ba (n.branches.length-1) v2.bc)) (w.heap.size+1) (Value.slice v2.na n.nodes.length v2.nc) (Value.slice v2.sa n.switches.length v2.sc) (Value.slice v2.ba (n.branches.length-1) v2.bc) (Value.slice v2.ga n.gens.length v2.gc) (Value.slice v2.la n.loads.length v2.lc) (Value.slice v2.ta n.stores.length v2.tc)) (fun g hg _=>gO _ _ _ _ _ _ _ _ g (by omega));have hbe:=(HB3.out.setCell (p:=⟨w2.heap.size,2,none⟩) (by simp;omega) (Value.slice v2.ba (n.branches.length-1) v2.bc)).trans (dX _ (w.heap.size+1) w.heap.size (Value.slice v2.na n.nodes.length v2.nc) (Value.slice v2.sa n.switches.length v2.sc) (Value.slice v2.ba (n.branches.length-1) v2.bc) (Value.slice v2.ga n.gens.length v2.gc) (Value.slice v2.la n.loads.length v2.lc) (Value.slice v2.ta n.stores.length v2.tc) (by omega));generalize set6 (w3.setCell ⟨w2.heap.size,2,none⟩ (Value.slice v2.ba (n.branches.length-1) v2.bc)) (w.heap.size+1) (Value.slice v2.na n.nodes.length v2.nc) (Value.slice v2.sa n.switches.length v2.sc) (Value.slice v2.ba (n.branches.length-1) v2.bc) (Value.slice v2.ga n.gens.length v2.gc) (Value.slice v2.la n.loads.length v2.lc) (Value.slice v2.ta n.stores.length v2.tc)=W at*;have z0:=hB4.cell 0;have z1:=hB4.cell 1;have z2:=hB4.cell 2;have z3:=hB4.cell 3;have z4:=hB4.cell 4;have z5:=hB4.cell 5;refine bodyPost_ret (v:= .tuple #[.agg #[Value.slice v2.na n.nodes.length v2.nc,Value.slice v2.sa n.switches.length v2.sc,Value.slice v2.ba (n.branches.length-1) v2.bc,Value.slice v2.ga n.gens.length v2.gc,Value.slice v2.la n.loads.length v2.lc,Value.slice v2.ta n.stores.length v2.tc],I 0]) (by simp[results,go_sem,z0,z1,z2,z3,z4,z5]) rfl ?_;rw[HX.out];refine⟨v2,?_,hrw.netIn,hbe⟩;rw[show eT n iD k={n with branches:=n.branches.eraseIdx k}from rfl];unfold NetV.val NetV.parts;simp only[List.length_eraseIdx_of_lt hk]
  rcases hrg with⟨rfl,hkn⟩|hrg
  ·have hk:k<n.gens.length:=by omega
   have HX:=aH (show eU n x=(eT n aGd k,0)from HDR.out _ _ rfl (by decide));clear HDR;unfold aGd;go_wp2_with fail;refine HCP.out.mono ?_;rintro e w2 ⟨v2,rfl,hin,hrows,hb2⟩;have hz2:=hb2.size;have HRX2:=aH (HRX1.out.below hb2 HRX1.out.lt);have HB2:=aH (HB1.out.trans (hb2.mono HB1.out.size));unfold NetV.val NetV.parts;clear hin hb2 HCP x0 x1 x2 x3 x4 x5 y0 y1 y2 y3 y4 y5 f0 f1 f2 f3 f4 f5;have ha:Below w2.heap.size w2 (w2.alloc (Obj.cells #[Value.slice v2.na n.nodes.length v2.nc,Value.slice v2.sa n.switches.length v2.sc,Value.slice v2.ba n.branches.length v2.bc,Value.slice v2.ga n.gens.length v2.gc,Value.slice v2.la n.loads.length v2.lc,Value.slice v2.ta n.stores.length v2.tc] 29)):=(Below.refl _ w2).alloc lR _;have hrows2:=hrows.keep (w':=w2.alloc (Obj.cells #[Value.slice v2.na n.nodes.length v2.nc,Value.slice v2.sa n.switches.length v2.sc,Value.slice v2.ba n.branches.length v2.bc,Value.slice v2.ga n.gens.length v2.gc,Value.slice v2.la n.loads.length v2.lc,Value.slice v2.ta n.stores.length v2.tc] 29)) (fun g _ hg=>ha.block g hg);have HP0:=aH (hrows.r3 (by omega));have HDE:=aH (aGb v2.ga n.gens.length v2.gc k _ _ w1.heap.size (hrows2.r3 (by omega)) (aNy _) hk HLE.out.l4 (by simp;omega));have HROWS:=aH hrows2;have HBOX:=aH (Blk.new w2 29 #[Value.slice v2.na n.nodes.length v2.nc,Value.slice v2.sa n.switches.length v2.sc,Value.slice v2.ba n.branches.length v2.bc,Value.slice v2.ga n.gens.length v2.gc,Value.slice v2.la n.loads.length v2.lc,Value.slice v2.ta n.stores.length v2.tc]);have HRX2a:=aH (HRX2.out.below ha (by have:=HRX2.out.lt;omega));have HB2a:=aH (HB2.out.trans (ha.mono (by have:=HB2.out.size;omega)));have hk9:(k:Int)+1≤1000000:=by have:=HLE.out.l4;omega
   clear hrows hrows2 ha;go_wp2_with fail;refine HDE.out.mono ?_;rintro e w3 ⟨rfl,hd,hb3,hk3,hz3⟩;have HBOX3:Hid (Blk w3 w2.heap.size 29 #[Value.slice v2.na n.nodes.length v2.nc,Value.slice v2.sa n.switches.length v2.sc,Value.slice v2.ba n.branches.length v2.bc,Value.slice v2.ga n.gens.length v2.gc,Value.slice v2.la n.loads.length v2.lc,Value.slice v2.ta n.stores.length v2.tc]):=aH ((hk3 _ (HP0.out.blk_lt (by omega) lR)).trans HBOX.out);have HRX3:=aH (HRX2a.out.below (hb3.mono (by omega)) (by omega));have HB3:=aH (HB2a.out.trans (hb3.mono (by omega)));have HROWS3:=aH (aTf HROWS.out hk hd hk3);have hs3:w2.heap.size+1=w3.heap.size:=by rw[hz3];simp
   clear hd hb3 hk3 hz3 HBOX HRX2 HRX2a HB2 HB2a HROWS HDE;have g1:w2.heap.size<w3.heap.size:=by omega
   have g3:¬w2.heap.size=w.heap.size+1:=by omega
   have g4:w.heap.size+1<w3.heap.size:=by omega
   have g6:¬w.heap.size+1=w2.heap.size:=by omega
   have b0:=HBOX3.out.cell 0;have b1:=HBOX3.out.cell 1;have b2:=HBOX3.out.cell 2;have b3:=HBOX3.out.cell 3;have b4:=HBOX3.out.cell 4;have b5:=HBOX3.out.cell 5;have fb:=HBOX3.out.frozen 3;have f0:=HRX3.out.frozen 0;have f1:=HRX3.out.frozen 1;have f2:=HRX3.out.frozen 2;have f3:=HRX3.out.frozen 3;have f4:=HRX3.out.frozen 4;have f5:=HRX3.out.frozen 5;have y0:=HRX3.out.cell 0;have y1:=HRX3.out.cell 1;have y2:=HRX3.out.cell 2;have y3:=HRX3.out.cell 3;have y4:=HRX3.out.cell 4;have y5:=HRX3.out.cell 5;go_wp2;rw[←fH];have hR4:=HRX3.out.far (p:=⟨w2.heap.size,3,none⟩) g6 (Value.slice v2.ga (n.gens.length-1) v2.gc);have hB4:=fY hR4 rfl (Value.slice v2.na n.nodes.length v2.nc) (Value.slice v2.sa n.switches.length v2.sc) (Value.slice v2.ba n.branches.length v2.bc) (Value.slice v2.ga (n.gens.length-1) v2.gc) (Value.slice v2.la n.loads.length v2.lc) (Value.slice v2.ta n.stores.length v2.tc);have hrw:=(HROWS3.out.setNet HBOX3.out 3 (Value.slice v2.ga (n.gens.length-1) v2.gc)).keep (w':=set6 (w3.setCell ⟨w2.heap.size,3,none⟩ (Value.slice v2.ga (n.gens.length-1) v2.gc)) (w.heap.size+1) (Value.slice v2.na n.nodes.length v2.nc) (Value.slice v2.sa n.switches.length v2.sc) (Value.slice v2.ba n.branches.length v2.bc) (Value.slice v2.ga (n.gens.length-1) v2.gc) (Value.slice v2.la n.loads.length v2.lc) (Value.slice v2.ta n.stores.length v2.tc)) (fun g hg _=>gO _ _ _ _ _ _ _ _ g (by omega));have hbe:=(HB3.out.setCell (p:=⟨w2.heap.size,3,none⟩) (by simp;omega) (Value.slice v2.ga (n.gens.length-1) v2.gc)).trans (dX _ (w.heap.size+1) w.heap.size (Value.slice v2.na n.nodes.length v2.nc) (Value.slice v2.sa n.switches.length v2.sc) (Value.slice v2.ba n.branches.length v2.bc) (Value.slice v2.ga (n.gens.length-1) v2.gc) (Value.slice v2.la n.loads.length v2.lc) (Value.slice v2.ta n.stores.length v2.tc) (by omega));generalize set6 (w3.setCell ⟨w2.heap.size,3,none⟩ (Value.slice v2.ga (n.gens.length-1) v2.gc)) (w.heap.size+1) (Value.slice v2.na n.nodes.length v2.nc) (Value.slice v2.sa n.switches.length v2.sc) (Value.slice v2.ba n.branches.length v2.bc) (Value.slice v2.ga (n.gens.length-1) v2.gc) (Value.slice v2.la n.loads.length v2.lc) (Value.slice v2.ta n.stores.length v2.tc)=W at*;have z0:=hB4.cell 0;have z1:=hB4.cell 1;have z2:=hB4.cell 2;have z3:=hB4.cell 3;have z4:=hB4.cell 4;have z5:=hB4.cell 5;refine bodyPost_ret (v:= .tuple #[.agg #[Value.slice v2.na n.nodes.length v2.nc,Value.slice v2.sa n.switches.length v2.sc,Value.slice v2.ba n.branches.length v2.bc,Value.slice v2.ga (n.gens.length-1) v2.gc,Value.slice v2.la n.loads.length v2.lc,Value.slice v2.ta n.stores.length v2.tc],I 0]) (by simp[results,go_sem,z0,z1,z2,z3,z4,z5]) rfl ?_;rw[HX.out];refine⟨v2,?_,hrw.netIn,hbe⟩;rw[show eT n aGd k={n with gens:=n.gens.eraseIdx k}from rfl];unfold NetV.val NetV.parts;simp only[List.length_eraseIdx_of_lt hk]
  rcases hrg with⟨rfl,hkn⟩|hrg
  ·have hk:k<n.loads.length:=by omega
   have HX:=aH (show eU n x=(eT n wL k,0)from HDR.out _ _ rfl (by decide));clear HDR;unfold wL;go_wp2_with fail;refine HCP.out.mono ?_;rintro e w2 ⟨v2,rfl,hin,hrows,hb2⟩;have hz2:=hb2.size;have HRX2:=aH (HRX1.out.below hb2 HRX1.out.lt);have HB2:=aH (HB1.out.trans (hb2.mono HB1.out.size));unfold NetV.val NetV.parts;clear hin hb2 HCP x0 x1 x2 x3 x4 x5 y0 y1 y2 y3 y4 y5 f0 f1 f2 f3 f4 f5;have ha:Below w2.heap.size w2 (w2.alloc (Obj.cells #[Value.slice v2.na n.nodes.length v2.nc,Value.slice v2.sa n.switches.length v2.sc,Value.slice v2.ba n.branches.length v2.bc,Value.slice v2.ga n.gens.length v2.gc,Value.slice v2.la n.loads.length v2.lc,Value.slice v2.ta n.stores.length v2.tc] 29)):=(Below.refl _ w2).alloc lR _;have hrows2:=hrows.keep (w':=w2.alloc (Obj.cells #[Value.slice v2.na n.nodes.length v2.nc,Value.slice v2.sa n.switches.length v2.sc,Value.slice v2.ba n.branches.length v2.bc,Value.slice v2.ga n.gens.length v2.gc,Value.slice v2.la n.loads.length v2.lc,Value.slice v2.ta n.stores.length v2.tc] 29)) (fun g _ hg=>ha.block g hg);have HP0:=aH (hrows.r4 (by omega));have HDE:=aH (aDs v2.la n.loads.length v2.lc k _ _ w1.heap.size (hrows2.r4 (by omega)) (aHr _) hk HLE.out.l5 (by simp;omega));have HROWS:=aH hrows2;have HBOX:=aH (Blk.new w2 29 #[Value.slice v2.na n.nodes.length v2.nc,Value.slice v2.sa n.switches.length v2.sc,Value.slice v2.ba n.branches.length v2.bc,Value.slice v2.ga n.gens.length v2.gc,Value.slice v2.la n.loads.length v2.lc,Value.slice v2.ta n.stores.length v2.tc]);have HRX2a:=aH (HRX2.out.below ha (by have:=HRX2.out.lt;omega));have HB2a:=aH (HB2.out.trans (ha.mono (by have:=HB2.out.size;omega)));have hk9:(k:Int)+1≤1000000:=by have:=HLE.out.l5;omega
   clear hrows hrows2 ha;go_wp2_with fail;refine HDE.out.mono ?_;rintro e w3 ⟨rfl,hd,hb3,hk3,hz3⟩;have HBOX3:Hid (Blk w3 w2.heap.size 29 #[Value.slice v2.na n.nodes.length v2.nc,Value.slice v2.sa n.switches.length v2.sc,Value.slice v2.ba n.branches.length v2.bc,Value.slice v2.ga n.gens.length v2.gc,Value.slice v2.la n.loads.length v2.lc,Value.slice v2.ta n.stores.length v2.tc]):=aH ((hk3 _ (HP0.out.blk_lt (by omega) lR)).trans HBOX.out);have HRX3:=aH (HRX2a.out.below (hb3.mono (by omega)) (by omega));have HB3:=aH (HB2a.out.trans (hb3.mono (by omega)));have HROWS3:=aH (aTg HROWS.out hk hd hk3);have hs3:w2.heap.size+1=w3.heap.size:=by rw[hz3];simp
   clear hd hb3 hk3 hz3 HBOX HRX2 HRX2a HB2 HB2a HROWS HDE;have g1:w2.heap.size<w3.heap.size:=by omega
   have g3:¬w2.heap.size=w.heap.size+1:=by omega
   have g4:w.heap.size+1<w3.heap.size:=by omega
   have g6:¬w.heap.size+1=w2.heap.size:=by omega
   have b0:=HBOX3.out.cell 0;have b1:=HBOX3.out.cell 1;have b2:=HBOX3.out.cell 2;have b3:=HBOX3.out.cell 3;have b4:=HBOX3.out.cell 4;have b5:=HBOX3.out.cell 5;have fb:=HBOX3.out.frozen 4;have f0:=HRX3.out.frozen 0;have f1:=HRX3.out.frozen 1;have f2:=HRX3.out.frozen 2;have f3:=HRX3.out.frozen 3;have f4:=HRX3.out.frozen 4;have f5:=HRX3.out.frozen 5;have y0:=HRX3.out.cell 0;have y1:=HRX3.out.cell 1;have y2:=HRX3.out.cell 2;have y3:=HRX3.out.cell 3;have y4:=HRX3.out.cell 4;have y5:=HRX3.out.cell 5;go_wp2;rw[←fH];have hR4:=HRX3.out.far (p:=⟨w2.heap.size,4,none⟩) g6 (Value.slice v2.la (n.loads.length-1) v2.lc);have hB4:=fY hR4 rfl (Value.slice v2.na n.nodes.length v2.nc) (Value.slice v2.sa n.switches.length v2.sc) (Value.slice v2.ba n.branches.length v2.bc) (Value.slice v2.ga n.gens.length v2.gc) (Value.slice v2.la (n.loads.length-1) v2.lc) (Value.slice v2.ta n.stores.length v2.tc);have hrw:=(HROWS3.out.setNet HBOX3.out 4 (Value.slice v2.la (n.loads.length-1) v2.lc)).keep (w':=set6 (w3.setCell ⟨w2.heap.size,4,none⟩ (Value.slice v2.la (n.loads.length-1) v2.lc)) (w.heap.size+1) (Value.slice v2.na n.nodes.length v2.nc) (Value.slice v2.sa n.switches.length v2.sc) (Value.slice v2.ba n.branches.length v2.bc) (Value.slice v2.ga n.gens.length v2.gc) (Value.slice v2.la (n.loads.length-1) v2.lc) (Value.slice v2.ta n.stores.length v2.tc)) (fun g hg _=>gO _ _ _ _ _ _ _ _ g (by omega));have hbe:=(HB3.out.setCell (p:=⟨w2.heap.size,4,none⟩) (by simp;omega) (Value.slice v2.la (n.loads.length-1) v2.lc)).trans (dX _ (w.heap.size+1) w.heap.size (Value.slice v2.na n.nodes.length v2.nc) (Value.slice v2.sa n.switches.length v2.sc) (Value.slice v2.ba n.branches.length v2.bc) (Value.slice v2.ga n.gens.length v2.gc) (Value.slice v2.la (n.loads.length-1) v2.lc) (Value.slice v2.ta n.stores.length v2.tc) (by omega));generalize set6 (w3.setCell ⟨w2.heap.size,4,none⟩ (Value.slice v2.la (n.loads.length-1) v2.lc)) (w.heap.size+1) (Value.slice v2.na n.nodes.length v2.nc) (Value.slice v2.sa n.switches.length v2.sc) (Value.slice v2.ba n.branches.length v2.bc) (Value.slice v2.ga n.gens.length v2.gc) (Value.slice v2.la (n.loads.length-1) v2.lc) (Value.slice v2.ta n.stores.length v2.tc)=W at*;have z0:=hB4.cell 0;have z1:=hB4.cell 1;have z2:=hB4.cell 2;have z3:=hB4.cell 3;have z4:=hB4.cell 4;have z5:=hB4.cell 5;refine bodyPost_ret (v:= .tuple #[.agg #[Value.slice v2.na n.nodes.length v2.nc,Value.slice v2.sa n.switches.length v2.sc,Value.slice v2.ba n.branches.length v2.bc,Value.slice v2.ga n.gens.length v2.gc,Value.slice v2.la (n.loads.length-1) v2.lc,Value.slice v2.ta n.stores.length v2.tc],I 0]) (by simp[results,go_sem,z0,z1,z2,z3,z4,z5]) rfl ?_;rw[HX.out];refine⟨v2,?_,hrw.netIn,hbe⟩;rw[show eT n wL k={n with loads:=n.loads.eraseIdx k}from rfl];unfold NetV.val NetV.parts;simp only[List.length_eraseIdx_of_lt hk]
  obtain⟨rfl,hkn⟩:=hrg;have hk:k<n.stores.length:=by omega
  have HX:=aH (show eU n x=(eT n aBb k,0)from HDR.out _ _ rfl (by decide));clear HDR;skip;go_wp2_with fail;refine HCP.out.mono ?_;rintro e w2 ⟨v2,rfl,hin,hrows,hb2⟩;have hz2:=hb2.size;have HRX2:=aH (HRX1.out.below hb2 HRX1.out.lt);have HB2:=aH (HB1.out.trans (hb2.mono HB1.out.size));unfold NetV.val NetV.parts;clear hin hb2 HCP x0 x1 x2 x3 x4 x5 y0 y1 y2 y3 y4 y5 f0 f1 f2 f3 f4 f5;have ha:Below w2.heap.size w2 (w2.alloc (Obj.cells #[Value.slice v2.na n.nodes.length v2.nc,Value.slice v2.sa n.switches.length v2.sc,Value.slice v2.ba n.branches.length v2.bc,Value.slice v2.ga n.gens.length v2.gc,Value.slice v2.la n.loads.length v2.lc,Value.slice v2.ta n.stores.length v2.tc] 29)):=(Below.refl _ w2).alloc lR _;have hrows2:=hrows.keep (w':=w2.alloc (Obj.cells #[Value.slice v2.na n.nodes.length v2.nc,Value.slice v2.sa n.switches.length v2.sc,Value.slice v2.ba n.branches.length v2.bc,Value.slice v2.ga n.gens.length v2.gc,Value.slice v2.la n.loads.length v2.lc,Value.slice v2.ta n.stores.length v2.tc] 29)) (fun g _ hg=>ha.block g hg);have HP0:=aH (hrows.r5 (by omega));have HDE:=aH (aBa v2.ta n.stores.length v2.tc k _ _ w1.heap.size (hrows2.r5 (by omega)) (aCx _) hk HLE.out.l6 (by simp;omega));have HROWS:=aH hrows2;have HBOX:=aH (Blk.new w2 29 #[Value.slice v2.na n.nodes.length v2.nc,Value.slice v2.sa n.switches.length v2.sc,Value.slice v2.ba n.branches.length v2.bc,Value.slice v2.ga n.gens.length v2.gc,Value.slice v2.la n.loads.length v2.lc,Value.slice v2.ta n.stores.length v2.tc]);have HRX2a:=aH (HRX2.out.below ha (by have:=HRX2.out.lt;omega));have HB2a:=aH (HB2.out.trans (ha.mono (by have:=HB2.out.size;omega)));have hk9:(k:Int)+1≤1000000:=by have:=HLE.out.l6;omega
  clear hrows hrows2 ha;go_wp2_with fail;refine HDE.out.mono ?_;rintro e w3 ⟨rfl,hd,hb3,hk3,hz3⟩;have HBOX3:Hid (Blk w3 w2.heap.size 29 #[Value.slice v2.na n.nodes.length v2.nc,Value.slice v2.sa n.switches.length v2.sc,Value.slice v2.ba n.branches.length v2.bc,Value.slice v2.ga n.gens.length v2.gc,Value.slice v2.la n.loads.length v2.lc,Value.slice v2.ta n.stores.length v2.tc]):=aH ((hk3 _ (HP0.out.blk_lt (by omega) lR)).trans HBOX.out);have HRX3:=aH (HRX2a.out.below (hb3.mono (by omega)) (by omega));have HB3:=aH (HB2a.out.trans (hb3.mono (by omega)));have HROWS3:=aH (aTh HROWS.out hk hd hk3);have hs3:w2.heap.size+1=w3.heap.size:=by rw[hz3];simp
  clear hd hb3 hk3 hz3 HBOX HRX2 HRX2a HB2 HB2a HROWS HDE;have g1:w2.heap.size<w3.heap.size:=by omega
  have g3:¬w2.heap.size=w.heap.size+1:=by omega
  have g4:w.heap.size+1<w3.heap.size:=by omega
  have g6:¬w.heap.size+1=w2.heap.size:=by omega
  have b0:=HBOX3.out.cell 0;have b1:=HBOX3.out.cell 1;have b2:=HBOX3.out.cell 2;have b3:=HBOX3.out.cell 3;have b4:=HBOX3.out.cell 4;have b5:=HBOX3.out.cell 5;have fb:=HBOX3.out.frozen 5;have f0:=HRX3.out.frozen 0;have f1:=HRX3.out.frozen 1;have f2:=HRX3.out.frozen 2;have f3:=HRX3.out.frozen 3;have f4:=HRX3.out.frozen 4;have f5:=HRX3.out.frozen 5;have y0:=HRX3.out.cell 0;have y1:=HRX3.out.cell 1;have y2:=HRX3.out.cell 2;have y3:=HRX3.out.cell 3;have y4:=HRX3.out.cell 4;have y5:=HRX3.out.cell 5;go_wp2;rw[←fH];have hR4:=HRX3.out.far (p:=⟨w2.heap.size,5,none⟩) g6 (Value.slice v2.ta (n.stores.length-1) v2.tc);have hB4:=fY hR4 rfl (Value.slice v2.na n.nodes.length v2.nc) (Value.slice v2.sa n.switches.length v2.sc) (Value.slice v2.ba n.branches.length v2.bc) (Value.slice v2.ga n.gens.length v2.gc) (Value.slice v2.la n.loads.length v2.lc) (Value.slice v2.ta (n.stores.length-1) v2.tc);have hrw:=(HROWS3.out.setNet HBOX3.out 5 (Value.slice v2.ta (n.stores.length-1) v2.tc)).keep (w':=set6 (w3.setCell ⟨w2.heap.size,5,none⟩ (Value.slice v2.ta (n.stores.length-1) v2.tc)) (w.heap.size+1) (Value.slice v2.na n.nodes.length v2.nc) (Value.slice v2.sa n.switches.length v2.sc) (Value.slice v2.ba n.branches.length v2.bc) (Value.slice v2.ga n.gens.length v2.gc) (Value.slice v2.la n.loads.length v2.lc) (Value.slice v2.ta (n.stores.length-1) v2.tc)) (fun g hg _=>gO _ _ _ _ _ _ _ _ g (by omega));have hbe:=(HB3.out.setCell (p:=⟨w2.heap.size,5,none⟩) (by simp;omega) (Value.slice v2.ta (n.stores.length-1) v2.tc)).trans (dX _ (w.heap.size+1) w.heap.size (Value.slice v2.na n.nodes.length v2.nc) (Value.slice v2.sa n.switches.length v2.sc) (Value.slice v2.ba n.branches.length v2.bc) (Value.slice v2.ga n.gens.length v2.gc) (Value.slice v2.la n.loads.length v2.lc) (Value.slice v2.ta (n.stores.length-1) v2.tc) (by omega));generalize set6 (w3.setCell ⟨w2.heap.size,5,none⟩ (Value.slice v2.ta (n.stores.length-1) v2.tc)) (w.heap.size+1) (Value.slice v2.na n.nodes.length v2.nc) (Value.slice v2.sa n.switches.length v2.sc) (Value.slice v2.ba n.branches.length v2.bc) (Value.slice v2.ga n.gens.length v2.gc) (Value.slice v2.la n.loads.length v2.lc) (Value.slice v2.ta (n.stores.length-1) v2.tc)=W at*;have z0:=hB4.cell 0;have z1:=hB4.cell 1;have z2:=hB4.cell 2;have z3:=hB4.cell 3;have z4:=hB4.cell 4;have z5:=hB4.cell 5;refine bodyPost_ret (v:= .tuple #[.agg #[Value.slice v2.na n.nodes.length v2.nc,Value.slice v2.sa n.switches.length v2.sc,Value.slice v2.ba n.branches.length v2.bc,Value.slice v2.ga n.gens.length v2.gc,Value.slice v2.la n.loads.length v2.lc,Value.slice v2.ta (n.stores.length-1) v2.tc],I 0]) (by simp[results,go_sem,z0,z1,z2,z3,z4,z5]) rfl ?_;rw[HX.out];refine⟨v2,?_,hrw.netIn,hbe⟩;rw[show eT n aBb k={n with stores:=n.stores.eraseIdx k}from rfl];unfold NetV.val NetV.parts;simp only[List.length_eraseIdx_of_lt hk]
 ·have t1:(er==0)=false:=beq_eq_false_iff_ne.2 h0;have t2:(er !=0)=true:=by rw[bne_iff_ne];exact h0
  have HX:=aH (show eU n x=(zB,er) by rw[HD.out,if_neg h0]);clear h0 HDR;go_wp2;have hB:=fY HRX1.out rfl (.slice none 0 0) (.slice none 0 0) (.slice none 0 0) (.slice none 0 0) (.slice none 0 0) (.slice none 0 0);rw[←fH];have HBE:=aH (HB1.out.trans (dX w1 (w.heap.size+1) w.heap.size (.slice none 0 0) (.slice none 0 0) (.slice none 0 0) (.slice none 0 0) (.slice none 0 0) (.slice none 0 0) (by omega)));generalize set6 w1 (w.heap.size+1) (.slice none 0 0) (.slice none 0 0) (.slice none 0 0) (.slice none 0 0) (.slice none 0 0) (.slice none 0 0)=W at*;have z0:=hB.cell 0;have z1:=hB.cell 1;have z2:=hB.cell 2;have z3:=hB.cell 3;have z4:=hB.cell 4;have z5:=hB.cell 5;refine bodyPost_ret (v:= .tuple #[.agg nE,I er]) (by simp[results,go_sem,z0,z1,z2,z3,z4,z5]) rfl ?_;rw[HX.out];exact⟨⟨none,0,none,0,none,0,none,0,none,0,none,0⟩,rfl,⟨Reads.nil,Reads.nil,Reads.nil,Reads.nil,Reads.nil,Reads.nil⟩,HBE.out⟩
def gL(k:Rat)(l:List Rat):List Rat:=l.map fun x=>k*x
theorem kM(k:Rat)(l:List Rat)(j:Nat):(gL k l).getD j 0=k*l.getD j 0:=by
 unfold gL;rw[gD,List.getElem?_map,gD];cases l[j]? with
 |none=>show(0:Rat)=k*0;grind
 |some x=>rfl
end
end Go.Proofs.YtenbglfkdldheaaGreatDoor
