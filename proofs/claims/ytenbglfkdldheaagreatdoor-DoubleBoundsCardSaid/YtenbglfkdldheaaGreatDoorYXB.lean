/- slices.Delete of one element, at the struct types. netmodel.Without: the plain function; the plain laws of NetmodelKeeps. No program here. netmodel.Without. One row added to one row, one row times a number: matrix.Add and matrix.Scale at matrices of one row. -/
import Derived.Lib.SliceRun
import Derived.Deep.Cut
import Derived.Test.YtenbglfkdldheaaGreatDoorYXA
set_option maxRecDepth 100000
set_option maxHeartbeats 4000000
namespace Go.Proofs.YtenbglfkdldheaaGreatDoor
section
open Go.RowKit
def nE(cs:Array Value):Nat→List Value→Array Value
 |_,[]=>cs
 |o,v::vs=>nE (cs.setIfInBounds o v) (o+1) vs
theorem fR:∀(vs:List Value) (cs:Array Value) (o:Nat),(nE cs o vs).size=cs.size
 |[],_,_=>rfl
 |v::vs,cs,o=>by rw[nE,fR vs,Array.size_setIfInBounds]
theorem rF:∀(vs:List Value) (cs:Array Value) (o j:Nat),o+vs.length≤cs.size→(nE cs o vs)[j]?=if o≤j∧j<o+vs.length then vs[j-o]? else cs[j]?
 |[],cs,o,j,_=>by rw[nE,if_neg (by rw[List.length_nil];omega)]
 |v::vs,cs,o,j,h=>by
  rw[List.length_cons]at h;rw[nE,rF vs _ _ j (by rw[Array.size_setIfInBounds];omega),List.length_cons];by_cases h1:o+1≤j∧j<o+1+vs.length
  ·rw[if_pos h1,if_pos ⟨by omega,by omega⟩,show j-o=(j-(o+1))+1 by omega,List.getElem?_cons_succ]
  ·rw[if_neg h1,Array.getElem?_setIfInBounds];by_cases h2:o=j
   ·subst h2;rw[if_pos rfl,if_pos (by omega),if_pos ⟨Nat.le_refl _,by omega⟩,Nat.sub_self];rfl
   ·rw[if_neg h2,if_neg (by omega)]
theorem oZ{g:Nat}{e:TypeId}:∀(vs:List Value) (w:World) (cs:Array Value) (o:Nat),Blk w g e cs→Blk (w.setCells g o vs) g e (nE cs o vs)
 |[],_,_,_,h=>h
 |v::vs,_,_,o,h=>oZ vs _ _ _ (h.set_ o v)
theorem kQ{B g:Nat}(hB:B≤g):∀(vs:List Value) (w w0:World) (o:Nat),Below B w0 w→Below B w0 (w.setCells g o vs)
 |[],_,_,_,h=>h
 |v::vs,_,_,_,h=>kQ hB vs _ _ _ (h.setCell (by exact hB) v)
theorem mH{b g:Nat}(hne:b≠g):∀(vs:List Value) (w:World) (o:Nat),(w.setCells g o vs).heap[b]?=w.heap[b]?
 |[],_,_=>rfl
 |v::vs,w,o=>(mH hne vs _ _).trans (Below.heap_setCell w ⟨g,o,none⟩ v b hne)
theorem mI(g:Nat):∀(vs:List Value) (w:World) (o:Nat),(w.setCells g o vs).heap.size=w.heap.size
 |[],_,_=>rfl
 |v::vs,w,o=>(mI g vs _ _).trans (by simp[World.setCell])
theorem uY{P:Program}(w:World)(t e ty:TypeId)(z:Value)(ht:P.underlying t=some (.slice e))(hv:∀w,(zeroValue e).run P w= .ok z w)(zs:List Value)(b o n c:Nat)(hn:0<n)(hz:(Builtin.zeroCells z.cells n).toList=zs)(h1:∀u∈zs,u.oneCell'=true) (hc:∀j,j<zs.length→(w.cell? ⟨b,o+j,none⟩).isSome=true)(hf:∀j,j<zs.length→w.frozen? ⟨b,o+j,none⟩=false):
  (Builtin.clear_ #[t] ty #[.slice (some ⟨b,o,none⟩) n c]).run P w= .ok (.tuple #[]) (w.setCells b o zs):=by
 have hst:=run_storeCells_cells (P:=P) b o zs 0 w (by simpa using hc) (by simpa using hf) h1;simp only[Nat.add_zero]at hst;obtain⟨m,rfl⟩:∃m,n=m+1:=⟨n-1,by omega⟩;simp[Builtin.clear_,run_underlying ht,hv,hz,hst]
theorem aLv{w:World}{base g off c n k sz:Nat}{e:TypeId}{cur:Array Value}{xs zs:List Value}(hxl:xs.length=n*sz)(hb:base≤g)(hB:Blk w g e cur)(hn:n≤c)(hm:c≤maxLen)(hs:off+c*sz≤cur.size)(ht:(cur.toList.drop off).take (n*sz)=xs)(hk:k<n)(hz:zs.length=sz): Row ((w.setCells g (off+k*sz) (xs.drop ((k+1)*sz))).setCells g (off+(n-1)*sz) zs) base e sz (.slice (some ⟨g,off,none⟩) (n-1) c) (n-1) (xs.take (k*sz)++xs.drop ((k+1)*sz)):=by
 have hkn:(k+1)*sz≤n*sz:=Nat.mul_le_mul_right _ hk;have hk1:(k+1)*sz=k*sz+sz:=Nat.succ_mul k sz;have hn1:(n-1)*sz+sz=n*sz:=by rw[←Nat.succ_mul,show(n-1).succ=n by omega]
 have hcn:n*sz≤c*sz:=Nat.mul_le_mul_right _ hn;have hdl:(xs.drop ((k+1)*sz)).length=n*sz-(k+1)*sz:=by rw[List.length_drop,hxl]
 have h2:=oZ zs _ _ (off+(n-1)*sz) (oZ (xs.drop ((k+1)*sz)) _ _ (off+k*sz) hB);refine⟨by rw[List.length_append,List.length_take,hdl,hxl];omega,.inr ⟨g,off,c,_,rfl,hb,h2,by omega,hm,by rw[fR,fR];exact hs,?_⟩⟩;apply List.ext_getElem?;intro j;rw[List.getElem?_take];by_cases hj:j<(n-1)*sz
 ·rw[if_pos hj,List.getElem?_drop,Array.getElem?_toList,rF _ _ _ _ (by rw[fR,hz];omega),if_neg (by omega),rF _ _ _ _ (by rw[hdl];omega),hdl];by_cases hjk:j<k*sz
  ·rw[if_neg (by omega),List.getElem?_append_left (by rw[List.length_take,hxl];omega),List.getElem?_take,if_pos hjk,←ht,List.getElem?_take,if_pos (by omega),List.getElem?_drop,Array.getElem?_toList]
  ·rw[if_pos ⟨by omega,by omega⟩,List.getElem?_append_right (by rw[List.length_take,hxl];omega),List.length_take,hxl];congr 1;omega
 ·rw[if_neg hj,List.getElem?_eq_none (by rw[List.length_append,List.length_take,hdl,hxl];omega)]
theorem sU{α:Type}{f:α→List Value}{sz:Nat}(hf:∀x,(f x).length=sz):∀(l:List α) (k:Nat),(aL f l).take (k*sz)=aL f (l.take k)
 |[],k=>by simp[aL]
 |x::l,0=>by simp[aL]
 |x::l,k+1=>by
  have ih:=sU hf l k;rw[aL]at ih;rw[aL,List.flatMap_cons,List.take_succ_cons,aL,List.flatMap_cons,List.take_append,hf,List.take_of_length_le (by rw[hf,Nat.succ_mul];omega),show(k+1)*sz-sz=k*sz by rw[Nat.succ_mul];omega,ih,aL]
theorem sV{α:Type}{f:α→List Value}{sz:Nat}(hf:∀x,(f x).length=sz):∀(l:List α) (k:Nat),(aL f l).drop (k*sz)=aL f (l.drop k)
 |[],k=>by simp[aL]
 |x::l,0=>by simp[aL]
 |x::l,k+1=>by
  have ih:=sV hf l k;rw[aL]at ih;rw[aL,List.flatMap_cons,List.drop_succ_cons,List.drop_append,hf,List.drop_of_length_le (by rw[hf,Nat.succ_mul];omega),show(k+1)*sz-sz=k*sz by rw[Nat.succ_mul];omega,ih,List.nil_append]
theorem yW{α:Type}{f:α→List Value}{sz:Nat}(hf:∀x,(f x).length=sz)(l:List α)(k:Nat):(aL f l).take (k*sz)++(aL f l).drop ((k+1)*sz)=aL f (l.eraseIdx k):=by
 rw[sU hf,sV hf,List.eraseIdx_eq_take_drop_succ,aL,aL,aL,List.flatMap_append]
theorem aGr:(Tryz.prog.info? 134).map (fun i=>(i.zero,i.size,i.bytes))=some (some (.agg #[.string ⟨#[]⟩,.string ⟨#[]⟩,.string ⟨#[]⟩,.bool false,.bool false]),5,56):=by kernel_rfl
theorem aVo(A:Option Addr)(n c k:Nat)(xs:List Value)(w:World)(base:Nat)(hr:Row w base 134 5 (.slice A n c) n xs)(h1:∀u∈xs,u.oneCell'=true)(hk:k<n)(hn:n≤1000000)(_hb:base≤w.heap.size): Calls Tryz.prog 80 #[.slice A n c,I k,I ((k+1:Nat):Int)] w fun e w'=>e= .returned (.slice A (n-1) c)∧Row w' base 134 5 (.slice A (n-1) c) (n-1) (xs.take (k*5)++xs.drop ((k+1)*5))∧Below base w w'∧(∀b,(∀o,A≠some ⟨b,o,none⟩)→w'.heap[b]?=w.heap[b]?)∧w'.heap.size=w.heap.size:=by
 obtain⟨hxl,hr2⟩:=hr;obtain⟨g,off,cap,cur,hv,hbg,hB,hnc,hm,hs,ht⟩:=hr2.resolve_left (fun q=>by omega);injection hv with hA _ hc;subst hA hc;obtain⟨i0,hi0,hz0,hz1,hz2⟩:=info_parts aGr;have hdr:Blk w.drew g 134 cur:=hB;have HRD:=aH (aLv (zs:=[.string ⟨#[]⟩,.string ⟨#[]⟩,.string ⟨#[]⟩,.bool false,.bool false]) hxl hbg hdr hnc hm hs ht hk rfl);have hm2:c≤9223372036854775807:=by unfold maxLen at hm;omega
 have hd:=(Below.refl base w).drew;have HBL:=aH (kQ hbg [.string ⟨#[]⟩,.string ⟨#[]⟩,.string ⟨#[]⟩,.bool false,.bool false] _ _ (off+(n-1)*5) (kQ hbg (xs.drop ((k+1)*5)) _ _ (off+k*5) hd));have HSH:=aH (show(∀b,¬g=b→((w.drew.setCells g (off+k*5) (xs.drop ((k+1)*5))).setCells g (off+(n-1)*5) [.string ⟨#[]⟩,.string ⟨#[]⟩,.string ⟨#[]⟩,.bool false,.bool false]).heap[b]?=w.heap[b]?)∧((w.drew.setCells g (off+k*5) (xs.drop ((k+1)*5))).setCells g (off+(n-1)*5) [.string ⟨#[]⟩,.string ⟨#[]⟩,.string ⟨#[]⟩,.bool false,.bool false]).heap.size=w.heap.size from⟨fun b hb=>by
  have hbg:b≠g:=fun e=>hb e.symm;rw[mH hbg,mH hbg];rfl,by rw[mI,mI];rfl⟩)
 obtain⟨news,hnews⟩:∃news,xs.drop ((k+1)*5)=news:=⟨_,rfl⟩;have hnl:news.length=(n-(k+1))*5:=by rw[←hnews,List.length_drop,hxl];omega
 have hat:∀t u,news[t]?=some u→w.drew.cell? ⟨g,off+(k+1)*5+t,none⟩=some u:=by
  intro t u hu;rw[←hnews,List.getElem?_drop,←ht,List.getElem?_take]at hu;split at hu
  ·rw[List.getElem?_drop,Array.getElem?_toList]at hu;rw[show w.drew.cell? ⟨g,off+(k+1)*5+t,none⟩=w.cell? ⟨g,off+(k+1)*5+t,none⟩from rfl,hB.cell,show off+(k+1)*5+t=off+((k+1)*5+t) by omega];exact hu
  ·cases hu
 have hspare:∀j,j<news.length→(w.drew.cell? ⟨g,off+k*5+j,none⟩).isSome=true∧w.drew.frozen? ⟨g,off+k*5+j,none⟩=false:=by
  intro j hj;refine⟨?_,hdr.frozen _⟩;rw[hdr.cell,Array.getElem?_eq_getElem (by omega)];rfl
 have h1n:∀u∈news,u.oneCell'=true:=fun u hu=>h1 u (List.mem_of_mem_drop (hnews▸hu));obtain⟨Ad,hAd,hsrc⟩:∃Ad:Addr,(if c=k+1 then(some ⟨g,off,none⟩:Option Addr)else some ⟨g,off+(k+1)*5,none⟩)=some Ad∧∀t u,news[t]?=some u→w.drew.cell? (Ad.add t)=some u:=by
  by_cases h:c=k+1
  ·refine⟨⟨g,off,none⟩,if_pos h,fun t u hu=>?_⟩;have h0:news.length=0:=by rw[hnl,show n-(k+1)=0 by omega]
   rw[List.length_eq_zero_iff.1 h0]at hu;simp at hu
  ·exact⟨⟨g,off+(k+1)*5,none⟩,if_neg h,fun t u hu=>by rw[Addr.add_lit];exact hat t u hu⟩
 have HB1:=aH (oZ news _ _ (off+k*5) hdr);have hcs:off+(n-1)*5+5≤cur.size:=by omega
 have HCL:=aH (fun ty=>uY (P:=Tryz.prog) (w.drew.setCells g (off+k*5) news) 23 134 ty (.agg #[.string ⟨#[]⟩,.string ⟨#[]⟩,.string ⟨#[]⟩,.bool false,.bool false]) Tryz.underlying23 Tryz.zeroValue134 [.string ⟨#[]⟩,.string ⟨#[]⟩,.string ⟨#[]⟩,.bool false,.bool false] g (off+(n-1)*5) 1 (c-(n-1)) (by decide) (by kernel_rfl) (by simp[Value.oneCell']) (fun j hj=>by
  have hj2:j<5:=hj;rw[HB1.out.cell,Array.getElem?_eq_getElem (by rw[fR];omega)];rfl) (fun j _=>HB1.out.frozen _))
 rw[hnews]at HRD HBL HSH⊢;have S1:=aH hnl;have S2:=aH hsrc;have S3:=aH h1n;have S4:=aH hspare;obtain⟨j,hj⟩:∃j,k+1=j:=⟨_,rfl⟩;have HJ:=aH hj;rw[hj]at hAd S1⊢;have hkc:k≤c:=by omega
 have hjc:j≤c:=by omega
 have hjn:j≤n:=by omega
 have hkj:k≤j:=by omega
 have hne:((k:Int)==(j:Int))=false:=by rw[beq_eq_false_iff_ne];omega
 have hnj:k+(n-j)=n-1:=by omega
 have HNJ:=aH hnj;have hn1:n-1≤n:=by omega
 have hn2:n-(n-1)=1:=by omega
 have hcn1:¬c=n-1:=by omega
 have HN2:=aH hn2;clear hxl hr2 hB hdr hs ht hnl hat hspare h1n hd hnews hsrc HB1 h1 hj hnj hn2;by_cases hce:c=j
 ·rw[if_pos hce]at hAd;obtain rfl:j=c:=hce.symm;have hnk:n-1=k:=by have:=HJ.out;omega
  rw[hnk]at HRD HBL HSH HCL HN2⊢;have hnj0:n-j=0:=by omega
  have S1b:=aH (show news.length=0*5 by rw[S1.out,hnj0]);clear hnk hnj0 hn1 hcn1;injection hAd with hAd;subst hAd;go_enter Tryz.func80,Tryz.ntmps80;go_upto_region 5 with(fail)
  go_region_law ((refine step_append_room (by rfl) (.tmp 22) (.tmp 25) 23 (by rfl) 134 i0 5 Tryz.underlying23 hi0 hz1 g off k j (by kernel_rfl) _ 0 0 news (by kernel_rfl) S1b.out S2.out S3.out (by omega) S4.out ?_));simp only[Act.put,List.getElem_toArray,List.getElem_cons_succ,List.getElem_cons_zero,List.setIfInBounds_toArray,List.set_cons_zero];have hcl:=HCL.out;have hcl:=HCL.out;rw[←HN2.out]at hcl;generalize w.drew.setCells g (off+k*5) news=W1 at*;go_wp2;go_ret;exact⟨rfl,HRD.out,HBL.out,HSH.out⟩
 ·rw[if_neg hce]at hAd;injection hAd with hAd;subst hAd;go_enter Tryz.func80,Tryz.ntmps80;go_upto_region 5 with(fail)
  go_region_law ((refine step_append_room (by rfl) (.tmp 22) (.tmp 25) 23 (by rfl) 134 i0 5 Tryz.underlying23 hi0 hz1 g off k c (by kernel_rfl) _ (n-j) (c-j) news (by kernel_rfl) S1.out S2.out S3.out (by omega) S4.out ?_));rw[HNJ.out];simp only[Act.put,List.getElem_toArray,List.getElem_cons_succ,List.getElem_cons_zero,List.setIfInBounds_toArray,List.set_cons_zero];have hcl:∀ty,(Builtin.clear_ #[23] ty #[.slice (some ⟨g,off+(n-1)*5,none⟩) (n-(n-1)) (c-(n-1))]).run Tryz.prog (w.drew.setCells g (off+k*5) news)= .ok (.tuple #[]) ((w.drew.setCells g (off+k*5) news).setCells g (off+(n-1)*5) [.string ⟨#[]⟩,.string ⟨#[]⟩,.string ⟨#[]⟩,.bool false,.bool false]):=by
   intro ty;rw[HN2.out];exact HCL.out ty
  generalize w.drew.setCells g (off+k*5) news=W1 at*;go_wp2;go_ret;exact⟨rfl,HRD.out,HBL.out,HSH.out⟩
theorem aGs:(Tryz.prog.info? 41).map (fun i=>(i.zero,i.size,i.bytes))=some (some (.agg #[.string ⟨#[]⟩,.string ⟨#[]⟩,.string ⟨#[]⟩,.int .i64 0,.int .i64 0,.int .i64 0,.int .i64 0,.int .i64 0,.int .i64 0]),9,96):=by kernel_rfl
theorem yX(A:Option Addr)(n c k:Nat)(xs:List Value)(w:World)(base:Nat)(hr:Row w base 41 9 (.slice A n c) n xs)(h1:∀u∈xs,u.oneCell'=true)(hk:k<n)(hn:n≤1000000)(_hb:base≤w.heap.size): Calls Tryz.prog 81 #[.slice A n c,I k,I ((k+1:Nat):Int)] w fun e w'=>e= .returned (.slice A (n-1) c)∧Row w' base 41 9 (.slice A (n-1) c) (n-1) (xs.take (k*9)++xs.drop ((k+1)*9))∧Below base w w'∧(∀b,(∀o,A≠some ⟨b,o,none⟩)→w'.heap[b]?=w.heap[b]?)∧w'.heap.size=w.heap.size:=by
 obtain⟨hxl,hr2⟩:=hr;obtain⟨g,off,cap,cur,hv,hbg,hB,hnc,hm,hs,ht⟩:=hr2.resolve_left (fun q=>by omega);injection hv with hA _ hc;subst hA hc;obtain⟨i0,hi0,hz0,hz1,hz2⟩:=info_parts aGs;have hdr:Blk w.drew g 41 cur:=hB;have HRD:=aH (aLv (zs:=[.string ⟨#[]⟩,.string ⟨#[]⟩,.string ⟨#[]⟩,.int .i64 0,.int .i64 0,.int .i64 0,.int .i64 0,.int .i64 0,.int .i64 0]) hxl hbg hdr hnc hm hs ht hk rfl);have hm2:c≤9223372036854775807:=by unfold maxLen at hm;omega
 have hd:=(Below.refl base w).drew;have HBL:=aH (kQ hbg [.string ⟨#[]⟩,.string ⟨#[]⟩,.string ⟨#[]⟩,.int .i64 0,.int .i64 0,.int .i64 0,.int .i64 0,.int .i64 0,.int .i64 0] _ _ (off+(n-1)*9) (kQ hbg (xs.drop ((k+1)*9)) _ _ (off+k*9) hd));have HSH:=aH (show(∀b,¬g=b→((w.drew.setCells g (off+k*9) (xs.drop ((k+1)*9))).setCells g (off+(n-1)*9) [.string ⟨#[]⟩,.string ⟨#[]⟩,.string ⟨#[]⟩,.int .i64 0,.int .i64 0,.int .i64 0,.int .i64 0,.int .i64 0,.int .i64 0]).heap[b]?=w.heap[b]?)∧((w.drew.setCells g (off+k*9) (xs.drop ((k+1)*9))).setCells g (off+(n-1)*9) [.string ⟨#[]⟩,.string ⟨#[]⟩,.string ⟨#[]⟩,.int .i64 0,.int .i64 0,.int .i64 0,.int .i64 0,.int .i64 0,.int .i64 0]).heap.size=w.heap.size from⟨fun b hb=>by
  have hbg:b≠g:=fun e=>hb e.symm;rw[mH hbg,mH hbg];rfl,by rw[mI,mI];rfl⟩)
 obtain⟨news,hnews⟩:∃news,xs.drop ((k+1)*9)=news:=⟨_,rfl⟩;have hnl:news.length=(n-(k+1))*9:=by rw[←hnews,List.length_drop,hxl];omega
 have hat:∀t u,news[t]?=some u→w.drew.cell? ⟨g,off+(k+1)*9+t,none⟩=some u:=by
  intro t u hu;rw[←hnews,List.getElem?_drop,←ht,List.getElem?_take]at hu;split at hu
  ·rw[List.getElem?_drop,Array.getElem?_toList]at hu;rw[show w.drew.cell? ⟨g,off+(k+1)*9+t,none⟩=w.cell? ⟨g,off+(k+1)*9+t,none⟩from rfl,hB.cell,show off+(k+1)*9+t=off+((k+1)*9+t) by omega];exact hu
  ·cases hu
 have hspare:∀j,j<news.length→(w.drew.cell? ⟨g,off+k*9+j,none⟩).isSome=true∧w.drew.frozen? ⟨g,off+k*9+j,none⟩=false:=by
  intro j hj;refine⟨?_,hdr.frozen _⟩;rw[hdr.cell,Array.getElem?_eq_getElem (by omega)];rfl
 have h1n:∀u∈news,u.oneCell'=true:=fun u hu=>h1 u (List.mem_of_mem_drop (hnews▸hu));obtain⟨Ad,hAd,hsrc⟩:∃Ad:Addr,(if c=k+1 then(some ⟨g,off,none⟩:Option Addr)else some ⟨g,off+(k+1)*9,none⟩)=some Ad∧∀t u,news[t]?=some u→w.drew.cell? (Ad.add t)=some u:=by
  by_cases h:c=k+1
  ·refine⟨⟨g,off,none⟩,if_pos h,fun t u hu=>?_⟩;have h0:news.length=0:=by rw[hnl,show n-(k+1)=0 by omega]
   rw[List.length_eq_zero_iff.1 h0]at hu;simp at hu
  ·exact⟨⟨g,off+(k+1)*9,none⟩,if_neg h,fun t u hu=>by rw[Addr.add_lit];exact hat t u hu⟩
 have HB1:=aH (oZ news _ _ (off+k*9) hdr);have hcs:off+(n-1)*9+9≤cur.size:=by omega
 have HCL:=aH (fun ty=>uY (P:=Tryz.prog) (w.drew.setCells g (off+k*9) news) 24 41 ty (.agg #[.string ⟨#[]⟩,.string ⟨#[]⟩,.string ⟨#[]⟩,.int .i64 0,.int .i64 0,.int .i64 0,.int .i64 0,.int .i64 0,.int .i64 0]) Tryz.underlying24 Tryz.zeroValue41 [.string ⟨#[]⟩,.string ⟨#[]⟩,.string ⟨#[]⟩,.int .i64 0,.int .i64 0,.int .i64 0,.int .i64 0,.int .i64 0,.int .i64 0] g (off+(n-1)*9) 1 (c-(n-1)) (by decide) (by kernel_rfl) (by simp[Value.oneCell']) (fun j hj=>by
  have hj2:j<9:=hj;rw[HB1.out.cell,Array.getElem?_eq_getElem (by rw[fR];omega)];rfl) (fun j _=>HB1.out.frozen _))
 rw[hnews]at HRD HBL HSH⊢;have S1:=aH hnl;have S2:=aH hsrc;have S3:=aH h1n;have S4:=aH hspare;obtain⟨j,hj⟩:∃j,k+1=j:=⟨_,rfl⟩;have HJ:=aH hj;rw[hj]at hAd S1⊢;have hkc:k≤c:=by omega
 have hjc:j≤c:=by omega
 have hjn:j≤n:=by omega
 have hkj:k≤j:=by omega
 have hne:((k:Int)==(j:Int))=false:=by rw[beq_eq_false_iff_ne];omega
 have hnj:k+(n-j)=n-1:=by omega
 have HNJ:=aH hnj;have hn1:n-1≤n:=by omega
 have hn2:n-(n-1)=1:=by omega
 have hcn1:¬c=n-1:=by omega
 have HN2:=aH hn2;clear hxl hr2 hB hdr hs ht hnl hat hspare h1n hd hnews hsrc HB1 h1 hj hnj hn2;by_cases hce:c=j
 ·rw[if_pos hce]at hAd;obtain rfl:j=c:=hce.symm;have hnk:n-1=k:=by have:=HJ.out;omega
  rw[hnk]at HRD HBL HSH HCL HN2⊢;have hnj0:n-j=0:=by omega
  have S1b:=aH (show news.length=0*9 by rw[S1.out,hnj0]);clear hnk hnj0 hn1 hcn1;injection hAd with hAd;subst hAd;go_enter Tryz.func81,Tryz.ntmps81;go_upto_region 5 with(fail)
  go_region_law ((refine step_append_room (by rfl) (.tmp 22) (.tmp 25) 24 (by rfl) 41 i0 9 Tryz.underlying24 hi0 hz1 g off k j (by kernel_rfl) _ 0 0 news (by kernel_rfl) S1b.out S2.out S3.out (by omega) S4.out ?_));simp only[Act.put,List.getElem_toArray,List.getElem_cons_succ,List.getElem_cons_zero,List.setIfInBounds_toArray,List.set_cons_zero];have hcl:=HCL.out;have hcl:=HCL.out;rw[←HN2.out]at hcl;generalize w.drew.setCells g (off+k*9) news=W1 at*;go_wp2;go_ret;exact⟨rfl,HRD.out,HBL.out,HSH.out⟩
 ·rw[if_neg hce]at hAd;injection hAd with hAd;subst hAd;go_enter Tryz.func81,Tryz.ntmps81;go_upto_region 5 with(fail)
  go_region_law ((refine step_append_room (by rfl) (.tmp 22) (.tmp 25) 24 (by rfl) 41 i0 9 Tryz.underlying24 hi0 hz1 g off k c (by kernel_rfl) _ (n-j) (c-j) news (by kernel_rfl) S1.out S2.out S3.out (by omega) S4.out ?_));rw[HNJ.out];simp only[Act.put,List.getElem_toArray,List.getElem_cons_succ,List.getElem_cons_zero,List.setIfInBounds_toArray,List.set_cons_zero];have hcl:∀ty,(Builtin.clear_ #[24] ty #[.slice (some ⟨g,off+(n-1)*9,none⟩) (n-(n-1)) (c-(n-1))]).run Tryz.prog (w.drew.setCells g (off+k*9) news)= .ok (.tuple #[]) ((w.drew.setCells g (off+k*9) news).setCells g (off+(n-1)*9) [.string ⟨#[]⟩,.string ⟨#[]⟩,.string ⟨#[]⟩,.int .i64 0,.int .i64 0,.int .i64 0,.int .i64 0,.int .i64 0,.int .i64 0]):=by
   intro ty;rw[HN2.out];exact HCL.out ty
  generalize w.drew.setCells g (off+k*9) news=W1 at*;go_wp2;go_ret;exact⟨rfl,HRD.out,HBL.out,HSH.out⟩
end
section
theorem aPh{nodes seen:List ByteArray}{name:ByteArray}{ends:List ByteArray}(h1:eH name=true)(h2:name∉seen)(h3:∀e∈ends,e∈nodes)(h4:fP ends=false):aU nodes seen name ends=(0,name::seen):=by
 have h3':(ends.all fun e=>Lib.containsS nodes e)=true:=List.all_eq_true.2 fun e he=>(Lib.containsS_iff _ _).2 (h3 e he);rw[aU,if_neg (by simp[h1]),if_neg (fun k=>h2 ((Lib.containsS_iff _ _).1 k)),if_neg (by rw[h3'];decide),if_neg (by rw[h4];decide)]
theorem aLw{nodes:List ByteArray}:∀{items:List bAi} {seen:List ByteArray},(∀it∈items,eH it.1=true∧it.1∉seen∧(∀e∈it.2.1,e∈nodes)∧fP it.2.1=false∧it.2.2=true)→(items.map (·.1)).Nodup→iQ nodes items seen=0
 |[],_,_,_=>rfl
 |(name,ends,ok)::rest,seen,h,hn=>by
  obtain⟨k1,k2,k3,k4,k5⟩:=h _ List.mem_cons_self;simp only at k1 k2 k3 k4 k5;rw[iQ,aPh k1 k2 k3 k4,if_pos rfl,if_pos k5];rw[List.map_cons,List.nodup_cons]at hn;refine aLw (fun it hit=>?_) hn.2;obtain⟨j1,j2,j3⟩:=h it (List.mem_cons_of_mem _ hit);refine⟨j1,fun hm=>?_,j3⟩;rcases List.mem_cons.1 hm with e|e
  ·exact hn.1 (List.mem_map.2 ⟨it,hit,e⟩)
  ·exact j2 e
theorem mJ{n m:NetD}(h:bI n=0)(h0:m.nodes=n.nodes)(h1:m.switches.Sublist n.switches)(h2:m.branches.Sublist n.branches)(h3:m.gens.Sublist n.gens)(h4:m.loads.Sublist n.loads)(h5:m.stores.Sublist n.stores):bI m=0:=by
 obtain⟨a,b⟩:=uS h;obtain⟨i1,i2⟩:=aCm b;have hs:m.items.Sublist n.items:=by
  rw[NetD.items,NetD.items,h0];exact(List.Sublist.refl _).append ((h1.map _).append ((h2.map _).append ((h3.map _).append ((h4.map _).append (h5.map _)))))
 have l1:=h1.length_le;have l2:=h2.length_le;have l3:=h3.length_le;have l4:=h4.length_le;have l5:=h5.length_le;rw[bI,if_neg (by rw[h0];omega),h0];exact aLw (fun it hit=>i1 it (hs.subset hit)) (List.Pairwise.sublist (hs.map _) i2)
def aZh:ByteArray:=⟨#[110,111,100,101]⟩
def nF:ByteArray:=⟨#[98,114,97,110,99,104]⟩
def bDd:ByteArray:=⟨#[103,101,110]⟩
def bCm:ByteArray:=⟨#[108,111,97,100]⟩
def aAw(n:NetD)(k:ByteArray)(i:Nat):NetD:=if k=swB then{n with switches:=n.switches.eraseIdx i}
 else if k=nF then{n with branches:=n.branches.eraseIdx i}
 else if k=bDd then{n with gens:=n.gens.eraseIdx i}
 else if k=bCm then{n with loads:=n.loads.eraseIdx i}
 else{n with stores:=n.stores.eraseIdx i}
def yI(n:NetD)(x:ByteArray):NetD×Int:=if(uX n x).2.2=0 then(if(uX n x).1=aZh then(aZg,1)else(aAw n (uX n x).1 (uX n x).2.1.toNat,0))else(aZg,(uX n x).2.2)
theorem aJj{n:NetD}(h:bI n=0)(k:ByteArray)(i:Nat):bI (aAw n k i)=0:=by
 have r:∀{α:Type} (l:List α),l.Sublist l:=fun l=>List.Sublist.refl l;rw[aAw];split
 ·exact mJ h rfl (List.eraseIdx_sublist ..) (r _) (r _) (r _) (r _)
 ·split
  ·exact mJ h rfl (r _) (List.eraseIdx_sublist ..) (r _) (r _) (r _)
  ·split
   ·exact mJ h rfl (r _) (r _) (List.eraseIdx_sublist ..) (r _) (r _)
   ·split
    ·exact mJ h rfl (r _) (r _) (r _) (List.eraseIdx_sublist ..) (r _)
    ·exact mJ h rfl (r _) (r _) (r _) (r _) (List.eraseIdx_sublist ..)
end
section
open Go.RowKit
theorem fS{w:World}{base:Nat}{e:TypeId}{sz n c:Nat}{A:Option Addr}{xs:List Value}(hl:xs.length=n*sz)(h:0<n→Row w base e sz (.slice A n c) n xs):Reads w w.heap.size sz A n xs:=⟨hl,fun hn=>(h hn).reads.2 hn⟩
theorem NetRows.netIn{w:World}{base:Nat}{n:NetD}{v:NetV}(h:NetRows w base n v):NetIn w n v:=⟨fS (by simp) h.r0,fS (eM (f:=SwitchD.cells) (sz:=5) (fun _=>rfl) _) h.r1,fS (eM (f:=BranchD.cells) (sz:=9) (fun _=>rfl) _) h.r2,fS (eM (f:=GenD.cells) (sz:=5) (fun _=>rfl) _) h.r3,fS (eM (f:=LoadD.cells) (sz:=3) (fun _=>rfl) _) h.r4,fS (eM (f:=StoreD.cells) (sz:=5) (fun _=>rfl) _) h.r5⟩
theorem NetRows.keep{w w':World}{base:Nat}{n:NetD}{v:NetV}(h:NetRows w base n v)(hk:∀g,base≤g→g<w.heap.size→w'.heap[g]?=w.heap[g]?):NetRows w' base n v:=⟨fun q=>(h.r0 q).keep hk,fun q=>(h.r1 q).keep hk,fun q=>(h.r2 q).keep hk,fun q=>(h.r3 q).keep hk,fun q=>(h.r4 q).keep hk,fun q=>(h.r5 q).keep hk⟩
theorem Row.setNet{w:World}{base b:Nat}{e t:TypeId}{sz n:Nat}{v:Value}{xs:List Value}{cs:Array Value}(h:Row w base e sz v n xs)(hB:Blk w b t cs)(hne:e≠t)(i:Nat)(u:Value):Row (w.setCell ⟨b,i,none⟩ u) base e sz v n xs:=h.set_away (h.ne_blk hB hne) u
theorem NetRows.setNet{w:World}{base b:Nat}{n:NetD}{v:NetV}{cs:Array Value}(h:NetRows w base n v)(hB:Blk w b 29 cs)(i:Nat)(u:Value):NetRows (w.setCell ⟨b,i,none⟩ u) base n v:=⟨fun q=>(h.r0 q).setNet hB (by decide) i u,fun q=>(h.r1 q).setNet hB (by decide) i u,fun q=>(h.r2 q).setNet hB (by decide) i u,fun q=>(h.r3 q).setNet hB (by decide) i u,fun q=>(h.r4 q).setNet hB (by decide) i u,fun q=>(h.r5 q).setNet hB (by decide) i u⟩
theorem Row.other{w w':World}{base base':Nat}{e e':TypeId}{sz sz' n n' c':Nat}{A:Option Addr}{v:Value}{xs xs':List Value}(h:Row w base e sz v n xs)(h':Row w base' e' sz' (.slice A n' c') n' xs')(hn':0<n')(hne:e≠e')(hk:∀b,(∀o,A≠some ⟨b,o,none⟩)→w'.heap[b]?=w.heap[b]?):Row w' base e sz v n xs:=by
 obtain⟨g',off',cap',cur',hv',_,hh',_⟩:=h'.form hn';injection hv' with hA;obtain⟨h1,h2⟩:=h;refine⟨h1,h2.imp id ?_⟩;rintro⟨g,off,cap,cur,rfl,hb,hh,r⟩;refine⟨g,off,cap,cur,rfl,hb,?_,r⟩;unfold Blk at hh hh'⊢;rw[hk g ?_]
 ·exact hh
 ·intro o ho;rw[hA]at ho;injection ho with ho;injection ho with ho;subst ho;rw[hh]at hh';injection hh' with hh';injection hh' with _ hh';exact hne hh'
theorem Row.blk_lt{w:World}{base:Nat}{e:TypeId}{sz n c:Nat}{A:Option Addr}{xs:List Value}(h:Row w base e sz (.slice A n c) n xs)(hn:0<n){b:Nat}(hb:w.heap.size≤b):∀o,A≠some ⟨b,o,none⟩:=by
 obtain⟨g,off,cap,cur,hv,_,hh,_⟩:=h.form hn;injection hv with hA;intro o ho;rw[hA]at ho;injection ho with ho;injection ho with ho;have:=hh.lt;omega
theorem yY(n:NetD)(x s:ByteArray)(k:Nat)(h:uX n x=(s,(k:Int),0))(hs:s≠aZh):yI n x=(aAw n s k,0):=by
 rw[yI,h];simp only[if_true,if_neg hs,Int.toNat_natCast]
theorem aYb{w w':World}{base:Nat}{n:NetD}{v:NetV}(h:NetRows w base n v){k:Nat}(hk1:k<n.branches.length) (hd:Row w' base 41 9 (.slice v.ba (n.branches.length-1) v.bc) (n.branches.length-1) ((aL BranchD.cells n.branches).take (k*9)++(aL BranchD.cells n.branches).drop ((k+1)*9)))
  (hk:∀b,(∀o,v.ba≠some ⟨b,o,none⟩)→w'.heap[b]?=w.heap[b]?):NetRows w' base (aAw n nF k) v:=by
 have hp:0<n.branches.length:=by omega
 rw[yW (f:=BranchD.cells) (sz:=9) (fun _=>rfl),←List.length_eraseIdx_of_lt hk1]at hd;rw[show aAw n nF k={n with branches:=n.branches.eraseIdx k}from rfl];exact⟨fun q=>(h.r0 q).other (h.r2 hp) hp (by decide) hk,fun q=>(h.r1 q).other (h.r2 hp) hp (by decide) hk,fun _=>hd,fun q=>(h.r3 q).other (h.r2 hp) hp (by decide) hk,fun q=>(h.r4 q).other (h.r2 hp) hp (by decide) hk,fun q=>(h.r5 q).other (h.r2 hp) hp (by decide) hk⟩
def gM(k:Rat)(l:List Rat):List Rat:=l.map fun x=>k*x
theorem kZ(k:Rat)(l:List Rat)(j:Nat):(gM k l).getD j 0=k*l.getD j 0:=by
 unfold gM;rw[gD,List.getElem?_map,gD];cases l[j]? with
 |none=>show(0:Rat)=k*0;grind
 |some x=>rfl
end
end Go.Proofs.YtenbglfkdldheaaGreatDoor
