/- slices.Delete of one element, at the struct types. netmodel.Without: the plain function; the plain laws of NetmodelKeeps. No program here. netmodel.Without. One row added to one row, one row times a number: matrix.Add and matrix.Scale at matrices of one row. -/
import Derived.Lib.SliceRun
import Derived.Deep.Cut
import Derived.Test.YtenbglfkdldheaaGreatDoorUXA
import Derived.Test.YtenbglfkdldheaaGreatDoorUAD
set_option maxRecDepth 100000
set_option maxHeartbeats 4000000
namespace Go.Proofs.YtenbglfkdldheaaGreatDoor
section
open Go.RowKit
def mI(cs:Array Value):Nat→List Value→Array Value
 |_,[]=>cs
 |o,v::vs=>mI (cs.setIfInBounds o v) (o+1) vs
theorem fD:∀(vs:List Value) (cs:Array Value) (o:Nat),(mI cs o vs).size=cs.size
 |[],_,_=>rfl
 |v::vs,cs,o=>by rw[mI,fD vs,Array.size_setIfInBounds]
theorem pW:∀(vs:List Value) (cs:Array Value) (o j:Nat),o+vs.length≤cs.size→(mI cs o vs)[j]?=if o≤j∧j<o+vs.length then vs[j-o]? else cs[j]?
 |[],cs,o,j,_=>by rw[mI,if_neg (by rw[List.length_nil];omega)]
 |v::vs,cs,o,j,h=>by
  rw[List.length_cons]at h;rw[mI,pW vs _ _ j (by rw[Array.size_setIfInBounds];omega),List.length_cons];by_cases h1:o+1≤j∧j<o+1+vs.length
  ·rw[if_pos h1,if_pos ⟨by omega,by omega⟩,show j-o=(j-(o+1))+1 by omega,List.getElem?_cons_succ]
  ·rw[if_neg h1,Array.getElem?_setIfInBounds];by_cases h2:o=j
   ·subst h2;rw[if_pos rfl,if_pos (by omega),if_pos ⟨Nat.le_refl _,by omega⟩,Nat.sub_self];rfl
   ·rw[if_neg h2,if_neg (by omega)]
theorem nW{g:Nat}{e:TypeId}:∀(vs:List Value) (w:World) (cs:Array Value) (o:Nat),Blk w g e cs→Blk (w.setCells g o vs) g e (mI cs o vs)
 |[],_,_,_,h=>h
 |v::vs,_,_,o,h=>nW vs _ _ _ (h.set_ o v)
theorem jU{B g:Nat}(hB:B≤g):∀(vs:List Value) (w w0:World) (o:Nat),Below B w0 w→Below B w0 (w.setCells g o vs)
 |[],_,_,_,h=>h
 |v::vs,_,_,_,h=>jU hB vs _ _ _ (h.setCell (by exact hB) v)
theorem lL{b g:Nat}(hne:b≠g):∀(vs:List Value) (w:World) (o:Nat),(w.setCells g o vs).heap[b]?=w.heap[b]?
 |[],_,_=>rfl
 |v::vs,w,o=>(lL hne vs _ _).trans (Below.heap_setCell w ⟨g,o,none⟩ v b hne)
theorem lM(g:Nat):∀(vs:List Value) (w:World) (o:Nat),(w.setCells g o vs).heap.size=w.heap.size
 |[],_,_=>rfl
 |v::vs,w,o=>(lM g vs _ _).trans (by simp[World.setCell])
theorem tL{P:Program}(w:World)(t e ty:TypeId)(z:Value)(ht:P.underlying t=some (.slice e))(hv:∀w,(zeroValue e).run P w= .ok z w)(zs:List Value)(b o n c:Nat)(hn:0<n)(hz:(Builtin.zeroCells z.cells n).toList=zs)(h1:∀u∈zs,u.oneCell'=true) (hc:∀j,j<zs.length→(w.cell? ⟨b,o+j,none⟩).isSome=true)(hf:∀j,j<zs.length→w.frozen? ⟨b,o+j,none⟩=false):
  (Builtin.clear_ #[t] ty #[.slice (some ⟨b,o,none⟩) n c]).run P w= .ok (.tuple #[]) (w.setCells b o zs):=by
 have hst:=run_storeCells_cells (P:=P) b o zs 0 w (by simpa using hc) (by simpa using hf) h1;simp only[Nat.add_zero]at hst;obtain⟨m,rfl⟩:∃m,n=m+1:=⟨n-1,by omega⟩;simp[Builtin.clear_,run_underlying ht,hv,hz,hst]
theorem aKp{w:World}{base g off c n k sz:Nat}{e:TypeId}{cur:Array Value}{xs zs:List Value}(hxl:xs.length=n*sz)(hb:base≤g)(hB:Blk w g e cur)(hn:n≤c)(hm:c≤maxLen)(hs:off+c*sz≤cur.size)(ht:(cur.toList.drop off).take (n*sz)=xs)(hk:k<n)(hz:zs.length=sz): Row ((w.setCells g (off+k*sz) (xs.drop ((k+1)*sz))).setCells g (off+(n-1)*sz) zs) base e sz (.slice (some ⟨g,off,none⟩) (n-1) c) (n-1) (xs.take (k*sz)++xs.drop ((k+1)*sz)):=by
 have hkn:(k+1)*sz≤n*sz:=Nat.mul_le_mul_right _ hk;have hk1:(k+1)*sz=k*sz+sz:=Nat.succ_mul k sz;have hn1:(n-1)*sz+sz=n*sz:=by rw[←Nat.succ_mul,show(n-1).succ=n by omega]
 have hcn:n*sz≤c*sz:=Nat.mul_le_mul_right _ hn;have hdl:(xs.drop ((k+1)*sz)).length=n*sz-(k+1)*sz:=by rw[List.length_drop,hxl]
 have h2:=nW zs _ _ (off+(n-1)*sz) (nW (xs.drop ((k+1)*sz)) _ _ (off+k*sz) hB);refine⟨by rw[List.length_append,List.length_take,hdl,hxl];omega,.inr ⟨g,off,c,_,rfl,hb,h2,by omega,hm,by rw[fD,fD];exact hs,?_⟩⟩;apply List.ext_getElem?;intro j;rw[List.getElem?_take];by_cases hj:j<(n-1)*sz
 ·rw[if_pos hj,List.getElem?_drop,Array.getElem?_toList,pW _ _ _ _ (by rw[fD,hz];omega),if_neg (by omega),pW _ _ _ _ (by rw[hdl];omega),hdl];by_cases hjk:j<k*sz
  ·rw[if_neg (by omega),List.getElem?_append_left (by rw[List.length_take,hxl];omega),List.getElem?_take,if_pos hjk,←ht,List.getElem?_take,if_pos (by omega),List.getElem?_drop,Array.getElem?_toList]
  ·rw[if_pos ⟨by omega,by omega⟩,List.getElem?_append_right (by rw[List.length_take,hxl];omega),List.length_take,hxl];congr 1;omega
 ·rw[if_neg hj,List.getElem?_eq_none (by rw[List.length_append,List.length_take,hdl,hxl];omega)]
theorem rI{α:Type}{f:α→List Value}{sz:Nat}(hf:∀x,(f x).length=sz):∀(l:List α) (k:Nat),(aN f l).take (k*sz)=aN f (l.take k)
 |[],k=>by simp[aN]
 |x::l,0=>by simp[aN]
 |x::l,k+1=>by
  have ih:=rI hf l k;rw[aN]at ih;rw[aN,List.flatMap_cons,List.take_succ_cons,aN,List.flatMap_cons,List.take_append,hf,List.take_of_length_le (by rw[hf,Nat.succ_mul];omega),show(k+1)*sz-sz=k*sz by rw[Nat.succ_mul];omega,ih,aN]
theorem rJ{α:Type}{f:α→List Value}{sz:Nat}(hf:∀x,(f x).length=sz):∀(l:List α) (k:Nat),(aN f l).drop (k*sz)=aN f (l.drop k)
 |[],k=>by simp[aN]
 |x::l,0=>by simp[aN]
 |x::l,k+1=>by
  have ih:=rJ hf l k;rw[aN]at ih;rw[aN,List.flatMap_cons,List.drop_succ_cons,List.drop_append,hf,List.drop_of_length_le (by rw[hf,Nat.succ_mul];omega),show(k+1)*sz-sz=k*sz by rw[Nat.succ_mul];omega,ih,List.nil_append]
theorem yK{α:Type}{f:α→List Value}{sz:Nat}(hf:∀x,(f x).length=sz)(l:List α)(k:Nat):(aN f l).take (k*sz)++(aN f l).drop ((k+1)*sz)=aN f (l.eraseIdx k):=by
 rw[rI hf,rJ hf,List.eraseIdx_eq_take_drop_succ,aN,aN,aN,List.flatMap_append]
theorem aFp:(Tryz.prog.info? 134).map (fun i=>(i.zero,i.size,i.bytes))=some (some (.agg #[.string ⟨#[]⟩,.string ⟨#[]⟩,.string ⟨#[]⟩,.bool false,.bool false]),5,56):=by kernel_rfl
theorem aUp(A:Option Addr)(n c k:Nat)(xs:List Value)(w:World)(base:Nat)(hr:Row w base 134 5 (.slice A n c) n xs)(h1:∀u∈xs,u.oneCell'=true)(hk:k<n)(hn:n≤1000000)(_hb:base≤w.heap.size): Calls Tryz.prog 80 #[.slice A n c,I k,I ((k+1:Nat):Int)] w fun e w'=>e= .returned (.slice A (n-1) c)∧Row w' base 134 5 (.slice A (n-1) c) (n-1) (xs.take (k*5)++xs.drop ((k+1)*5))∧Below base w w'∧(∀b,(∀o,A≠some ⟨b,o,none⟩)→w'.heap[b]?=w.heap[b]?)∧w'.heap.size=w.heap.size:=by
 obtain⟨hxl,hr2⟩:=hr;obtain⟨g,off,cap,cur,hv,hbg,hB,hnc,hm,hs,ht⟩:=hr2.resolve_left (fun q=>by omega);injection hv with hA _ hc;subst hA hc;obtain⟨i0,hi0,hz0,hz1,hz2⟩:=info_parts aFp;have hdr:Blk w.drew g 134 cur:=hB;have HRD:=aH (aKp (zs:=[.string ⟨#[]⟩,.string ⟨#[]⟩,.string ⟨#[]⟩,.bool false,.bool false]) hxl hbg hdr hnc hm hs ht hk rfl);have hm2:c≤9223372036854775807:=by unfold maxLen at hm;omega
 have hd:=(Below.refl base w).drew;have HBL:=aH (jU hbg [.string ⟨#[]⟩,.string ⟨#[]⟩,.string ⟨#[]⟩,.bool false,.bool false] _ _ (off+(n-1)*5) (jU hbg (xs.drop ((k+1)*5)) _ _ (off+k*5) hd));have HSH:=aH (show(∀b,¬g=b→((w.drew.setCells g (off+k*5) (xs.drop ((k+1)*5))).setCells g (off+(n-1)*5) [.string ⟨#[]⟩,.string ⟨#[]⟩,.string ⟨#[]⟩,.bool false,.bool false]).heap[b]?=w.heap[b]?)∧((w.drew.setCells g (off+k*5) (xs.drop ((k+1)*5))).setCells g (off+(n-1)*5) [.string ⟨#[]⟩,.string ⟨#[]⟩,.string ⟨#[]⟩,.bool false,.bool false]).heap.size=w.heap.size from⟨fun b hb=>by
  have hbg:b≠g:=fun e=>hb e.symm;rw[lL hbg,lL hbg];rfl,by rw[lM,lM];rfl⟩)
 obtain⟨news,hnews⟩:∃news,xs.drop ((k+1)*5)=news:=⟨_,rfl⟩;have hnl:news.length=(n-(k+1))*5:=by rw[←hnews,List.length_drop,hxl];omega
 have hat:∀t u,news[t]?=some u→w.drew.cell? ⟨g,off+(k+1)*5+t,none⟩=some u:=by
  intro t u hu;rw[←hnews,List.getElem?_drop,←ht,List.getElem?_take]at hu;split at hu
  ·rw[List.getElem?_drop,Array.getElem?_toList]at hu;rw[show w.drew.cell? ⟨g,off+(k+1)*5+t,none⟩=w.cell? ⟨g,off+(k+1)*5+t,none⟩from rfl,hB.cell,show off+(k+1)*5+t=off+((k+1)*5+t) by omega];exact hu
  ·cases hu
 have hspare:∀j,j<news.length→(w.drew.cell? ⟨g,off+k*5+j,none⟩).isSome=true∧w.drew.frozen? ⟨g,off+k*5+j,none⟩=false:=by
  intro j hj;refine⟨?_,hdr.frozen _⟩;rw[hdr.cell,Array.getElem?_eq_getElem (by omega)];rfl
 have h1n:∀u∈news,u.oneCell'=true:=fun u hu=>h1 u (List.mem_of_mem_drop (hnews▸hu));obtain⟨Ad,hAd,hsrc⟩:∃Ad:Addr,(if c=k+1 then(some ⟨g,off,none⟩:Option Addr)else some ⟨g,off+(k+1)*5,none⟩)=some Ad∧∀t u,news[t]?=some u→w.drew.cell? (Ad.add t)=some u:=by
  by_cases h:c=k+1
  ·refine⟨⟨g,off,none⟩,if_pos h,fun t u hu=>?_⟩;have h0:news.length=0:=by rw[hnl,show n-(k+1)=0 by omega]
   rw[List.length_eq_zero_iff.1 h0]at hu;simp at hu
  ·exact⟨⟨g,off+(k+1)*5,none⟩,if_neg h,fun t u hu=>by rw[Addr.add_lit];exact hat t u hu⟩
 have HB1:=aH (nW news _ _ (off+k*5) hdr);have hcs:off+(n-1)*5+5≤cur.size:=by omega
 have HCL:=aH (fun ty=>tL (P:=Tryz.prog) (w.drew.setCells g (off+k*5) news) 23 134 ty (.agg #[.string ⟨#[]⟩,.string ⟨#[]⟩,.string ⟨#[]⟩,.bool false,.bool false]) Tryz.underlying23 Tryz.zeroValue134 [.string ⟨#[]⟩,.string ⟨#[]⟩,.string ⟨#[]⟩,.bool false,.bool false] g (off+(n-1)*5) 1 (c-(n-1)) (by decide) (by kernel_rfl) (by simp[Value.oneCell']) (fun j hj=>by
  have hj2:j<5:=hj;rw[HB1.out.cell,Array.getElem?_eq_getElem (by rw[fD];omega)];rfl) (fun j _=>HB1.out.frozen _))
 rw[hnews]at HRD HBL HSH⊢;have S1:=aH hnl;have S2:=aH hsrc;have S3:=aH h1n;have S4:=aH hspare;obtain⟨j,hj⟩:∃j,k+1=j:=⟨_,rfl⟩;have HJ:=aH hj;rw[hj]at hAd S1⊢;have hkc:k≤c:=by omega
 have hjc:j≤c:=by omega
 have hjn:j≤n:=by omega
 have hkj:k≤j:=by omega
 have hne:((k:Int)==(j:Int))=false:=by rw[beq_eq_false_iff_ne];omega
 have hnj:k+(n-j)=n-1:=by omega
 have HNJ:=aH hnj;have hn1:n-1≤n:=by omega
 have hn2:n-(n-1)=1:=by omega
 have hcn1:¬c=n-1:=by omega
 have HN2:=aH hn2;clear hxl hr2 hB hdr hs ht hnl hat hspare h1n hd hnews hsrc HB1 h1 hj hnj hn2;by_cases hce:c=j
 ·rw[if_pos hce]at hAd;obtain rfl:j=c:=hce.symm;have hnk:n-1=k:=by have:=HJ.out;omega
  rw[hnk]at HRD HBL HSH HCL HN2⊢;have hnj0:n-j=0:=by omega
  have S1b:=aH (show news.length=0*5 by rw[S1.out,hnj0]);clear hnk hnj0 hn1 hcn1;injection hAd with hAd;subst hAd;go_enter Tryz.func80,Tryz.ntmps80;go_upto_region 5 with(fail)
  go_region_law ((refine step_append_room (by rfl) (.tmp 22) (.tmp 25) 23 (by rfl) 134 i0 5 Tryz.underlying23 hi0 hz1 g off k j (by kernel_rfl) _ 0 0 news (by kernel_rfl) S1b.out S2.out S3.out (by omega) S4.out ?_));simp only[Act.put,List.getElem_toArray,List.getElem_cons_succ,List.getElem_cons_zero,List.setIfInBounds_toArray,List.set_cons_zero];have hcl:=HCL.out;have hcl:=HCL.out;rw[←HN2.out]at hcl;generalize w.drew.setCells g (off+k*5) news=W1 at*;go_wp2;go_ret;exact⟨rfl,HRD.out,HBL.out,HSH.out⟩
 ·rw[if_neg hce]at hAd;injection hAd with hAd;subst hAd;go_enter Tryz.func80,Tryz.ntmps80;go_upto_region 5 with(fail)
  go_region_law ((refine step_append_room (by rfl) (.tmp 22) (.tmp 25) 23 (by rfl) 134 i0 5 Tryz.underlying23 hi0 hz1 g off k c (by kernel_rfl) _ (n-j) (c-j) news (by kernel_rfl) S1.out S2.out S3.out (by omega) S4.out ?_));rw[HNJ.out];simp only[Act.put,List.getElem_toArray,List.getElem_cons_succ,List.getElem_cons_zero,List.setIfInBounds_toArray,List.set_cons_zero];have hcl:∀ty,(Builtin.clear_ #[23] ty #[.slice (some ⟨g,off+(n-1)*5,none⟩) (n-(n-1)) (c-(n-1))]).run Tryz.prog (w.drew.setCells g (off+k*5) news)= .ok (.tuple #[]) ((w.drew.setCells g (off+k*5) news).setCells g (off+(n-1)*5) [.string ⟨#[]⟩,.string ⟨#[]⟩,.string ⟨#[]⟩,.bool false,.bool false]):=by
   intro ty;rw[HN2.out];exact HCL.out ty
  generalize w.drew.setCells g (off+k*5) news=W1 at*;go_wp2;go_ret;exact⟨rfl,HRD.out,HBL.out,HSH.out⟩
theorem aFq:(Tryz.prog.info? 41).map (fun i=>(i.zero,i.size,i.bytes))=some (some (.agg #[.string ⟨#[]⟩,.string ⟨#[]⟩,.string ⟨#[]⟩,.int .i64 0,.int .i64 0,.int .i64 0,.int .i64 0,.int .i64 0,.int .i64 0]),9,96):=by kernel_rfl
theorem pG(A:Option Addr)(n c k:Nat)(xs:List Value)(w:World)(base:Nat)(hr:Row w base 41 9 (.slice A n c) n xs)(h1:∀u∈xs,u.oneCell'=true)(hk:k<n)(hn:n≤1000000)(_hb:base≤w.heap.size): Calls Tryz.prog 81 #[.slice A n c,I k,I ((k+1:Nat):Int)] w fun e w'=>e= .returned (.slice A (n-1) c)∧Row w' base 41 9 (.slice A (n-1) c) (n-1) (xs.take (k*9)++xs.drop ((k+1)*9))∧Below base w w'∧(∀b,(∀o,A≠some ⟨b,o,none⟩)→w'.heap[b]?=w.heap[b]?)∧w'.heap.size=w.heap.size:=by
 obtain⟨hxl,hr2⟩:=hr;obtain⟨g,off,cap,cur,hv,hbg,hB,hnc,hm,hs,ht⟩:=hr2.resolve_left (fun q=>by omega);injection hv with hA _ hc;subst hA hc;obtain⟨i0,hi0,hz0,hz1,hz2⟩:=info_parts aFq;have hdr:Blk w.drew g 41 cur:=hB;have HRD:=aH (aKp (zs:=[.string ⟨#[]⟩,.string ⟨#[]⟩,.string ⟨#[]⟩,.int .i64 0,.int .i64 0,.int .i64 0,.int .i64 0,.int .i64 0,.int .i64 0]) hxl hbg hdr hnc hm hs ht hk rfl);have hm2:c≤9223372036854775807:=by unfold maxLen at hm;omega
 have hd:=(Below.refl base w).drew;have HBL:=aH (jU hbg [.string ⟨#[]⟩,.string ⟨#[]⟩,.string ⟨#[]⟩,.int .i64 0,.int .i64 0,.int .i64 0,.int .i64 0,.int .i64 0,.int .i64 0] _ _ (off+(n-1)*9) (jU hbg (xs.drop ((k+1)*9)) _ _ (off+k*9) hd));have HSH:=aH (show(∀b,¬g=b→((w.drew.setCells g (off+k*9) (xs.drop ((k+1)*9))).setCells g (off+(n-1)*9) [.string ⟨#[]⟩,.string ⟨#[]⟩,.string ⟨#[]⟩,.int .i64 0,.int .i64 0,.int .i64 0,.int .i64 0,.int .i64 0,.int .i64 0]).heap[b]?=w.heap[b]?)∧((w.drew.setCells g (off+k*9) (xs.drop ((k+1)*9))).setCells g (off+(n-1)*9) [.string ⟨#[]⟩,.string ⟨#[]⟩,.string ⟨#[]⟩,.int .i64 0,.int .i64 0,.int .i64 0,.int .i64 0,.int .i64 0,.int .i64 0]).heap.size=w.heap.size from⟨fun b hb=>by
  have hbg:b≠g:=fun e=>hb e.symm;rw[lL hbg,lL hbg];rfl,by rw[lM,lM];rfl⟩)
 obtain⟨news,hnews⟩:∃news,xs.drop ((k+1)*9)=news:=⟨_,rfl⟩;have hnl:news.length=(n-(k+1))*9:=by rw[←hnews,List.length_drop,hxl];omega
 have hat:∀t u,news[t]?=some u→w.drew.cell? ⟨g,off+(k+1)*9+t,none⟩=some u:=by
  intro t u hu;rw[←hnews,List.getElem?_drop,←ht,List.getElem?_take]at hu;split at hu
  ·rw[List.getElem?_drop,Array.getElem?_toList]at hu;rw[show w.drew.cell? ⟨g,off+(k+1)*9+t,none⟩=w.cell? ⟨g,off+(k+1)*9+t,none⟩from rfl,hB.cell,show off+(k+1)*9+t=off+((k+1)*9+t) by omega];exact hu
  ·cases hu
 have hspare:∀j,j<news.length→(w.drew.cell? ⟨g,off+k*9+j,none⟩).isSome=true∧w.drew.frozen? ⟨g,off+k*9+j,none⟩=false:=by
  intro j hj;refine⟨?_,hdr.frozen _⟩;rw[hdr.cell,Array.getElem?_eq_getElem (by omega)];rfl
 have h1n:∀u∈news,u.oneCell'=true:=fun u hu=>h1 u (List.mem_of_mem_drop (hnews▸hu));obtain⟨Ad,hAd,hsrc⟩:∃Ad:Addr,(if c=k+1 then(some ⟨g,off,none⟩:Option Addr)else some ⟨g,off+(k+1)*9,none⟩)=some Ad∧∀t u,news[t]?=some u→w.drew.cell? (Ad.add t)=some u:=by
  by_cases h:c=k+1
  ·refine⟨⟨g,off,none⟩,if_pos h,fun t u hu=>?_⟩;have h0:news.length=0:=by rw[hnl,show n-(k+1)=0 by omega]
   rw[List.length_eq_zero_iff.1 h0]at hu;simp at hu
  ·exact⟨⟨g,off+(k+1)*9,none⟩,if_neg h,fun t u hu=>by rw[Addr.add_lit];exact hat t u hu⟩
 have HB1:=aH (nW news _ _ (off+k*9) hdr);have hcs:off+(n-1)*9+9≤cur.size:=by omega
 have HCL:=aH (fun ty=>tL (P:=Tryz.prog) (w.drew.setCells g (off+k*9) news) 24 41 ty (.agg #[.string ⟨#[]⟩,.string ⟨#[]⟩,.string ⟨#[]⟩,.int .i64 0,.int .i64 0,.int .i64 0,.int .i64 0,.int .i64 0,.int .i64 0]) Tryz.underlying24 Tryz.zeroValue41 [.string ⟨#[]⟩,.string ⟨#[]⟩,.string ⟨#[]⟩,.int .i64 0,.int .i64 0,.int .i64 0,.int .i64 0,.int .i64 0,.int .i64 0] g (off+(n-1)*9) 1 (c-(n-1)) (by decide) (by kernel_rfl) (by simp[Value.oneCell']) (fun j hj=>by
  have hj2:j<9:=hj;rw[HB1.out.cell,Array.getElem?_eq_getElem (by rw[fD];omega)];rfl) (fun j _=>HB1.out.frozen _))
 rw[hnews]at HRD HBL HSH⊢;have S1:=aH hnl;have S2:=aH hsrc;have S3:=aH h1n;have S4:=aH hspare;obtain⟨j,hj⟩:∃j,k+1=j:=⟨_,rfl⟩;have HJ:=aH hj;rw[hj]at hAd S1⊢;have hkc:k≤c:=by omega
 have hjc:j≤c:=by omega
 have hjn:j≤n:=by omega
 have hkj:k≤j:=by omega
 have hne:((k:Int)==(j:Int))=false:=by rw[beq_eq_false_iff_ne];omega
 have hnj:k+(n-j)=n-1:=by omega
 have HNJ:=aH hnj;have hn1:n-1≤n:=by omega
 have hn2:n-(n-1)=1:=by omega
 have hcn1:¬c=n-1:=by omega
 have HN2:=aH hn2;clear hxl hr2 hB hdr hs ht hnl hat hspare h1n hd hnews hsrc HB1 h1 hj hnj hn2;by_cases hce:c=j
 ·rw[if_pos hce]at hAd;obtain rfl:j=c:=hce.symm;have hnk:n-1=k:=by have:=HJ.out;omega
  rw[hnk]at HRD HBL HSH HCL HN2⊢;have hnj0:n-j=0:=by omega
  have S1b:=aH (show news.length=0*9 by rw[S1.out,hnj0]);clear hnk hnj0 hn1 hcn1;injection hAd with hAd;subst hAd;go_enter Tryz.func81,Tryz.ntmps81;go_upto_region 5 with(fail)
  go_region_law ((refine step_append_room (by rfl) (.tmp 22) (.tmp 25) 24 (by rfl) 41 i0 9 Tryz.underlying24 hi0 hz1 g off k j (by kernel_rfl) _ 0 0 news (by kernel_rfl) S1b.out S2.out S3.out (by omega) S4.out ?_));simp only[Act.put,List.getElem_toArray,List.getElem_cons_succ,List.getElem_cons_zero,List.setIfInBounds_toArray,List.set_cons_zero];have hcl:=HCL.out;have hcl:=HCL.out;rw[←HN2.out]at hcl;generalize w.drew.setCells g (off+k*9) news=W1 at*;go_wp2;go_ret;exact⟨rfl,HRD.out,HBL.out,HSH.out⟩
 ·rw[if_neg hce]at hAd;injection hAd with hAd;subst hAd;go_enter Tryz.func81,Tryz.ntmps81;go_upto_region 5 with(fail)
  go_region_law ((refine step_append_room (by rfl) (.tmp 22) (.tmp 25) 24 (by rfl) 41 i0 9 Tryz.underlying24 hi0 hz1 g off k c (by kernel_rfl) _ (n-j) (c-j) news (by kernel_rfl) S1.out S2.out S3.out (by omega) S4.out ?_));rw[HNJ.out];simp only[Act.put,List.getElem_toArray,List.getElem_cons_succ,List.getElem_cons_zero,List.setIfInBounds_toArray,List.set_cons_zero];have hcl:∀ty,(Builtin.clear_ #[24] ty #[.slice (some ⟨g,off+(n-1)*9,none⟩) (n-(n-1)) (c-(n-1))]).run Tryz.prog (w.drew.setCells g (off+k*9) news)= .ok (.tuple #[]) ((w.drew.setCells g (off+k*9) news).setCells g (off+(n-1)*9) [.string ⟨#[]⟩,.string ⟨#[]⟩,.string ⟨#[]⟩,.int .i64 0,.int .i64 0,.int .i64 0,.int .i64 0,.int .i64 0,.int .i64 0]):=by
   intro ty;rw[HN2.out];exact HCL.out ty
  generalize w.drew.setCells g (off+k*9) news=W1 at*;go_wp2;go_ret;exact⟨rfl,HRD.out,HBL.out,HSH.out⟩
end
section
theorem aNx{nodes seen:List ByteArray}{name:ByteArray}{ends:List ByteArray}(h1:dV name=true)(h2:name∉seen)(h3:∀e∈ends,e∈nodes)(h4:fB ends=false):aW nodes seen name ends=(0,name::seen):=by
 have h3':(ends.all fun e=>Lib.containsS nodes e)=true:=List.all_eq_true.2 fun e he=>(Lib.containsS_iff _ _).2 (h3 e he);rw[aW,if_neg (by simp[h1]),if_neg (fun k=>h2 ((Lib.containsS_iff _ _).1 k)),if_neg (by rw[h3'];decide),if_neg (by rw[h4];decide)]
theorem aKq{nodes:List ByteArray}:∀{items:List aZe} {seen:List ByteArray},(∀it∈items,dV it.1=true∧it.1∉seen∧(∀e∈it.2.1,e∈nodes)∧fB it.2.1=false∧it.2.2=true)→(items.map (·.1)).Nodup→gW nodes items seen=0
 |[],_,_,_=>rfl
 |(name,ends,ok)::rest,seen,h,hn=>by
  obtain⟨k1,k2,k3,k4,k5⟩:=h _ List.mem_cons_self;simp only at k1 k2 k3 k4 k5;rw[gW,aNx k1 k2 k3 k4,if_pos rfl,if_pos k5];rw[List.map_cons,List.nodup_cons]at hn;refine aKq (fun it hit=>?_) hn.2;obtain⟨j1,j2,j3⟩:=h it (List.mem_cons_of_mem _ hit);refine⟨j1,fun hm=>?_,j3⟩;rcases List.mem_cons.1 hm with e|e
  ·exact hn.1 (List.mem_map.2 ⟨it,hit,e⟩)
  ·exact j2 e
theorem lN{n m:NetD}(h:aX n=0)(h0:m.nodes=n.nodes)(h1:m.switches.Sublist n.switches)(h2:m.branches.Sublist n.branches)(h3:m.gens.Sublist n.gens)(h4:m.loads.Sublist n.loads)(h5:m.stores.Sublist n.stores):aX m=0:=by
 obtain⟨a,b⟩:=tI h;obtain⟨i1,i2⟩:=aBw b;have hs:m.items.Sublist n.items:=by
  rw[NetD.items,NetD.items,h0];exact(List.Sublist.refl _).append ((h1.map _).append ((h2.map _).append ((h3.map _).append ((h4.map _).append (h5.map _)))))
 have l1:=h1.length_le;have l2:=h2.length_le;have l3:=h3.length_le;have l4:=h4.length_le;have l5:=h5.length_le;rw[aX,if_neg (by rw[h0];omega),h0];exact aKq (fun it hit=>i1 it (hs.subset hit)) (List.Pairwise.sublist (hs.map _) i2)
def uO:ByteArray:=⟨#[98,114,97,110,99,104]⟩
def bCb:ByteArray:=⟨#[103,101,110]⟩
def bBn:ByteArray:=⟨#[108,111,97,100]⟩
def aKr(n:NetD)(k:ByteArray)(i:Nat):NetD:=if k=swB then{n with switches:=n.switches.eraseIdx i}
 else if k=uO then{n with branches:=n.branches.eraseIdx i}
 else if k=bCb then{n with gens:=n.gens.eraseIdx i}
 else if k=bBn then{n with loads:=n.loads.eraseIdx i}
 else{n with stores:=n.stores.eraseIdx i}
theorem aIa{n:NetD}(h:aX n=0)(k:ByteArray)(i:Nat):aX (aKr n k i)=0:=by
 have r:∀{α:Type} (l:List α),l.Sublist l:=fun l=>List.Sublist.refl l;rw[aKr];split
 ·exact lN h rfl (List.eraseIdx_sublist ..) (r _) (r _) (r _) (r _)
 ·split
  ·exact lN h rfl (r _) (List.eraseIdx_sublist ..) (r _) (r _) (r _)
  ·split
   ·exact lN h rfl (r _) (r _) (List.eraseIdx_sublist ..) (r _) (r _)
   ·split
    ·exact lN h rfl (r _) (r _) (r _) (List.eraseIdx_sublist ..) (r _)
    ·exact lN h rfl (r _) (r _) (r _) (r _) (List.eraseIdx_sublist ..)
end
section
open Go.RowKit
theorem fE{w:World}{base:Nat}{e:TypeId}{sz n c:Nat}{A:Option Addr}{xs:List Value}(hl:xs.length=n*sz)(h:0<n→Row w base e sz (.slice A n c) n xs):Reads w w.heap.size sz A n xs:=⟨hl,fun hn=>(h hn).reads.2 hn⟩
theorem NetRows.netIn{w:World}{base:Nat}{n:NetD}{v:NetV}(h:NetRows w base n v):NetIn w n v:=⟨fE (by simp) h.r0,fE (dY (f:=SwitchD.cells) (sz:=5) (fun _=>rfl) _) h.r1,fE (dY (f:=BranchD.cells) (sz:=9) (fun _=>rfl) _) h.r2,fE (dY (f:=GenD.cells) (sz:=5) (fun _=>rfl) _) h.r3,fE (dY (f:=LoadD.cells) (sz:=3) (fun _=>rfl) _) h.r4,fE (dY (f:=StoreD.cells) (sz:=5) (fun _=>rfl) _) h.r5⟩
theorem NetRows.keep{w w':World}{base:Nat}{n:NetD}{v:NetV}(h:NetRows w base n v)(hk:∀g,base≤g→g<w.heap.size→w'.heap[g]?=w.heap[g]?):NetRows w' base n v:=⟨fun q=>(h.r0 q).keep hk,fun q=>(h.r1 q).keep hk,fun q=>(h.r2 q).keep hk,fun q=>(h.r3 q).keep hk,fun q=>(h.r4 q).keep hk,fun q=>(h.r5 q).keep hk⟩
theorem Row.setNet{w:World}{base b:Nat}{e t:TypeId}{sz n:Nat}{v:Value}{xs:List Value}{cs:Array Value}(h:Row w base e sz v n xs)(hB:Blk w b t cs)(hne:e≠t)(i:Nat)(u:Value):Row (w.setCell ⟨b,i,none⟩ u) base e sz v n xs:=h.set_away (h.ne_blk hB hne) u
theorem NetRows.setNet{w:World}{base b:Nat}{n:NetD}{v:NetV}{cs:Array Value}(h:NetRows w base n v)(hB:Blk w b 29 cs)(i:Nat)(u:Value):NetRows (w.setCell ⟨b,i,none⟩ u) base n v:=⟨fun q=>(h.r0 q).setNet hB (by decide) i u,fun q=>(h.r1 q).setNet hB (by decide) i u,fun q=>(h.r2 q).setNet hB (by decide) i u,fun q=>(h.r3 q).setNet hB (by decide) i u,fun q=>(h.r4 q).setNet hB (by decide) i u,fun q=>(h.r5 q).setNet hB (by decide) i u⟩
theorem Row.other{w w':World}{base base':Nat}{e e':TypeId}{sz sz' n n' c':Nat}{A:Option Addr}{v:Value}{xs xs':List Value}(h:Row w base e sz v n xs)(h':Row w base' e' sz' (.slice A n' c') n' xs')(hn':0<n')(hne:e≠e')(hk:∀b,(∀o,A≠some ⟨b,o,none⟩)→w'.heap[b]?=w.heap[b]?):Row w' base e sz v n xs:=by
 obtain⟨g',off',cap',cur',hv',_,hh',_⟩:=h'.form hn';injection hv' with hA;obtain⟨h1,h2⟩:=h;refine⟨h1,h2.imp id ?_⟩;rintro⟨g,off,cap,cur,rfl,hb,hh,r⟩;refine⟨g,off,cap,cur,rfl,hb,?_,r⟩;unfold Blk at hh hh'⊢;rw[hk g ?_]
 ·exact hh
 ·intro o ho;rw[hA]at ho;injection ho with ho;injection ho with ho;subst ho;rw[hh]at hh';injection hh' with hh';injection hh' with _ hh';exact hne hh'
theorem Row.blk_lt{w:World}{base:Nat}{e:TypeId}{sz n c:Nat}{A:Option Addr}{xs:List Value}(h:Row w base e sz (.slice A n c) n xs)(hn:0<n){b:Nat}(hb:w.heap.size≤b):∀o,A≠some ⟨b,o,none⟩:=by
 obtain⟨g,off,cap,cur,hv,_,hh,_⟩:=h.form hn;injection hv with hA;intro o ho;rw[hA]at ho;injection ho with ho;injection ho with ho;have:=hh.lt;omega
theorem aKs{w w':World}{base:Nat}{n:NetD}{v:NetV}(h:NetRows w base n v){k:Nat}(hk1:k<n.branches.length) (hd:Row w' base 41 9 (.slice v.ba (n.branches.length-1) v.bc) (n.branches.length-1) ((aN BranchD.cells n.branches).take (k*9)++(aN BranchD.cells n.branches).drop ((k+1)*9)))
  (hk:∀b,(∀o,v.ba≠some ⟨b,o,none⟩)→w'.heap[b]?=w.heap[b]?):NetRows w' base (aKr n uO k) v:=by
 have hp:0<n.branches.length:=by omega
 rw[yK (f:=BranchD.cells) (sz:=9) (fun _=>rfl),←List.length_eraseIdx_of_lt hk1]at hd;rw[show aKr n uO k={n with branches:=n.branches.eraseIdx k}from rfl];exact⟨fun q=>(h.r0 q).other (h.r2 hp) hp (by decide) hk,fun q=>(h.r1 q).other (h.r2 hp) hp (by decide) hk,fun _=>hd,fun q=>(h.r3 q).other (h.r2 hp) hp (by decide) hk,fun q=>(h.r4 q).other (h.r2 hp) hp (by decide) hk,fun q=>(h.r5 q).other (h.r2 hp) hp (by decide) hk⟩
def mR(k:Rat)(l:List Rat):List Rat:=l.map fun x=>k*x
theorem aXi(k:Rat)(l:List Rat)(j:Nat):(mR k l).getD j 0=k*l.getD j 0:=by
 unfold mR;rw[gD,List.getElem?_map,gD];cases l[j]? with
 |none=>show(0:Rat)=k*0;grind
 |some x=>rfl
theorem aTr{x y:List Rat}(hx:x.all bK=true)(hy:y.all bK=true)(hl:x.length=y.length)(h40:x.length≤40)(hz:(mL x y).all bK=true): rA [x.map aQ] [y.map aQ]=([(mL x y).map aQ],0):=by
 obtain⟨cx,vx⟩:=xG hx h40;obtain⟨cy,vy⟩:=xG hy (by omega);have h1:∀{z:List Rat},jV (z.map aQ)=0→dC [z.map aQ]=0:=fun{z} h=>by
  rw[dC,if_neg (by simp),qZ,wd,if_neg (fun k=>k rfl),if_neg (fun k=>k h),qZ]
 unfold rA yI;rw[if_neg (fun k=>k (h1 cx)),if_neg (fun k=>k (h1 cy)),if_neg (by simp[wd,hl]),bZ,bZ,List.map_cons,List.map_nil,List.map_cons,List.map_nil,vx,vy];show txM [mL x y]=_;unfold txM;rw[if_pos (by simpa using hz)];rfl
theorem aIb{w:World}{base:Nat}{A:Option Addr}{n c:Nat}{l:List ByteArray}(h:Row w base 51 1 (.slice A n c) n (l.map Sv)):SS w (.slice A n c) l:=by
 have hl:l.length=n:=by have:=h.1;simpa using this
 subst hl;exact⟨A,c,rfl,h.reads.more lR⟩
theorem xM{w:World}{g:Nat}{t:TypeId}{u:Value}{l:List ByteArray}(hB:Blk w g t #[u])(h:SS w u l):SMat w (some ⟨g,0,none⟩) 1 [l]:=by
 refine⟨[u],bN (n:=1) (sz:=1) hB rfl,rfl,fun i x y h1 h2=>?_⟩;cases i with
 |zero=>
  obtain rfl:u=x:=by simpa using h1
  obtain rfl:l=y:=by simpa using h2
  exact h
 |succ i=>simp at h1
theorem aKt{m:List (List ByteArray)}{L:List (List UInt8)}(h:tx2 m=[L]):m=[mkS L]:=by
 cases m with
 |nil=>simp[tx2]at h
 |cons x m=>
  simp only[tx2,List.map_cons,List.cons.injEq,List.map_eq_nil_iff]at h;obtain⟨h1,rfl⟩:=h;rw[aBf (h1.trans (zX L).symm)]
theorem aIc{x y:List Rat}(hx:x.all bK=true)(hy:y.all bK=true)(hl:x.length=y.length)(h40:x.length≤40)(hz:(mL x y).all bK=true)(A B:Option Addr)(ca cb:Nat)(w:World)(ha:SMat w A 1 [mkS (x.map aQ)])(hb:SMat w B 1 [mkS (y.map aQ)])(htab:Tab w): Calls Tryz.prog 44 #[.slice A 1 ca,.slice B 1 cb] w fun e w'=>∃C c,e= .returned (.tuple #[.slice C 1 c,I 0])∧SMat w' C 1 [mkS ((mL x y).map aQ)]∧Below w.heap.size w w':=by
 have h:=aOt [mkS (x.map aQ)] 1 A ca [mkS (y.map aQ)] 1 B cb w ha (fun l hl=>by rw[List.mem_singleton.1 hl];exact aKd hx) hb (fun l hl=>by rw[List.mem_singleton.1 hl];exact aKd hy) htab;have e:rA (tx2 [mkS (x.map aQ)]) (tx2 [mkS (y.map aQ)])=([(mL x y).map aQ],0):=by
  rw[←aTr hx hy hl h40 hz];simp only[tx2,List.map_cons,List.map_nil,zX]
 rw[e]at h;refine h.mono fun e w' hh=>?_;obtain⟨C,n,c,m,h1,h2,h3,_,h5⟩:=hh;obtain rfl:=aKt h3;have hn:n=1:=by
  obtain⟨_,_,h6,_⟩:=h2;exact h6.symm
 subst hn;exact⟨C,c,h1,h2,h5⟩
theorem aXj{x:List Rat}{r:List UInt8}(hx:x.all bK=true)(h40:x.length≤40)(hr:dU r=0)(hz:(mR (fM r) x).all bK=true):scM [x.map aQ] r=([(mR (fM r) x).map aQ],0):=by
 obtain⟨cx,vx⟩:=xG hx h40;have h1:∀{z:List Rat},jV (z.map aQ)=0→dC [z.map aQ]=0:=fun{z} h=>by
  rw[dC,if_neg (by simp),qZ,wd,if_neg (fun k=>k rfl),if_neg (fun k=>k h),qZ]
 unfold scM yI;rw[if_neg (fun k=>k (h1 cx)),if_neg (fun k=>k hr),bZ,List.map_cons,List.map_nil,vx];have e:scQ [x] (fM r)=[mR (fM r) x]:=by
  simp only[scQ,mR,List.map_cons,List.map_nil,Rat.mul_comm]
 rw[e];unfold txM;rw[if_pos (by simpa using hz)];rfl
theorem aId{x:List Rat}(hx:x.all bK=true)(h40:x.length≤40)(b:ByteArray)(hb:dU (SL b)=0)(sb:b.size≤9223372036854775807)(hz:(mR (fM (SL b)) x).all bK=true)(A:Option Addr)(ca:Nat)(w:World)(ha:SMat w A 1 [mkS (x.map aQ)])(htab:Tab w): Calls Tryz.prog 47 #[.slice A 1 ca,.string b] w fun e w'=>∃C c,e= .returned (.tuple #[.slice C 1 c,I 0])∧SMat w' C 1 [mkS ((mR (fM (SL b)) x).map aQ)]∧Below w.heap.size w w':=by
 have h:=aUz [mkS (x.map aQ)] 1 A ca b w ha (fun l hl=>by rw[List.mem_singleton.1 hl];exact aKd hx) sb htab;have e:scM (tx2 [mkS (x.map aQ)]) (SL b)=([(mR (fM (SL b)) x).map aQ],0):=by
  rw[←aXj hx h40 hb hz];simp only[tx2,List.map_cons,List.map_nil,zX]
 rw[e]at h;refine h.mono fun e w' hh=>?_;obtain⟨C,n,c,m,h1,h2,h3,_,h5⟩:=hh;obtain rfl:=aKt h3;have hn:n=1:=by
  obtain⟨_,_,h6,_⟩:=h2;exact h6.symm
 subst hn;exact⟨C,c,h1,h2,h5⟩
end
end Go.Proofs.YtenbglfkdldheaaGreatDoor
