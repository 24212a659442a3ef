/- lin.Copy. Rows of values that are no words, that the call owns: appends to them; matrices beside them. Rows that change places in a matrix; matrices and rows of ints beside each other. -/
import Derived.Test.YtenbglfkdldheaaGreatDoorUU
import Derived.Test.YtenbglfkdldheaaGreatDoorUSA
set_option maxRecDepth 100000
set_option maxHeartbeats 1000000
namespace Go.Proofs.YtenbglfkdldheaaGreatDoor
open Go.RowKit
theorem nT{w:World}{ops:Array Oper}{rest:List Oper}{o:Oper}{a:Act}{Q:Exit→Act→World→Prop}(hgd:o.guard=none)(s x:Operand) (ho:o.op= .call {callee:= .builtin .append,args:=#[s,x],argTypes:=#[bW,bW]})(base:Nat)(v:Value)(qs:List Rat)(hsv:a.eval s=v)(hr:RRow w base v qs)
  (B:Option Addr)(m c:Nat)(hx:a.eval x= .slice B m c){rs:List Rat}(hq:RV w B m rs)(hl:qs.length+m≤1000000)(hbase:base≤w.heap.size)
  (h:∀v' w',Apd w base v (qs++rs) v' w'→wpList Tryz.prog ops Q rest (a.put o.dst v') w'):wpList Tryz.prog ops Q (o::rest) a w:=by
 refine wpList_plain hgd fun K hK=>?_;obtain⟨i,hi,hz0,hz1,hz2⟩:=info_parts lD;obtain⟨news,hs,hn⟩:=hq;obtain⟨v',w',hrun,hap⟩:=fR (P:=Tryz.prog) w base bW o.type i _ 64 Tryz.underlying111 hi hz0 hz1 hz2 rfl v qs hr w.heap.size B m c news rs hs hn (by unfold maxLen;omega) (by omega) hbase;unfold Oper.wp execOp;simp only[ho,resolve,invoke,builtin,Sem.run_bind,Sem.run_pure,Result.andThen_ok,List.map_toArray,List.map_cons,List.map_nil,hsv,hx,hrun];exact hK _ _ (h v' w' hap)
theorem aNq(m:List (List Rat))(n:Nat)(A:Option Addr)(c:Nat)(w:World)(hm:RM w A n m)(hs:∀r∈m,r.length≤1000000)(hn:n≤1000000): Calls Tryz.prog 191 #[.slice A n c] w (aXz w m):=by
 have hvl:m.length=n:=hm.len;have hmk:=nP n (by omega);have HP:=aH (show∃vs,LM (w.alloc (.cells (Array.replicate n (Value.slice none 0 0)) bW)) w.heap.size (.slice (some ⟨w.heap.size,0,none⟩) n n) vs (cF m [] 0 n)from⟨_,by rw[jR];exact LM.start w n (by unfold maxLen;omega)⟩);have HB:=aH ((Below.refl w.heap.size w).alloc lR (.cells (Array.replicate n (Value.slice none 0 0)) bW));have HM:=aH hm;have HS:=aH hs;clear hm hs;unfold bW at hmk;go_enter Tryz.func191,Tryz.ntmps191;go_wp2;clear hmk;go_loopg [11] (n-0) (fun r v wr=>∃k:Nat,r=n-k∧v=I k∧k≤n∧Hid (∃vs,LM wr w.heap.size (.slice (some ⟨w.heap.size,0,none⟩) n n) vs (cF m [] k n))∧Hid (Below w.heap.size w wr));case atStart=>exact⟨0,rfl,rfl,by omega,HP,HB⟩
 case round=>
  clear HP HB;obtain⟨k,rfl,rfl,hk,HP,HB⟩:=hrel;obtain⟨wa,rfl⟩:=wE wr;by_cases hlt:k<n
  ·obtain⟨x,hx⟩:∃x,m[k]?=some x:=⟨_,gE (by omega)⟩;obtain⟨b,off,B,d,rfl,_,hc,hr⟩:=(HM.out.below HB.out).at_ hlt x hx;have HSX:=aH (HS.out x (List.mem_of_getElem? hx));have HX:=aH hx;have HR:=aH hr;clear hx hr;go_wp2_with(at_builtin;refine nT rfl _ _ rfl wa.heap.size (.slice none 0 0) [] rfl (RRow.nil _ _) B x.length d rfl HR.out (by rw[List.length_nil,Nat.zero_add];exact HSX.out) lR ?_);intro v w1 hap;have hb:=hap.below (RRow.nil wa wa.heap.size) lR;have hv:=hap.row;obtain⟨vs,hLM⟩:=HP.out;have hfl:(cF m [] k n).length=n:=lF _ hvl hk;have h1:=hLM.call hb;have hap2:=hLM.newer (u:=v) (fun g hg=>(hv.lt hg).1);obtain⟨g,o2,cap,B2,c2,e2,hg1,hg2,-,hcell,hfz,-⟩:=h1.at_ (i:=k) (by omega);obtain⟨rfl,rfl⟩:=mE e2;clear e2;have h2:=h1.put (i:=k) hfl hlt (hv.less HB.out.size) (fun j u' g' _=>hap2 j u' g');rw[lG _ hvl hlt HX.out,Nat.zero_add]at h2;rw[Nat.zero_add]at hcell hfz;have HN:=aH (show∃vs,LM (w1.setCell ⟨w.heap.size,k,none⟩ v) w.heap.size (.slice (some ⟨w.heap.size,0,none⟩) n n) vs (cF m [] (k+1) n)from⟨_,h2.1⟩);have HB1:=aH ((HB.out.trans (hb.mono HB.out.size)).setCell (p:=⟨w.heap.size,k,none⟩) lR v);obtain⟨Av,cv,rfl⟩:=hv.val;generalize x.length=lx at*;generalize((cF m [] k n).getD k []).length=ln at*;have HVL:=aH hvl;clear hvl;clear h1 h2 hap hap2 hLM HP HB hb HX HR HSX hv hg1 hg2 hc hfl;go_wp2;go_roundg (n-(k+1));case measure=>omega
   case rel=>exact⟨k+1,rfl,by go_num,by omega,HN,HB1⟩
  ·have hkn:k=n:=by omega
   subst hkn;obtain⟨vs,hLM⟩:=HP.out;rw[lE _ hvl]at hLM;have HF:=aH hLM;clear hLM HP;go_wp2;go_ret;exact⟨_,_,rfl,HF.out,HB.out⟩
structure NRow(w:World)(base:Nat)(e:TypeId)(v:Value)(xs:List Value):Prop where
 row:Row w base e 1 v xs.length xs
 nw:∀g o n,v.ownBlock=some g→w.cell? ⟨g,o,none⟩≠some (U n)
 wd:∀u∈xs,noWord u∧u.oneCell'=true
theorem NRow.nil(w:World)(base:Nat)(e:TypeId):NRow w base e (.slice none 0 0) []:=⟨Row.nil _ _ _ _,fun g o n h=>(by cases h),fun u hu=>(by cases hu)⟩
theorem NRow.call{w w':World}{base:Nat}{e:TypeId}{v:Value}{xs:List Value}(h:NRow w base e v xs)(hb:Below w.heap.size w w'):NRow w' base e v xs:=by
 refine⟨h.row.call hb,fun g o n hg=>?_,h.wd⟩;rw[hb.cell (p:=⟨g,o,none⟩) (own_lt h.row hg).2.1];exact h.nw g o n hg
theorem NRow.less{w:World}{base base':Nat}{e:TypeId}{v:Value}{xs:List Value}(h:NRow w base e v xs)(hb:base'≤base):NRow w base' e v xs:=⟨h.row.less hb,h.nw,h.wd⟩
theorem NRow.keep{w w':World}{base:Nat}{e:TypeId}{v:Value}{xs:List Value}(h:NRow w base e v xs)(hk:∀g,v.ownBlock=some g→w'.heap[g]?=w.heap[g]?):NRow w' base e v xs:=by
 refine⟨⟨h.row.1,h.row.2.imp id ?_⟩,fun g o n hg=>?_,h.wd⟩
 ·rintro⟨g,off,cap,cur,hv,hb,hh,r⟩;exact⟨g,off,cap,cur,hv,hb,(hk g (by rw[hv];rfl)).trans hh,r⟩
 ·rw[World.cell?_of_block (a:=⟨g,o,none⟩) (hk g hg)];exact h.nw g o n hg
theorem NRow.val{w:World}{base:Nat}{e:TypeId}{v:Value}{xs:List Value}(h:NRow w base e v xs):∃A c,v= .slice A xs.length c:=h.row.val
theorem NRow.blk{w:World}{base:Nat}{e:TypeId}{v:Value}{xs:List Value}(h:NRow w base e v xs){g:Nat}(hg:v.ownBlock=some g):base≤g∧g<w.heap.size∧∃cur,Blk w g e cur:=own_lt h.row hg
structure NApd(w:World)(base:Nat)(e:TypeId)(v:Value)(xs:List Value)(v':Value)(w':World):Prop where
 row:NRow w' base e v' xs
 kw:Kw w w'
 grown:w.grownBy w' v.ownBlock
 own:∀g,v'.ownBlock=some g→v.ownBlock=some g∨w.heap.size≤g
theorem pF{P:Program}(w:World)(base:Nat)(t ty e:TypeId)(i:TypeInfo)(z:Value)(bytes:Nat)(ht:P.underlying t=some (.slice e))(hi:P.info? e=some i)(hz:i.zero=some z) (hsize:i.size=1)(hby:i.bytes=bytes)(hz1:z.cells.size=1)(hzw:∀n,∀u∈(Builtin.zeroCells z.cells n).toList,noWord u)(v:Value)(xs:List Value)(hr:NRow w base e v xs)
  (B:Nat)(A:Option Addr)(m c:Nat)(news:List Value)(hs:Reads w B 1 A m news)(hl:∀u∈news,noWord u∧u.oneCell'=true)
  (h63:xs.length+m≤maxLen)(hbytes:(xs.length+m)*bytes≤140737488355328)(hbase:base≤w.heap.size):
  ∃v' w',(Builtin.append_ #[t,t] ty #[v,.slice A m c]).run P w= .ok v' w'∧NApd w base e v (xs++news) v' w':=by
 have hrl:news.length=m:=by have:=hs.1;omega
 have h1:∀u∈news,u.oneCell'=true:=fun u hu=>(hl u hu).2;have h1w:∀u∈news,noWord u:=fun u hu=>(hl u hu).1;obtain⟨hrow,hnw,hxs⟩:=id hr;rcases A with _|ad
 ·have hm:m=0:=by
   rcases Nat.eq_zero_or_pos m with h0|h0
   ·exact h0
   ·obtain⟨b,off,h,_⟩:=hs.2 h0;cases h
  have hn:news=[]:=List.eq_nil_of_length_eq_zero (by omega);subst hm hn;exact⟨v,w,eB w base t ty e i ht hi 1 xs.length v xs hrow c,by rw[List.append_nil];exact hr,Kw.refl w,⟨rfl,rfl,rfl,Nat.le_refl _,fun _ _ _=>rfl⟩,fun g h=> .inl h⟩
 ·have hcells:∀j u,news[j]?=some u→w.cell? (ad.add j)=some u:=by
   intro j u hu;rcases Nat.eq_zero_or_pos m with h0|h0
   ·subst h0;have hn:news=[]:=List.eq_nil_of_length_eq_zero (by simpa using hs.1);subst hn;simp at hu
   ·obtain⟨b,off,h,_,hc⟩:=hs.2 h0;injection h with h;subst h;rw[Addr.add_lit];exact hc j u hu
  have hlen:(xs++news).length=(xs++news).length*1:=by omega
  have wda:∀u∈xs++news,noWord u∧u.oneCell'=true:=fun u hu=>(List.mem_append.1 hu).elim (hxs u) (hl u);have hql:(xs++news).length=xs.length+m:=by rw[List.length_append,hrl]
  have fresh:∀cap,xs.length+m≤cap→cap≤maxLen→∀zs:Array Value,zs.size=(cap-(xs.length+m))*1→(∀u∈zs.toList,noWord u)→ NApd w base e v (xs++news) (.slice (some ⟨w.heap.size,0,none⟩) (xs.length+m) cap) (w.drew.alloc (.cells ((xs++news).toArray++zs) e)):=by
   intro cap hc1 hc2 zs hzs hzw;have hb:Below w.heap.size w (w.drew.alloc (.cells ((xs++news).toArray++zs) e)):=(Below.refl w.heap.size w).drew.alloc lR _;have hk:=jQ hb;have hB:Blk (w.drew.alloc (.cells ((xs++news).toArray++zs) e)) w.heap.size e ((xs++news).toArray++zs):=heap_alloc_new w.drew _;refine⟨⟨⟨hlen,.inr ⟨w.heap.size,0,cap,_,by rw[hql],hbase,hB,by rw[hql];exact hc1,hc2,?_,?_⟩⟩,?_,wda⟩,hk,⟨rfl,rfl,rfl,by simp,fun k hk _=>Below.heap_alloc w.drew _ k hk⟩,fun g hg=> .inr ?_⟩
   ·rw[Array.size_append,hzs,List.size_toArray,hlen,hql,←Nat.add_mul];have:xs.length+m+(cap-(xs.length+m))=cap:=by omega
    rw[this];omega
   ·rw[List.drop_zero,Array.toList_append,Nat.mul_one,List.take_append_of_le_length lR,List.take_of_length_le lR]
   ·intro g o n hg;have hg:w.heap.size=g:=by simpa[Value.ownBlock]using hg
    subst hg;refine eI hB (fun u hu=>?_) o n;rw[Array.toList_append,List.mem_append]at hu;rcases hu with hu|hu
    ·simp only[List.mem_append]at hu;rcases hu with hu|hu
     ·exact(hxs u hu).1
     ·exact h1w u hu
    ·exact hzw u hu
   ·have hg:w.heap.size=g:=by simpa[Value.ownBlock]using hg
    omega
  have zsz:∀k,(Builtin.zeroCells z.cells k).size=k*1:=fun k=>by rw[size_zeroCells,hz1]
  rcases Nat.eq_zero_or_pos m with hm0|hm0
  ·have hnews:news=[]:=List.eq_nil_of_length_eq_zero (by have:=hs.1;omega);subst hm0 hnews;have hf:=run_firstCells_some (P:=P) w i.size 0 ad 0 c [] (by simp) (by simp);have hrun:(Builtin.append_ #[t,t] ty #[v,.slice (some ad) 0 c]).run P w= .ok v w:=by
    rcases hrow.2 with⟨rfl,h0⟩|⟨g,off,cap,cur,rfl,hbg,hg,hnc,hcm,hcs,htake⟩
    ·simp[Builtin.append_,run_underlying ht,sizeOf,typeInfo,hi,Builtin.lenOf,hf]
    ·simp[Builtin.append_,run_underlying ht,sizeOf,typeInfo,hi,Builtin.lenOf,hf,hnc,storeCells]
   exact⟨_,_,hrun,by rw[List.append_nil];exact hr,Kw.refl _,⟨rfl,rfl,rfl,Nat.le_refl _,fun _ _ _=>rfl⟩,fun g h=> .inl h⟩
  rcases hrow.2 with⟨rfl,h0⟩|⟨g,off,cap,cur,rfl,hbg,hg,hnc,hcm,hcs,htake⟩
  ·have hx:xs=[]:=List.eq_nil_of_length_eq_zero (by have:=hrow.1;omega);subst hx;have hrun:=run_append_nil (P:=P) w t ty e i z ht hi hz ad m c news (by rw[hsize];exact hs.1) hcells hm0 (by simp only[maxLen,List.length_nil]at h63;omega) (by rw[hby];simp only[List.length_nil,Nat.zero_add]at hbytes;omega);have hge:=grownCap_ge w m 0 e;have hcm:=grownCap_le_maxLen w m 0 e (by simpa using h63);refine⟨_,_,hrun,?_⟩;have:=fresh (grownCap w m 0 e) (by simpa using hge) hcm (Builtin.zeroCells z.cells (grownCap w m 0 e-m)) (by rw[zsz];simp) (hzw _);simpa using this
  ·by_cases hroom:xs.length+m≤cap
   ·have hle:(xs.length+m)*1≤cap*1:=Nat.mul_le_mul_right _ hroom;rw[Nat.add_mul]at hle;have hln:=hs.1;have hfit:off+xs.length*i.size+news.length≤cur.size:=by rw[hsize];omega
    have hrun:=dR (P:=P) w t ty e i ht hi g off xs.length cap cur hg ad m c news (by rw[hsize];exact hs.1) hcells h1 hroom hfit;rw[hsize]at hrun;have hcw:=oK hg (fun o n=>hnw g o n (by simp[Value.ownBlock]));have hB:Blk (w.setRow g (cur.toList.take (off+xs.length*1)++news++cur.toList.drop (off+xs.length*1+news.length)).toArray) g e (cur.toList.take (off+xs.length*1)++news++cur.toList.drop (off+xs.length*1+news.length)).toArray:=setRow_heap w g cur _ e _ hg;have hk:Kw w (w.setRow g (cur.toList.take (off+xs.length*1)++news++cur.toList.drop (off+xs.length*1+news.length)).toArray):=by
     refine⟨by simp[World.setRow],fun p n e=>?_⟩;have hpb:p.block≠g:=by
      intro hpg;have hpl:=World.cell?_of_block (w:=w) (w':=w) (a:=p) rfl;cases p with
      |mk pb po ps=>
       simp only at hpg;subst hpg;cases ps with
       |none=>exact hnw pb po n (by simp[Value.ownBlock]) e
       |some s=>
        unfold Blk at hg;simp[World.cell?,hg]at e
     rw[World.cell?_of_block (a:=p) (setRow_other w g p.block _ hpb)];exact e
    refine⟨_,_,hrun,⟨⟨⟨hlen,.inr ⟨g,off,cap,_,by rw[hql],hbg,hB,by rw[hql];exact hroom,hcm,?_,?_⟩⟩,?_,wda⟩,hk,?_,fun g' hg'=> .inl (by simpa[Value.ownBlock]using hg')⟩⟩
    ·simp only[List.size_toArray,List.length_append,List.length_take,List.length_drop,Array.length_toList];omega
    ·simp only;rw[hql,Nat.add_mul,←hln];exact nY (m:=news.length) htake hrow.1 rfl (by simp only[Array.length_toList];omega)
    ·intro g' o n hg';have hg':g=g':=by simpa[Value.ownBlock]using hg'
     subst hg';refine eI hB (fun u hu=>?_) o n;simp only[List.mem_append]at hu;rcases hu with(hu|hu)|hu
     ·exact hcw u (List.mem_of_mem_take hu)
     ·exact h1w u hu
     ·exact hcw u (List.mem_of_mem_drop hu)
    ·exact⟨rfl,rfl,rfl,by simp[World.setRow],fun k _ hk=>setRow_other w g k _ (fun e=>hk (by simp[Value.ownBlock,e]))⟩
   ·have holds:∀j u,xs[j]?=some u→w.cell? ((⟨g,off,none⟩:Addr).add j)=some u:=by
     intro j u hu;rw[Addr.add_lit,hg.cell];rw[←htake,List.getElem?_take]at hu;split at hu
     ·simpa using hu
     ·cases hu
    have hrun:=run_append_grow (P:=P) w t ty e i z ht hi hz ⟨g,off,none⟩ xs.length cap xs (by rw[hsize];exact hrow.1) holds ad m c news (by rw[hsize];exact hs.1) hcells (by omega) (by simp only[maxLen]at h63;omega) (growslice_fits (by omega) (by rw[hby];exact hbytes));have hge:=grownCap_ge w (xs.length+m) cap e;have hcm2:=grownCap_le_maxLen w (xs.length+m) cap e h63;refine⟨_,_,hrun,?_⟩;have:=fresh (grownCap w (xs.length+m) cap e) hge hcm2 (Builtin.zeroCells z.cells (grownCap w (xs.length+m) cap e-(xs.length+m))) (zsz _) (hzw _);simpa using this
theorem LM.beside{w w':World}{base base':Nat}{v v0 v':Value}{vs xs xs':List Value}{m:List (List Rat)}{e:TypeId}(h:LM w base v vs m)(hN:NRow w base' e v0 xs)(ha:NApd w base' e v0 xs' v' w')(h1:bW≠e)(h2:aM≠e):LM w' base v vs m:=by
 have key:∀{b0 sz n:Nat} {t:TypeId} {u:Value} {ys:List Value},Row w b0 t sz u n ys→t≠e→∀g,u.ownBlock=some g→w'.heap[g]?=w.heap[g]?:=fun{b0 sz n t u ys} hr ht g hg=>by
  refine ha.grown.block g (own_lt hr hg).2.1 ?_;intro hv;have hv:v0.ownBlock=some g:=hv.symm;obtain⟨_,_,cur,hC⟩:=hN.blk hv;exact own_ne hr hC ht g hg rfl
 refine⟨h.outer.keepO (key h.outer h1),fun i u qs a b=>?_,h.apart⟩;have hr:=h.inner i u qs a b;obtain⟨⟨ys,hrow,_⟩,_⟩:=id hr;exact hr.keep ha.kw (key hrow h2)
theorem NRow.put4{w:World}{base b o:Nat}{e:TypeId}{v:Value}{xs:List Value}(h:NRow w base e v xs){cs:Array Value}(hB:Blk w b aM cs)(he:e≠aM)(u0 u1 u2 u3:Value):NRow (Proofs.YtenbglfkdldheaaGreatDoor.put4 w b o u0 u1 u2 u3) base e v xs:=h.keep fun g hg=>cR w _ _ _ _ _ (own_ne h.row hB he g hg)
theorem NRow.setOuter{w:World}{base b o:Nat}{e:TypeId}{v:Value}{xs:List Value}(h:NRow w base e v xs){cs:Array Value}(hB:Blk w b bW cs)(he:e≠bW)(u:Value):NRow (w.setCell ⟨b,o,none⟩ u) base e v xs:=h.keep fun g hg=>Below.heap_setCell w _ u g (own_ne h.row hB he g hg)
theorem LM.outerBlk{w:World}{base g off n cap:Nat}{vs:List Value}{m:List (List Rat)}(h:LM w base (.slice (some ⟨g,off,none⟩) n cap) vs m)(hn:0<m.length):∃cs,Blk w g bW cs:=by
 obtain⟨g',off',cap',cur,e,_,hh,_⟩:=h.outer.form (by omega);obtain⟨rfl,rfl⟩:=mE e;exact⟨_,hh⟩
theorem LM.swap{w:World}{base g off n cap r p:Nat}{vs:List Value}{m:List (List Rat)}{x y:Value}(h:LM w base (.slice (some ⟨g,off,none⟩) n cap) vs m)(hn:m.length=n)(hr:r<n)(hp:p<n)(hx:vs[r]?=some x)(hy:vs[p]?=some y): LM ((w.setCell ⟨g,off+r,none⟩ y).setCell ⟨g,off+p,none⟩ x) base (.slice (some ⟨g,off,none⟩) n cap) ((vs.set r y).set p x) (swQ m r p)∧Kw w ((w.setCell ⟨g,off+r,none⟩ y).setCell ⟨g,off+p,none⟩ x):=by
 subst hn;obtain⟨cs,hB⟩:=h.outerBlk (by omega);have hl:=h.len;have hwB:=h.outer.reads;have cellr:∀{i:Nat} {u:Value},vs[i]?=some u→w.cell? ⟨g,off+i,none⟩=some u:=fun{i u} hu=>by
  obtain⟨b',off',e',_,hc⟩:=hwB.2 (by omega);injection e' with e';injection e' with e1 e2;subst e1 e2;exact hc i u hu
 have isl:∀{i:Nat} {u:Value},vs[i]?=some u→noWord u:=fun{i u} hu=>by
  have hi:i<m.length:=by have:=(List.getElem?_eq_some_iff.1 hu).1;omega
  obtain⟨B,c,e⟩:=(h.inner i u m[i] hu (gE hi)).val;rw[e];exact bJ _ _ _
 have k1:Kw w (w.setCell ⟨g,off+r,none⟩ y):=sM (cellr hx) (isl hx) y;have hcp:(w.setCell ⟨g,off+r,none⟩ y).cell? ⟨g,off+p,none⟩=some y:=by
  by_cases e:r=p
  ·subst e;exact World.cell?_setCell_same w _ _ (cellr hx)
  ·rw[World.cell?_setCell_other _ _ _ _ (by intro h2;injection h2 with _ h2;omega)];exact cellr hy
 have k2:Kw (w.setCell ⟨g,off+r,none⟩ y) ((w.setCell ⟨g,off+r,none⟩ y).setCell ⟨g,off+p,none⟩ x):=sM hcp (isl hy) x;have hk:=k1.trans k2;have away:∀{u:Value} {ys:List Rat},RRow w base u ys→RRow ((w.setCell ⟨g,off+r,none⟩ y).setCell ⟨g,off+p,none⟩ x) base u ys:=fun hu=>hu.keep hk fun g' hg'=>by
  have hne:g'≠g:=fun e=>hu.ne_outer hB (by rw[hg',e]);rw[Below.heap_setCell _ _ _ _ hne,Below.heap_setCell _ _ _ _ hne]
 have hvs:∀{i:Nat} {u:Value},((vs.set r y).set p x)[i]?=some u→vs[tau r p i]?=some u:=fun{i u} hu=>by
  unfold tau;rw[List.getElem?_set]at hu;by_cases e1:p=i
  ·subst e1;rw[if_pos rfl]at hu;split at hu
   ·injection hu with hu;subst hu;by_cases e2:p=r
    ·subst e2;rw[if_pos rfl];exact hx
    ·rw[if_neg e2,if_pos rfl];exact hx
   ·cases hu
  ·rw[if_neg e1,List.getElem?_set]at hu;by_cases e2:r=i
   ·subst e2;rw[if_pos rfl]at hu;rw[if_pos rfl];split at hu
    ·injection hu with hu;subst hu;exact hy
    ·cases hu
   ·rw[if_neg e2]at hu;rw[if_neg (Ne.symm e2),if_neg (Ne.symm e1)];exact hu
 refine⟨⟨?_,fun i u qs a b=>?_,fun i j u u' g' hij a b c=>h.apart _ _ u u' g' (fun e=>hij (uL e)) (hvs a) (hvs b) c⟩,hk⟩
 ·have h1:=(h.outer.set_at (j:=r) (by omega) y).set_at (j:=p) (by omega) x;have e:(swQ m r p).length=m.length:=by unfold swQ;rw[List.length_set,List.length_set]
  rw[e];exact h1
 ·have hi:i<m.length:=by
   have:=(List.getElem?_eq_some_iff.1 b).1;unfold swQ at this;rw[List.length_set,List.length_set]at this;exact this
  have ht:tau r p i<m.length:=kK hr hp hi;have hq:m[tau r p i]?=some qs:=by
   have h2:=aHq (i:=i) hr hp (m:=m);rw[gD,b,gD,gE ht]at h2;rw[gE ht];exact congrArg some h2.symm
  exact away (h.inner _ u qs (hvs a) hq)
end Go.Proofs.YtenbglfkdldheaaGreatDoor
