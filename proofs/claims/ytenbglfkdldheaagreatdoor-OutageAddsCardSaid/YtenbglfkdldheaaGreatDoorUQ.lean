/- Slices of rational numbers in memory: worlds that keep all words, rows of numbers that the call owns, slices of numbers that are read, matrices. large.ParseAll, matrix.Values. large.Texts, matrix.TextVec, matrix.Text. matrix.Values, lin.Width, matrix.Text; matrices that are read; appending a number. -/
import Derived.Test.YtenbglfkdldheaaGreatDoorUP
set_option maxRecDepth 100000
set_option maxHeartbeats 1000000
namespace Go.Proofs.YtenbglfkdldheaaGreatDoor
open Go.RowKit
structure Kw(w w':World):Prop where
 size:w.heap.size≤w'.heap.size
 word:∀p n,w.cell? p=some (U n)→w'.cell? p=some (U n)
theorem Kw.refl(w:World):Kw w w:=⟨Nat.le_refl _,fun _ _ h=>h⟩
theorem Kw.trans{a b c:World}(h:Kw a b)(k:Kw b c):Kw a c:=⟨Nat.le_trans h.size k.size,fun p n e=>k.word p n (h.word p n e)⟩
theorem jQ{w w':World}(hb:Below w.heap.size w w'):Kw w w':=⟨hb.size,fun p _n e=>(hb.cell (World.block_lt_of_cell? w p e)).trans e⟩
theorem sM{w:World}{p:Addr}{old:Value}(hp:w.cell? p=some old)(hk:noWord old)(u:Value):Kw w (w.setCell p u):=by
 refine⟨by simp[World.setCell],fun q n e=>?_⟩;rw[World.cell?_setCell_other _ _ _ _ ?_]
 ·exact e
 ·rintro rfl;rw[e]at hp;exact hk n (Option.some.inj hp)
theorem Big.kw{w w':World}{v:Value}{z:Int}(h:Big w v z)(k:Kw w w'):Big w' v z:=by
 obtain⟨A,c,ws,h1,h2,h3⟩:=h;refine⟨A,c,ws,h1,⟨h2.1,fun hn=>?_⟩,h3⟩;obtain⟨b,off,e,hb,hc⟩:=h2.2 hn;refine⟨b,off,e,by have:=k.size;omega,fun j u hu=>?_⟩;have hu2:=hc j u hu;rw[List.getElem?_map]at hu;cases hx:ws[j]? with
 |none=>rw[hx]at hu;cases hu
 |some y=>
  rw[hx]at hu;have hy:=Option.some.inj hu;subst hy;exact k.word _ _ hu2
theorem Rt.kw{w w':World}{v:Value}{q:Rat}(h:Rt w v q)(k:Kw w w'):Rt w' v q:=by
 obtain⟨a,b,c,d,e,h1,h2⟩:=h;exact⟨a,b,c,d,e,h1.kw k,h2.kw k⟩
def RtL(w:World):List Value→List Rat→Prop
 |xs,[]=>xs=[]
 |xs,q::qs=>∃x0 x1 x2 x3 ys,xs=x0::x1::x2::x3::ys∧Rt w (.agg #[x0,x1,x2,x3]) q∧RtL w ys qs
theorem RtL.cons{w:World}{xs:List Value}{q:Rat}{qs:List Rat}(h:RtL w xs (q::qs)):∃x0 x1 x2 x3 ys,xs=x0::x1::x2::x3::ys∧Rt w (.agg #[x0,x1,x2,x3]) q∧RtL w ys qs:=h
theorem RtL.mk{w:World}{x0 x1 x2 x3:Value}{ys:List Value}{q:Rat}{qs:List Rat}(h:Rt w (.agg #[x0,x1,x2,x3]) q)(k:RtL w ys qs):RtL w (x0::x1::x2::x3::ys) (q::qs):=⟨_,_,_,_,_,rfl,h,k⟩
theorem RtL.nil_iff{w:World}{xs:List Value}(h:RtL w xs []):xs=[]:=h
theorem RtL.kw{w w':World}(k:Kw w w'):∀{qs:List Rat} {xs:List Value},RtL w xs qs→RtL w' xs qs
 |[],_,h=>h
 |q::qs,xs,h=>by
  obtain⟨x0,x1,x2,x3,ys,rfl,h1,h2⟩:=h.cons;exact .mk (h1.kw k) (RtL.kw k h2)
theorem RtL.len{w:World}:∀{qs:List Rat} {xs:List Value},RtL w xs qs→xs.length=qs.length*4
 |[],xs,h=>by rw[h.nil_iff];rfl
 |q::qs,xs,h=>by
  obtain⟨x0,x1,x2,x3,ys,rfl,h1,h2⟩:=h.cons;simp only[List.length_cons,h2.len];omega
theorem RtL.append{w:World}:∀{qs:List Rat} {xs:List Value} {rs:List Rat} {ys:List Value},RtL w xs qs→RtL w ys rs→RtL w (xs++ys) (qs++rs)
 |[],xs,rs,ys,h,k=>by rw[h.nil_iff];exact k
 |q::qs,xs,rs,ys,h,k=>by
  obtain⟨x0,x1,x2,x3,zs,rfl,h1,h2⟩:=h.cons;exact .mk h1 (RtL.append h2 k)
theorem RtL.one{w:World}{x0 x1 x2 x3:Value}{q:Rat}(h:Rt w (.agg #[x0,x1,x2,x3]) q):RtL w [x0,x1,x2,x3] [q]:= .mk h rfl
theorem RtL.at_{w:World}:∀{qs:List Rat} {xs:List Value} (k:Nat) (q:Rat),RtL w xs qs→qs[k]?=some q→ ∃x0 x1 x2 x3,xs[k*4]?=some x0∧xs[k*4+1]?=some x1∧xs[k*4+2]?=some x2∧xs[k*4+3]?=some x3∧Rt w (.agg #[x0,x1,x2,x3]) q
 |[],xs,k,q,h,hq=>by simp at hq
 |r::qs,xs,0,q,h,hq=>by
  obtain⟨x0,x1,x2,x3,ys,rfl,h1,h2⟩:=h.cons;have hq:=Option.some.inj hq;subst hq;exact⟨x0,x1,x2,x3,rfl,rfl,rfl,rfl,h1⟩
 |r::qs,xs,k+1,q,h,hq=>by
  obtain⟨x0,x1,x2,x3,ys,rfl,h1,h2⟩:=h.cons;obtain⟨y0,y1,y2,y3,e0,e1,e2,e3,hr⟩:=RtL.at_ k q h2 (by simpa using hq);have e:(k+1)*4=k*4+4:=by omega
  refine⟨y0,y1,y2,y3,?_,?_,?_,?_,hr⟩
  ·rw[e];exact e0
  ·rw[e];exact e1
  ·rw[e];exact e2
  ·rw[e];exact e3
def nO(xs:List Value)(k:Nat)(u0 u1 u2 u3:Value):List Value:=(((xs.set (k*4) u0).set (k*4+1) u1).set (k*4+2) u2).set (k*4+3) u3
theorem RtL.set_{w:World}{u0 u1 u2 u3:Value}{r:Rat}(hr:Rt w (.agg #[u0,u1,u2,u3]) r):∀{qs:List Rat} {xs:List Value} (k:Nat),k<qs.length→RtL w xs qs→RtL w (nO xs k u0 u1 u2 u3) (qs.set k r)
 |[],xs,k,hk,h=>by simp at hk
 |q::qs,xs,0,hk,h=>by
  obtain⟨x0,x1,x2,x3,ys,rfl,h1,h2⟩:=h.cons;exact .mk hr h2
 |q::qs,xs,k+1,hk,h=>by
  obtain⟨x0,x1,x2,x3,ys,rfl,h1,h2⟩:=h.cons;have:=RtL.set_ hr k (by simpa using hk) h2;have e:nO (x0::x1::x2::x3::ys) (k+1) u0 u1 u2 u3=x0::x1::x2::x3::nO ys k u0 u1 u2 u3:=by
   unfold nO;rw[show(k+1)*4=k*4+4 by omega];simp only[List.set_cons_succ]
  rw[e];exact .mk h1 this
theorem RtL.drop_{w:World}:∀{qs:List Rat} {xs:List Value} (k:Nat),RtL w xs qs→RtL w (xs.drop (k*4)) (qs.drop k)
 |[],xs,k,h=>by rw[h.nil_iff];simp[RtL]
 |q::qs,xs,0,h=>h
 |q::qs,xs,k+1,h=>by
  obtain⟨x0,x1,x2,x3,ys,rfl,h1,h2⟩:=h.cons;rw[show(k+1)*4=k*4+4 by omega];exact RtL.drop_ k h2
def RV(w:World)(A:Option Addr)(n:Nat)(qs:List Rat):Prop:=∃xs,Reads w w.heap.size 4 A n xs∧RtL w xs qs
theorem RV.len{w:World}{A:Option Addr}{n:Nat}{qs:List Rat}(h:RV w A n qs):qs.length=n:=by
 obtain⟨xs,h1,h2⟩:=h;have:=h1.1;have:=h2.len;omega
theorem RV.below{w w':World}{A:Option Addr}{n:Nat}{qs:List Rat}(h:RV w A n qs)(hb:Below w.heap.size w w'):RV w' A n qs:=by
 obtain⟨xs,h1,h2⟩:=h;exact⟨xs,(h1.below hb).more hb.size,h2.kw (jQ hb)⟩
structure C4(w:World)(b o:Nat)(x0 x1 x2 x3:Value):Prop where
 c0:w.cell? ⟨b,o,none⟩=some x0
 c1:w.cell? ⟨b,o+1,none⟩=some x1
 c2:w.cell? ⟨b,o+2,none⟩=some x2
 c3:w.cell? ⟨b,o+3,none⟩=some x3
theorem RV.at_{w:World}{A:Option Addr}{n:Nat}{qs:List Rat}(h:RV w A n qs){k:Nat}(hk:k<n)(q:Rat)(hq:qs[k]?=some q): ∃b off x0 x1 x2 x3,A=some ⟨b,off,none⟩∧b<w.heap.size∧C4 w b (off+k*4) x0 x1 x2 x3∧Rt w (.agg #[x0,x1,x2,x3]) q:=by
 obtain⟨xs,h1,h2⟩:=h;obtain⟨b,off,e,hb,hc⟩:=h1.2 (by omega);obtain⟨x0,x1,x2,x3,e0,e1,e2,e3,hr⟩:=h2.at_ k q hq;exact⟨b,off,x0,x1,x2,x3,e,hb,⟨hc _ _ e0,hc _ _ e1,hc _ _ e2,hc _ _ e3⟩,hr⟩
theorem RV.form{w:World}{A:Option Addr}{n:Nat}{qs:List Rat}(h:RV w A n qs){k:Nat}(hk:k<n)(q:Rat)(hq:qs[k]?=some q): ∃b off nb B1 l1 c1 B2 l2 c2,A=some ⟨b,off,none⟩∧b<w.heap.size∧C4 w b (off+k*4) (.bool nb) (.slice B1 l1 c1) (.bool false) (.slice B2 l2 c2)∧Rt w (.agg #[.bool nb,.slice B1 l1 c1,.bool false,.slice B2 l2 c2]) q:=by
 obtain⟨b,off,x0,x1,x2,x3,e,hb,hC,hr⟩:=h.at_ hk q hq;obtain⟨B1,l1,c1,B2,l2,c2,e2,-,-⟩:=hr.form;injection e2 with e2;obtain⟨rfl,rfl,rfl,rfl⟩:x0=_∧x1=_∧x2=_∧x3=_:=by simpa using e2
 exact⟨b,off,_,_,_,_,_,_,_,e,hb,hC,hr⟩
structure RRow(w:World)(base:Nat)(v:Value)(qs:List Rat):Prop where
 row:∃xs,Row w base aM 4 v qs.length xs∧RtL w xs qs
 nw:∀g o n,v.ownBlock=some g→w.cell? ⟨g,o,none⟩≠some (U n)
theorem own_lt{w:World}{base:Nat}{e:TypeId}{sz n:Nat}{v:Value}{xs:List Value}(h:Row w base e sz v n xs){g:Nat}(hg:v.ownBlock=some g):base≤g∧g<w.heap.size∧∃cur,Blk w g e cur:=by
 rcases h.2 with⟨rfl,_⟩|⟨g',off,cap,cur,rfl,hb,hh,_⟩
 ·cases hg
 ·have hg:g'=g:=by simpa[Value.ownBlock]using hg
  subst hg;exact⟨hb,hh.lt,cur,hh⟩
theorem RRow.nil(w:World)(base:Nat):RRow w base (.slice none 0 0) []:=⟨⟨[],Row.nil _ _ _ _,rfl⟩,fun g o n h=>by cases h⟩
theorem RRow.call{w w':World}{base:Nat}{v:Value}{qs:List Rat}(h:RRow w base v qs)(hb:Below w.heap.size w w'):RRow w' base v qs:=by
 obtain⟨⟨xs,h1,h2⟩,h3⟩:=h;refine⟨⟨xs,h1.call hb,h2.kw (jQ hb)⟩,fun g o n hg=>?_⟩;rw[hb.cell (p:=⟨g,o,none⟩) (own_lt h1 hg).2.1];exact h3 g o n hg
theorem RRow.less{w:World}{base base':Nat}{v:Value}{qs:List Rat}(h:RRow w base v qs)(hb:base'≤base):RRow w base' v qs:=by
 obtain⟨⟨xs,h1,h2⟩,h3⟩:=h;exact⟨⟨xs,h1.less hb,h2⟩,h3⟩
theorem RRow.keep{w w':World}{base:Nat}{v:Value}{qs:List Rat}(h:RRow w base v qs)(k:Kw w w')(hk:∀g,v.ownBlock=some g→w'.heap[g]?=w.heap[g]?):RRow w' base v qs:=by
 obtain⟨⟨xs,h1,h2⟩,h3⟩:=h;refine⟨⟨xs,⟨h1.1,h1.2.imp id ?_⟩,h2.kw k⟩,fun g o n hg=>?_⟩
 ·rintro⟨g,off,cap,cur,hv,hb,hh,r⟩;exact⟨g,off,cap,cur,hv,hb,(hk g (by rw[hv];rfl)).trans hh,r⟩
 ·rw[World.cell?_of_block (a:=⟨g,o,none⟩) (hk g hg)];exact h3 g o n hg
theorem RRow.val{w:World}{base:Nat}{v:Value}{qs:List Rat}(h:RRow w base v qs):∃A c,v= .slice A qs.length c:=by
 obtain⟨⟨xs,h1,h2⟩,_⟩:=h;exact h1.val
theorem RRow.rv{w:World}{base:Nat}{A:Option Addr}{n c:Nat}{qs:List Rat}(h:RRow w base (.slice A n c) qs):RV w A n qs:=by
 obtain⟨⟨xs,h1,h2⟩,_⟩:=h;have hn:n=qs.length:=by
  obtain⟨A',c',e⟩:=h1.val;injection e
 subst hn;exact⟨xs,h1.reads,h2⟩
theorem RRow.lt{w:World}{base:Nat}{v:Value}{qs:List Rat}(h:RRow w base v qs){g:Nat}(hg:v.ownBlock=some g):base≤g∧g<w.heap.size:=by
 obtain⟨⟨xs,h1,_⟩,_⟩:=h;obtain⟨h1,h2,_⟩:=own_lt h1 hg;exact⟨h1,h2⟩
theorem RRow.blk{w:World}{base:Nat}{v:Value}{qs:List Rat}(h:RRow w base v qs){g:Nat}(hg:v.ownBlock=some g):∃cur,Blk w g aM cur:=by
 obtain⟨⟨xs,h1,_⟩,_⟩:=h;exact(own_lt h1 hg).2.2
theorem RtL.noWord{w:World}:∀{qs:List Rat} {xs:List Value},RtL w xs qs→∀u∈xs,Proofs.YtenbglfkdldheaaGreatDoor.noWord u∧u.oneCell'=true
 |[],xs,h,u,hu=>by rw[h.nil_iff]at hu;cases hu
 |q::qs,xs,h,u,hu=>by
  obtain⟨x0,x1,x2,x3,ys,rfl,h1,h2⟩:=h.cons;obtain⟨A,n,c,B,m,d,e,-,-⟩:=h1.form;injection e with e;obtain⟨rfl,rfl,rfl,rfl⟩:x0=_∧x1=_∧x2=_∧x3=_:=by simpa using e
  simp only[List.mem_cons]at hu;rcases hu with rfl|rfl|rfl|rfl|hu
  ·exact⟨bO _,rfl⟩
  ·exact⟨bJ _ _ _,rfl⟩
  ·exact⟨bO _,rfl⟩
  ·exact⟨bJ _ _ _,rfl⟩
  ·exact RtL.noWord h2 u hu
abbrev mC:Array Value:=#[.bool false,.slice none 0 0,.bool false,.slice none 0 0]
theorem kE(n:Nat):∀u∈(Builtin.zeroCells mC n).toList,noWord u:=by
 intro u hu;unfold Builtin.zeroCells at hu;rw[Array.toList_map,List.mem_map]at hu;obtain⟨i,_,rfl⟩:=hu;have h4:i%4<4:=Nat.mod_lt _ (by decide);show noWord (mC[i%4]!);generalize i%4=j at h4;match j,h4 with
 |0,_=>exact bO _
 |1,_=>exact bJ _ _ _
 |2,_=>exact bO _
 |3,_=>exact bJ _ _ _
theorem eI{w:World}{g:Nat}{t:TypeId}{cs:Array Value}(h:Blk w g t cs)(hn:∀u∈cs.toList,noWord u)(o:Nat)(n:Int):w.cell? ⟨g,o,none⟩≠some (U n):=by
 intro e;rw[h.cell]at e;have hm:U n∈cs:=Array.mem_of_getElem? e;exact hn _ (Array.mem_toList_iff.2 hm) n rfl
theorem oK{w:World}{g:Nat}{t:TypeId}{cs:Array Value}(h:Blk w g t cs)(hn:∀o n,w.cell? ⟨g,o,none⟩≠some (U n)):∀u∈cs.toList,noWord u:=by
 intro u hu x e;obtain⟨i,hi⟩:=List.mem_iff_getElem?.1 hu;refine hn i x ?_;rw[h.cell,e,←Array.getElem?_toList];exact hi
structure Apd(w:World)(base:Nat)(v:Value)(qs:List Rat)(v':Value)(w':World):Prop where
 row:RRow w' base v' qs
 kw:Kw w w'
 grown:w.grownBy w' v.ownBlock
 own:∀g,v'.ownBlock=some g→v.ownBlock=some g∨w.heap.size≤g
theorem fR{P:Program}(w:World)(base:Nat)(t ty:TypeId)(i:TypeInfo)(z:Value)(bytes:Nat)(ht:P.underlying t=some (.slice aM))(hi:P.info? aM=some i)(hz:i.zero=some z) (hsize:i.size=4)(hby:i.bytes=bytes)(hzc:z.cells=mC)(v:Value)(qs:List Rat)(hr:RRow w base v qs)
  (B:Nat)(A:Option Addr)(m c:Nat)(news:List Value)(rs:List Rat)(hs:Reads w B 4 A m news)(hl:RtL w news rs)
  (h63:qs.length+m≤maxLen)(hbytes:(qs.length+m)*bytes≤140737488355328)(hbase:base≤w.heap.size):
  ∃v' w',(Builtin.append_ #[t,t] ty #[v,.slice A m c]).run P w= .ok v' w'∧Apd w base v (qs++rs) v' w':=by
 have hrl:rs.length=m:=by have:=hs.1;have:=hl.len;omega
 have h1:∀u∈news,u.oneCell'=true:=fun u hu=>(hl.noWord u hu).2;have h1w:∀u∈news,noWord u:=fun u hu=>(hl.noWord u hu).1;obtain⟨⟨xs,hrow,hxs⟩,hnw⟩:=id hr;rcases A with _|ad
 ·have hm:m=0:=by
   rcases Nat.eq_zero_or_pos m with h0|h0
   ·exact h0
   ·obtain⟨b,off,h,_⟩:=hs.2 h0;cases h
  have hn:rs=[]:=List.eq_nil_of_length_eq_zero (by omega);subst hm hn;exact⟨v,w,eB w base t ty aM i ht hi 4 qs.length v xs hrow c,by rw[List.append_nil];exact hr,Kw.refl w,⟨rfl,rfl,rfl,Nat.le_refl _,fun _ _ _=>rfl⟩,fun g h=> .inl h⟩
 ·have hcells:∀j u,news[j]?=some u→w.cell? (ad.add j)=some u:=by
   intro j u hu;rcases Nat.eq_zero_or_pos m with h0|h0
   ·subst h0;have hn:news=[]:=List.eq_nil_of_length_eq_zero (by simpa using hs.1);subst hn;simp at hu
   ·obtain⟨b,off,h,_,hc⟩:=hs.2 h0;injection h with h;subst h;rw[Addr.add_lit];exact hc j u hu
  have hlen:(xs++news).length=(qs++rs).length*4:=by rw[List.length_append,hrow.1,hs.1,List.length_append,hrl,Nat.add_mul]
  have hql:(qs++rs).length=qs.length+m:=by rw[List.length_append,hrl]
  have fresh:∀cap,qs.length+m≤cap→cap≤maxLen→∀zs:Array Value,zs.size=(cap-(qs.length+m))*4→(∀u∈zs.toList,noWord u)→ Apd w base v (qs++rs) (.slice (some ⟨w.heap.size,0,none⟩) (qs.length+m) cap) (w.drew.alloc (.cells ((xs++news).toArray++zs) aM)):=by
   intro cap hc1 hc2 zs hzs hzw;have hb:Below w.heap.size w (w.drew.alloc (.cells ((xs++news).toArray++zs) aM)):=(Below.refl w.heap.size w).drew.alloc lR _;have hk:=jQ hb;have hB:Blk (w.drew.alloc (.cells ((xs++news).toArray++zs) aM)) w.heap.size aM ((xs++news).toArray++zs):=heap_alloc_new w.drew _;refine⟨⟨⟨xs++news,⟨hlen,.inr ⟨w.heap.size,0,cap,_,by rw[hql],hbase,hB,by rw[hql];exact hc1,hc2,?_,?_⟩⟩,(hxs.append hl).kw hk⟩,?_⟩,hk,⟨rfl,rfl,rfl,by simp,fun k hk _=>Below.heap_alloc w.drew _ k hk⟩,fun g hg=> .inr ?_⟩
   ·rw[Array.size_append,hzs,List.size_toArray,hlen,hql,←Nat.add_mul];have:qs.length+m+(cap-(qs.length+m))=cap:=by omega
    rw[this];omega
   ·rw[List.drop_zero,Array.toList_append,List.take_append_of_le_length (by rw[hlen];exact Nat.le_refl _),List.take_of_length_le (by rw[hlen];exact Nat.le_refl _)]
   ·intro g o n hg;have hg:w.heap.size=g:=by simpa[Value.ownBlock]using hg
    subst hg;refine eI hB (fun u hu=>?_) o n;rw[Array.toList_append,List.mem_append]at hu;rcases hu with hu|hu
    ·simp only[List.mem_append]at hu;rcases hu with hu|hu
     ·exact(hxs.noWord u hu).1
     ·exact h1w u hu
    ·exact hzw u hu
   ·have hg:w.heap.size=g:=by simpa[Value.ownBlock]using hg
    omega
  have zsz:∀k,(Builtin.zeroCells z.cells k).size=k*4:=fun k=>by rw[size_zeroCells,hzc];rfl
  rcases Nat.eq_zero_or_pos m with hm0|hm0
  ·have hn:rs=[]:=List.eq_nil_of_length_eq_zero (by omega);have hnews:news=[]:=List.eq_nil_of_length_eq_zero (by have:=hs.1;omega);subst hm0 hn hnews;have hf:=run_firstCells_some (P:=P) w i.size 0 ad 0 c [] (by simp) (by simp);have hrun:(Builtin.append_ #[t,t] ty #[v,.slice (some ad) 0 c]).run P w= .ok v w:=by
    rcases hrow.2 with⟨rfl,h0⟩|⟨g,off,cap,cur,rfl,hbg,hg,hnc,hcm,hcs,htake⟩
    ·simp[Builtin.append_,run_underlying ht,sizeOf,typeInfo,hi,Builtin.lenOf,hf]
    ·simp[Builtin.append_,run_underlying ht,sizeOf,typeInfo,hi,Builtin.lenOf,hf,hnc,storeCells]
   exact⟨_,_,hrun,by rw[List.append_nil];exact hr,Kw.refl _,⟨rfl,rfl,rfl,Nat.le_refl _,fun _ _ _=>rfl⟩,fun g h=> .inl h⟩
  rcases hrow.2 with⟨rfl,h0⟩|⟨g,off,cap,cur,rfl,hbg,hg,hnc,hcm,hcs,htake⟩
  ·have hx:xs=[]:=List.eq_nil_of_length_eq_zero (by have:=hrow.1;omega);have hq:qs=[]:=List.eq_nil_of_length_eq_zero h0;subst hx hq;have hrun:=run_append_nil (P:=P) w t ty aM i z ht hi hz ad m c news (by rw[hsize];exact hs.1) hcells hm0 (by simp only[maxLen,List.length_nil]at h63;omega) (by rw[hby];simp only[List.length_nil,Nat.zero_add]at hbytes;omega);have hge:=grownCap_ge w m 0 aM;have hcm:=grownCap_le_maxLen w m 0 aM (by simpa using h63);refine⟨_,_,hrun,?_⟩;have:=fresh (grownCap w m 0 aM) (by simpa using hge) hcm (Builtin.zeroCells z.cells (grownCap w m 0 aM-m)) (by rw[zsz];simp) (by rw[hzc];exact kE _);simpa using this
  ·by_cases hroom:qs.length+m≤cap
   ·have hle:(qs.length+m)*4≤cap*4:=Nat.mul_le_mul_right _ hroom;rw[Nat.add_mul]at hle;have hln:=hs.1;have hfit:off+qs.length*i.size+news.length≤cur.size:=by rw[hsize];omega
    have hrun:=dR (P:=P) w t ty aM i ht hi g off qs.length cap cur hg ad m c news (by rw[hsize];exact hs.1) hcells h1 hroom hfit;rw[hsize]at hrun;have hcw:=oK hg (fun o n=>hnw g o n (by simp[Value.ownBlock]));have hB:Blk (w.setRow g (cur.toList.take (off+qs.length*4)++news++cur.toList.drop (off+qs.length*4+news.length)).toArray) g aM (cur.toList.take (off+qs.length*4)++news++cur.toList.drop (off+qs.length*4+news.length)).toArray:=setRow_heap w g cur _ aM _ hg;have hk:Kw w (w.setRow g (cur.toList.take (off+qs.length*4)++news++cur.toList.drop (off+qs.length*4+news.length)).toArray):=by
     refine⟨by simp[World.setRow],fun p n e=>?_⟩;have hpb:p.block≠g:=by
      intro hpg;have hpl:=World.cell?_of_block (w:=w) (w':=w) (a:=p) rfl;cases p with
      |mk pb po ps=>
       simp only at hpg;subst hpg;cases ps with
       |none=>exact hnw pb po n (by simp[Value.ownBlock]) e
       |some s=>
        unfold Blk at hg;simp[World.cell?,hg]at e
     rw[World.cell?_of_block (a:=p) (setRow_other w g p.block _ hpb)];exact e
    refine⟨_,_,hrun,⟨⟨⟨xs++news,⟨hlen,.inr ⟨g,off,cap,_,by rw[hql],hbg,hB,by rw[hql];exact hroom,hcm,?_,?_⟩⟩,(hxs.append hl).kw hk⟩,?_⟩,hk,?_,fun g' hg'=> .inl (by simpa[Value.ownBlock]using hg')⟩⟩
    ·simp only[List.size_toArray,List.length_append,List.length_take,List.length_drop,Array.length_toList];omega
    ·simp only;rw[hql,Nat.add_mul,←hln];exact nY (m:=news.length) htake hrow.1 rfl (by simp only[Array.length_toList];omega)
    ·intro g' o n hg';have hg':g=g':=by simpa[Value.ownBlock]using hg'
     subst hg';refine eI hB (fun u hu=>?_) o n;simp only[List.mem_append]at hu;rcases hu with(hu|hu)|hu
     ·exact hcw u (List.mem_of_mem_take hu)
     ·exact h1w u hu
     ·exact hcw u (List.mem_of_mem_drop hu)
    ·exact⟨rfl,rfl,rfl,by simp[World.setRow],fun k _ hk=>setRow_other w g k _ (fun e=>hk (by simp[Value.ownBlock,e]))⟩
   ·have holds:∀j u,xs[j]?=some u→w.cell? ((⟨g,off,none⟩:Addr).add j)=some u:=by
     intro j u hu;rw[Addr.add_lit,hg.cell];rw[←htake,List.getElem?_take]at hu;split at hu
     ·simpa using hu
     ·cases hu
    have hrun:=run_append_grow (P:=P) w t ty aM i z ht hi hz ⟨g,off,none⟩ qs.length cap xs (by rw[hsize];exact hrow.1) holds ad m c news (by rw[hsize];exact hs.1) hcells (by omega) (by simp only[maxLen]at h63;omega) (growslice_fits (by omega) (by rw[hby];exact hbytes));have hge:=grownCap_ge w (qs.length+m) cap aM;have hcm2:=grownCap_le_maxLen w (qs.length+m) cap aM h63;refine⟨_,_,hrun,?_⟩;have:=fresh (grownCap w (qs.length+m) cap aM) hge hcm2 (Builtin.zeroCells z.cells (grownCap w (qs.length+m) cap aM-(qs.length+m))) (zsz _) (by rw[hzc];exact kE _);simpa using this
def put4(w:World)(g o:Nat)(u0 u1 u2 u3:Value):World:=(((w.setCell ⟨g,o,none⟩ u0).setCell ⟨g,o+1,none⟩ u1).setCell ⟨g,o+2,none⟩ u2).setCell ⟨g,o+3,none⟩ u3
theorem iS(w:World)(g o:Nat)(u0 u1 u2 u3:Value):(((w.setCell ⟨g,o,none⟩ u0).setCell ⟨g,o+1,none⟩ u1).setCell ⟨g,o+2,none⟩ u2).setCell ⟨g,o+3,none⟩ u3=put4 w g o u0 u1 u2 u3:=rfl
theorem jC(w:World)(g o:Nat)(u0 u1 u2 u3:Value):(put4 w g o u0 u1 u2 u3).heap.size=w.heap.size:=by simp[put4,World.setCell]
theorem cR(w:World){g k:Nat}(o:Nat)(u0 u1 u2 u3:Value)(h:k≠g):(put4 w g o u0 u1 u2 u3).heap[k]?=w.heap[k]?:=by
 unfold put4;rw[Below.heap_setCell _ _ _ _ h,Below.heap_setCell _ _ _ _ h,Below.heap_setCell _ _ _ _ h,Below.heap_setCell _ _ _ _ h]
theorem aKb{w:World}{g:Nat}{t:TypeId}{cs:Array Value}(h:Blk w g t cs)(hn:∀u∈cs.toList,noWord u)(o:Nat)(u:Value):Kw w (w.setCell ⟨g,o,none⟩ u):=by
 refine⟨by simp[World.setCell],fun p n e=>?_⟩;rw[World.cell?_setCell_other _ _ _ _ ?_]
 ·exact e
 ·rintro rfl;exact eI h hn o n e
theorem mD{cs:Array Value}(hn:∀u∈cs.toList,noWord u)(o:Nat){x:Value}(hx:noWord x):∀u∈(cs.setIfInBounds o x).toList,noWord u:=by
 intro u hu;rw[Array.toList_setIfInBounds]at hu;rcases List.mem_or_eq_of_mem_set hu with h|h
 ·exact hn u h
 ·rw[h];exact hx
theorem aSh{w:World}{g:Nat}{t:TypeId}{xs:List Value}(h:Blk w g t xs.toArray)(k:Nat)(u0 u1 u2 u3:Value):Blk (put4 w g (k*4) u0 u1 u2 u3) g t (nO xs k u0 u1 u2 u3).toArray:=by
 have h4:=(((h.set_ (k*4) u0).set_ (k*4+1) u1).set_ (k*4+2) u2).set_ (k*4+3) u3;unfold put4 nO;simpa using h4
theorem aKc{w:World}{g:Nat}{t:TypeId}{cs:Array Value}(h:Blk w g t cs)(hn:∀u∈cs.toList,noWord u)(o:Nat){u0 u1 u2 u3:Value}(h0:noWord u0)(h1:noWord u1)(h2:noWord u2):Kw w (put4 w g o u0 u1 u2 u3):=by
 have k0:=h.set_ o u0;have n0:=mD hn o h0;have k1:=k0.set_ (o+1) u1;have n1:=mD n0 (o+1) h1;have k2:=k1.set_ (o+2) u2;have n2:=mD n1 (o+2) h2;exact(((aKb h hn o u0).trans (aKb k0 n0 (o+1) u1)).trans (aKb k1 n1 (o+2) u2)).trans (aKb k2 n2 (o+3) u3)
theorem aSi{w:World}{g:Nat}{t:TypeId}{cs:Array Value}(h:Blk w g t cs)(hn:∀u∈cs.toList,noWord u)(o:Nat){u0 u1 u2 u3:Value}(h0:noWord u0)(h1:noWord u1)(h2:noWord u2)(h3:noWord u3): ∃cs',Blk (put4 w g o u0 u1 u2 u3) g t cs'∧∀u∈cs'.toList,noWord u:=⟨_,(((h.set_ o u0).set_ (o+1) u1).set_ (o+2) u2).set_ (o+3) u3,mD (mD (mD (mD hn o h0) _ h1) _ h2) _ h3⟩
theorem Rt.noW{w:World}{x0 x1 x2 x3:Value}{q:Rat}(h:Rt w (.agg #[x0,x1,x2,x3]) q):noWord x0∧noWord x1∧noWord x2∧noWord x3:=by
 have h1:=(RtL.one h).noWord;exact⟨(h1 x0 (by simp)).1,(h1 x1 (by simp)).1,(h1 x2 (by simp)).1,(h1 x3 (by simp)).1⟩
theorem aSj{xs:List Value}{k:Nat}(h:k*4+4≤xs.length)(u0 u1 u2 u3:Value):nO xs k u0 u1 u2 u3=xs.take (k*4)++[u0,u1,u2,u3]++xs.drop (k*4+4):=by
 obtain⟨o0,h0⟩:∃o,xs[k*4]?=some o:=⟨_,gE (by omega)⟩;have hd:xs.drop (k*4)=xs[k*4]'(by omega)::xs[k*4+1]'(by omega)::xs[k*4+2]'(by omega)::xs[k*4+3]'(by omega)::xs.drop (k*4+4):=by
  rw[List.drop_eq_getElem_cons (by omega),List.drop_eq_getElem_cons (i:=k*4+1) (by omega),List.drop_eq_getElem_cons (i:=k*4+1+1) (by omega),List.drop_eq_getElem_cons (i:=k*4+1+1+1) (by omega)]
 have hl:(xs.take (k*4)).length=k*4:=by rw[List.length_take];omega
 have e:xs=xs.take (k*4)++(xs[k*4]'(by omega)::xs[k*4+1]'(by omega)::xs[k*4+2]'(by omega)::xs[k*4+3]'(by omega)::xs.drop (k*4+4)):=by rw[←hd,List.take_append_drop]
 generalize xs.take (k*4)=a at*;generalize xs.drop (k*4+4)=b at*;generalize xs[k*4]'(by omega)=c0 at*;generalize xs[k*4+1]'(by omega)=c1 at*;generalize xs[k*4+2]'(by omega)=c2 at*;generalize xs[k*4+3]'(by omega)=c3 at*;subst e;unfold nO;rw[←hl];simp
structure Part(w:World)(g n:Nat)(qs:List Rat)(wr:World):Prop where
 blk:∃xs:List Value,Blk wr g aM xs.toArray∧xs.length=n*4∧(∀u∈xs,noWord u)∧RtL wr (xs.take (qs.length*4)) qs
 hn:qs.length≤n
 below:Below w.heap.size w wr
theorem Part.call{w:World}{g n:Nat}{qs:List Rat}{wr w':World}(h:Part w g n qs wr)(hb:Below wr.heap.size wr w'):Part w g n qs w':=by
 obtain⟨⟨xs,h1,h2,h3,h4⟩,hn,hbl⟩:=h;exact⟨⟨xs,h1.below hb h1.lt,h2,h3,h4.kw (jQ hb)⟩,hn,hbl.trans (hb.mono hbl.size)⟩
theorem Part.cells{w:World}{g n:Nat}{qs:List Rat}{wr:World}(h:Part w g n qs wr){k:Nat}(hk:k<n):∃o0 o1 o2 o3,C4 wr g (k*4) o0 o1 o2 o3:=by
 obtain⟨⟨xs,h1,h2,h3,h4⟩,hn,hbl⟩:=h;have e:∀j (hj:j<4),wr.cell? ⟨g,k*4+j,none⟩=some (xs[k*4+j]'(by omega)):=fun j hj=>by
  rw[h1.cell];simp
 exact⟨_,_,_,_,⟨e 0 (by omega),e 1 (by omega),e 2 (by omega),e 3 (by omega)⟩⟩
theorem Part.frozen{w:World}{g n:Nat}{qs:List Rat}{wr:World}(h:Part w g n qs wr)(o:Nat):wr.frozen? ⟨g,o,none⟩=false:=by
 obtain⟨⟨xs,h1,_⟩,_,_⟩:=h;exact h1.frozen o
theorem Part.put{w:World}{g n:Nat}{qs:List Rat}{wr:World}(h:Part w g n qs wr)(hlt:qs.length<n)(hg:w.heap.size≤g){u0 u1 u2 u3:Value}{r:Rat}(hr:Rt wr (.agg #[u0,u1,u2,u3]) r): Part w g n (qs++[r]) (put4 wr g (qs.length*4) u0 u1 u2 u3):=by
 obtain⟨⟨xs,h1,h2,h3,h4⟩,hn,hbl⟩:=h;obtain⟨n0,n1,n2,n3⟩:=hr.noW;have hk:Kw wr (put4 wr g (qs.length*4) u0 u1 u2 u3):=aKc h1 (by simpa using h3) _ n0 n1 n2;have he:=aSj (xs:=xs) (k:=qs.length) (by omega) u0 u1 u2 u3;have ht:(xs.take (qs.length*4)).length=qs.length*4:=by rw[List.length_take];omega
 refine⟨⟨nO xs qs.length u0 u1 u2 u3,aSh h1 _ _ _ _ _,?_,fun u hu=>?_,?_⟩,by simp;omega,?_⟩
 ·unfold nO;simpa using h2
 ·rw[he,List.mem_append,List.mem_append]at hu;rcases hu with(hu|hu)|hu
  ·exact h3 u (List.mem_of_mem_take hu)
  ·simp only[List.mem_cons,List.not_mem_nil,or_false]at hu;rcases hu with rfl|rfl|rfl|rfl<;>assumption
  ·exact h3 u (List.mem_of_mem_drop hu)
 ·rw[he,List.take_append_of_le_length (by simp;omega),List.take_of_length_le (by simp;omega)];exact(h4.kw hk).append (RtL.one (hr.kw hk))
 ·exact(((hbl.setCell (p:=⟨g,_,none⟩) hg u0).setCell (p:=⟨g,_,none⟩) hg u1).setCell (p:=⟨g,_,none⟩) hg u2).setCell (p:=⟨g,_,none⟩) hg u3
theorem Part.row{w:World}{g n:Nat}{qs:List Rat}{wr:World}(h:Part w g n qs wr)(he:qs.length=n)(hg:w.heap.size≤g)(hm:n≤maxLen):RRow wr w.heap.size (.slice (some ⟨g,0,none⟩) n n) qs:=by
 obtain⟨⟨xs,h1,h2,h3,h4⟩,hn,hbl⟩:=h;rw[List.take_of_length_le (by omega)]at h4;refine⟨⟨xs,⟨by omega,.inr ⟨g,0,n,_,by rw[he],hg,h1,by omega,hm,by simp;omega,?_⟩⟩,h4⟩,fun g' o x hg'=>?_⟩
 ·simp only[List.drop_zero];rw[List.take_of_length_le (by omega)]
 ·have hg':g=g':=by simpa[Value.ownBlock]using hg'
  subst hg';exact eI h1 (by simpa using h3) o x
theorem mE{g o g' o' n c n' c':Nat}(h:Value.slice (some ⟨g,o,none⟩) n c= .slice (some ⟨g',o',none⟩) n' c'):g=g'∧o=o':=by
 injection h with h;injection h with h;injection h with h1 h2;exact⟨h1,h2⟩
abbrev bW:TypeId:=111
structure LM(w:World)(base:Nat)(v:Value)(vs:List Value)(m:List (List Rat)):Prop where
 outer:Row w base bW 1 v m.length vs
 inner:∀(i:Nat) (u:Value) (qs:List Rat),vs[i]?=some u→m[i]?=some qs→RRow w base u qs
 apart:∀(i j:Nat) (u u':Value) (g:Nat),i≠j→vs[i]?=some u→vs[j]?=some u'→u.ownBlock=some g→u'.ownBlock≠some g
section
variable {w w':World} {base base':Nat} {v:Value} {vs:List Value} {m:List (List Rat)}
theorem LM.len(h:LM w base v vs m):vs.length=m.length:=by have:=h.outer.1;omega
theorem LM.call(h:LM w base v vs m)(hb:Below w.heap.size w w'):LM w' base v vs m:=⟨h.outer.call hb,fun i u qs h1 h2=>(h.inner i u qs h1 h2).call hb,h.apart⟩
theorem LM.less(h:LM w base v vs m)(hb:base'≤base):LM w base' v vs m:=⟨h.outer.less hb,fun i u qs h1 h2=>(h.inner i u qs h1 h2).less hb,h.apart⟩
theorem LM.at_(h:LM w base v vs m){i:Nat}(hi:i<m.length): ∃g off cap B c,v= .slice (some ⟨g,off,none⟩) m.length cap∧base≤g∧g<w.heap.size∧vs[i]?=some (.slice B (m.getD i []).length c)∧w.cell? ⟨g,off+i,none⟩=some (.slice B (m.getD i []).length c)∧w.frozen? ⟨g,off+i,none⟩=false∧ RRow w base (.slice B (m.getD i []).length c) (m.getD i []):=by
 obtain⟨g,off,cap,cur,rfl,hb,hh,hn,hm,hs,ht⟩:=h.outer.form (by omega);have hl:=h.len;have hmi:m[i]?=some (m.getD i []):=by rw[gD,gE hi];rfl
 have hu:vs[i]?=some (vs[i]'(by omega)):=gE (by omega);have hr:=h.inner i _ _ hu hmi;obtain⟨B,c,e⟩:=hr.val;rw[e]at hu hr;refine⟨g,off,cap,B,c,rfl,hb,hh.lt,hu,?_,hh.frozen _,hr⟩;have h1:=h.outer.reads;obtain⟨b',off',e',_,hc⟩:=h1.2 (by omega);injection e' with e';injection e' with e1 e2;subst e1 e2;exact hc i _ hu
theorem RRow.ne_outer{u:Value}{qs:List Rat}(h:RRow w base u qs){g:Nat}{cs:Array Value}(hB:Blk w g bW cs):u.ownBlock≠some g:=by
 intro e;obtain⟨cur,hc⟩:=h.blk e;unfold Blk at hc hB;rw[hc]at hB;injection hB with hB;injection hB with _ ht;exact absurd ht (by decide)
theorem LM.put{g off cap i n:Nat}{u:Value}{qs:List Rat}(h:LM w base (.slice (some ⟨g,off,none⟩) n cap) vs m)(hn:m.length=n)(hi:i<n)(hr:RRow w base u qs) (hap:∀(j:Nat) (u':Value) (g':Nat),j≠i→vs[j]?=some u'→u.ownBlock=some g'→u'.ownBlock≠some g'):
  LM (w.setCell ⟨g,off+i,none⟩ u) base (.slice (some ⟨g,off,none⟩) n cap) (vs.set i u) (m.set i qs)∧Kw w (w.setCell ⟨g,off+i,none⟩ u):=by
 subst hn;obtain⟨g2,off2,cap2,B,c,e,hb,hlt,hu,hc,-,-⟩:=h.at_ hi;injection e with e e1 e2;injection e with e;injection e with e3 e4;subst e3 e4 e2;have hk:Kw w (w.setCell ⟨g,off+i,none⟩ u):=sM hc (bJ _ _ _) u;have hl:=h.len;obtain⟨cs,hB⟩:∃cs,Blk w g bW cs:=by
  obtain⟨g',off',cap',cur,e,_,hh,_⟩:=h.outer.form (by omega);injection e with e;injection e with e;injection e with e;subst e;exact⟨_,hh⟩
 have away:∀{x:Value} {ys:List Rat},RRow w base x ys→RRow (w.setCell ⟨g,off+i,none⟩ u) base x ys:=fun hx=>hx.keep hk fun g' hg'=>
  Below.heap_setCell w _ u g' fun e=>hx.ne_outer hB (by rw[hg',e])
 refine⟨⟨?_,fun j x ys h1 h2=>?_,fun j k x y g' hjk h1 h2 h3=>?_⟩,hk⟩
 ·have:=h.outer.set_at (j:=i) (by omega) u;simpa using this
 ·by_cases hij:i=j
  ·subst hij;rw[List.getElem?_set_self (by omega)]at h1 h2;injection h1 with h1;injection h2 with h2;subst h1 h2;exact away hr
  ·rw[List.getElem?_set_ne hij]at h1 h2;exact away (h.inner j x ys h1 h2)
 ·by_cases hij:i=j
  ·subst hij;rw[List.getElem?_set_self (by omega)]at h1;injection h1 with h1;subst h1;rw[List.getElem?_set_ne hjk]at h2;exact hap k y g' (Ne.symm hjk) h2 h3
  ·rw[List.getElem?_set_ne hij]at h1;by_cases hik:i=k
   ·subst hik;rw[List.getElem?_set_self (by omega)]at h2;injection h2 with h2;subst h2;intro h4;exact hap j x g' (Ne.symm hij) h1 h4 h3
   ·rw[List.getElem?_set_ne hik]at h2;exact h.apart j k x y g' hjk h1 h2 h3
theorem LM.newer(h:LM w base v vs m){u:Value}(hu:∀g,u.ownBlock=some g→w.heap.size≤g):∀(j:Nat) (u':Value) (g':Nat),vs[j]?=some u'→u.ownBlock=some g'→u'.ownBlock≠some g':=by
 intro j u' g' h1 h2 h3;have hj:j<m.length:=by have:=(List.getElem?_eq_some_iff.1 h1).1;have:=h.len;omega
 have:=(h.inner j u' m[j] h1 (gE hj)).lt h3;have:=hu g' h2;omega
end
theorem own_ne{w:World}{base sz n:Nat}{e:TypeId}{v:Value}{xs:List Value}(h:Row w base e sz v n xs){b:Nat}{t:TypeId}{cs:Array Value}(hB:Blk w b t cs)(he:e≠t):∀g,v.ownBlock=some g→g≠b:=by
 intro g hg e';subst e';obtain⟨_,_,cur,hC⟩:=own_lt h hg;unfold Blk at hC hB;rw[hC]at hB;injection hB with hB;injection hB with _ ht;exact he ht
theorem Row.keepO{w w':World}{base sz n:Nat}{e:TypeId}{v:Value}{xs:List Value}(h:Row w base e sz v n xs)(hk:∀g,v.ownBlock=some g→w'.heap[g]?=w.heap[g]?):Row w' base e sz v n xs:=by
 refine⟨h.1,h.2.imp id ?_⟩;rintro⟨g,off,cap,cur,hv,hb,hh,r⟩;exact⟨g,off,cap,cur,hv,hb,(hk g (by rw[hv];rfl)).trans hh,r⟩
theorem lD:(Tryz.prog.info? aM).map (fun i=>(i.zero,i.size,i.bytes))=some (some (.agg mC),4,64):=by kernel_rfl
theorem aSk:(Tryz.prog.info? bW).map (fun i=>(i.zero,i.size,i.bytes))=some (some (.slice none 0 0),1,24):=by kernel_rfl
theorem aFc(n:Nat):∀u∈(madeCells mC n).toList,noWord u:=by
 intro u hu;unfold madeCells at hu;rw[Array.toList_map,List.mem_map]at hu;obtain⟨i,_,rfl⟩:=hu;have h4:i%4<4:=Nat.mod_lt _ (by decide);show noWord (mC[i%4]!);generalize i%4=j at h4;match j,h4 with
 |0,_=>exact bO _
 |1,_=>exact bJ _ _ _
 |2,_=>exact bO _
 |3,_=>exact bJ _ _ _
theorem xC(n:Nat)(hn:n≤1099511627776)(W:World): (Instr.makeSlice bW (.int .i64 (n:Int)) (.int .i64 (n:Int))).run Tryz.prog W= .ok (.slice (some ⟨W.heap.size,0,none⟩) n n) (W.alloc (.cells (madeCells mC (n*4)) aM)):=by
 obtain⟨i,hi,hz0,hz1,hz2⟩:=info_parts lD;have:=run_make (P:=Tryz.prog) W bW aM i _ Tryz.underlying111 hi hz0 .i64 .i64 n n (by omega) (by omega) (by rw[hz2];omega) (by omega);rw[this,Int.toNat_natCast,hz1];rfl
theorem Part.start(w:World)(n:Nat):Part w w.heap.size n [] (w.alloc (.cells (madeCells mC (n*4)) aM)):=⟨⟨(madeCells mC (n*4)).toList,by rw[Array.toArray_toList];exact Blk.new _ _ _,by simp[size_madeCells],aFc _,rfl⟩,Nat.zero_le _,(Below.refl _ _).alloc lR _⟩
theorem aSl(n:Nat):madeCells (Value.slice none 0 0).cells (n*1)=Array.replicate n (.slice none 0 0):=by
 apply Array.ext
 ·simp[size_madeCells]
 ·intro i h1 h2;simp[madeCells,Value.cells,Nat.mod_one]
theorem nP(n:Nat)(hn:n≤1099511627776)(W:World): (Instr.makeSlice 113 (.int .i64 (n:Int)) (.int .i64 (n:Int))).run Tryz.prog W= .ok (.slice (some ⟨W.heap.size,0,none⟩) n n) (W.alloc (.cells (Array.replicate n (.slice none 0 0)) bW)):=by
 obtain⟨i,hi,hz0,hz1,hz2⟩:=info_parts aSk;have:=run_make (P:=Tryz.prog) W 113 bW i _ Tryz.underlying113 hi hz0 .i64 .i64 n n (by omega) (by omega) (by rw[hz2];omega) (by omega);rw[this,Int.toNat_natCast,hz1,aSl]
theorem LM.start(w:World)(n:Nat)(hn:n≤maxLen):LM (w.alloc (.cells (Array.replicate n (.slice none 0 0)) bW)) w.heap.size (.slice (some ⟨w.heap.size,0,none⟩) n n) (List.replicate n (.slice none 0 0)) (List.replicate n []):=by
 refine⟨⟨by simp,.inr ⟨w.heap.size,0,n,_,by simp,Nat.le_refl _,Blk.new _ _ _,by simp,hn,by simp,by simp⟩⟩,fun i u qs h1 h2=>?_,fun i j u u' g hij h1 h2 h3=>?_⟩
 ·have h1:=List.mem_of_getElem? h1;have h2:=List.mem_of_getElem? h2;rw[(List.mem_replicate.1 h1).2,(List.mem_replicate.1 h2).2];exact RRow.nil _ _
 ·have h1:=List.mem_of_getElem? h1;rw[(List.mem_replicate.1 h1).2]at h3;cases h3
def mQ(w:World)(qs:List Rat)(e:Ending)(w':World):Prop:=∃v,e= .returned v∧RRow w' w.heap.size v qs∧Below w.heap.size w w'
def aXz(w:World)(m:List (List Rat))(e:Ending)(w':World):Prop:=∃v vs,e= .returned v∧LM w' w.heap.size v vs m∧Below w.heap.size w w'
def bBk(l:List ByteArray):Prop:=∀s∈l,dU (SL s)=0
theorem aCj(l:List ByteArray)(n:Nat)(A:Option Addr)(c:Nat)(w:World)(hr:Reads w w.heap.size 1 A n (l.map Sv))(hs:Sh1 l)(hv:bBk l)(hn:n≤1000000): Calls Tryz.prog 122 #[.slice A n c] w (mQ w (kD (tx1 l))):=by
 have hl:l.length=n:=by have:=hr.1;simpa using this
 have hmk:=xC n (by omega);have HP:=aH (Part.start w n);have HRD:=aH hr;have HS:=aH hs;have HV:=aH hv;clear hr hs hv;unfold bW at hmk;go_enter Tryz.func122,Tryz.ntmps122;go_wp2;clear hmk;go_loopg [11] (n-0) (fun r v wr=>∃k:Nat,r=n-k∧v=I k∧k≤n∧Hid (Part w w.heap.size n (kD (tx1 (l.take k))) wr));case atStart=>exact⟨0,rfl,rfl,by omega,HP⟩
 case round=>
  clear HP;obtain⟨k,rfl,rfl,hk,HP⟩:=hrel;obtain⟨wa,rfl⟩:=wE wr;by_cases hlt:k<n
  ·obtain⟨x,hx⟩:∃x,l[k]?=some x:=⟨_,gE (by omega)⟩;obtain⟨b,off,u,rfl,_,hu,hc⟩:=(HRD.out.below HP.out.below).at1 hlt;obtain rfl:u=Sv x:=by
    rw[List.getElem?_map,hx]at hu;simpa using hu.symm
   have hm:=List.mem_of_getElem? hx;have HC:=aH (zU x wa (HS.out x hm) (wF _ (HV.out x hm)));have HX:=aH (show kD (tx1 (l.take (k+1)))=kD (tx1 (l.take k))++[fM (SL x)] by
    rw[List.take_add_one,hx];simp[kD,tx1])
   have hlen:(kD (tx1 (l.take k))).length=k:=by simp[kD,tx1];omega
   clear hu hx hm;go_wp2_with fail;refine HC.out.mono ?_;rintro e w1 ⟨v,rfl,hv,hb⟩;obtain⟨x0,n0,c0,x1,n1,c1,rfl,-,-⟩:=hv.form;have hp1:=HP.out.call hb;obtain⟨o0,o1,o2,o3,hC⟩:=hp1.cells hlt;have hc0:=hC.c0;have hc1:=hC.c1;have hc2:=hC.c2;have hc3:=hC.c3;have f0:=hp1.frozen (k*4);have f1:=hp1.frozen (k*4+1);have f2:=hp1.frozen (k*4+2);have f3:=hp1.frozen (k*4+3);have HN:=aH (hp1.put (by omega) lR hv);rw[hlen,←HX.out]at HN;unfold put4 at HN;clear hC hp1 hb HC HP hc hv hlen HX;generalize decide ((fM (SL x)).num<0)=nb at*;go_wp2;go_roundg (n-(k+1));case measure=>omega
   case rel=>exact⟨k+1,rfl,by go_num,by omega,HN⟩
  ·have hkn:k=n:=by omega
   subst hkn;have HF:=aH (HP.out.row (by simp[kD,tx1];omega) lR (by unfold maxLen;omega));have HB:=aH HP.out.below;rw[List.take_of_length_le (by omega)]at HF;clear HP;go_wp2;go_ret;exact⟨_,rfl,HF.out,HB.out⟩
abbrev oU:TypeId:=51
abbrev aSm:TypeId:=47
theorem aSn:(Tryz.prog.info? oU).map (fun i=>(i.zero,i.size,i.bytes))=some (some (.string ⟨#[]⟩),1,16):=by kernel_rfl
theorem aSo:(Tryz.prog.info? aSm).map (fun i=>(i.zero,i.size,i.bytes))=some (some (.slice none 0 0),1,24):=by kernel_rfl
theorem aSp(n:Nat):madeCells (Value.string ⟨#[]⟩).cells (n*1)=Array.replicate n (Value.string ⟨#[]⟩):=by
 apply Array.ext
 ·simp[size_madeCells]
 ·intro i h1 h2;simp[madeCells,Value.cells,Nat.mod_one]
theorem aSq(n:Nat)(hn:n≤1099511627776)(W:World): (Instr.makeSlice 46 (.int .i64 (n:Int)) (.int .i64 (n:Int))).run Tryz.prog W= .ok (.slice (some ⟨W.heap.size,0,none⟩) n n) (W.alloc (.cells (Array.replicate n (Value.string ⟨#[]⟩)) oU)):=by
 obtain⟨i,hi,hz0,hz1,hz2⟩:=info_parts aSn;have:=run_make (P:=Tryz.prog) W 46 oU i _ Tryz.underlying46 hi hz0 .i64 .i64 n n (by omega) (by omega) (by rw[hz2];omega) (by omega);rw[this,Int.toNat_natCast,hz1,aSp]
structure PS(w:World)(g n:Nat)(ss:List ByteArray)(wr:World):Prop where
 blk:Blk wr g oU (ss.map Sv++List.replicate (n-ss.length) (Value.string ⟨#[]⟩)).toArray
 hn:ss.length≤n
 below:Below w.heap.size w wr
theorem PS.call{w:World}{g n:Nat}{ss:List ByteArray}{wr w':World}(h:PS w g n ss wr)(hb:Below wr.heap.size wr w'):PS w g n ss w':=⟨h.blk.below hb h.blk.lt,h.hn,h.below.trans (hb.mono h.below.size)⟩
theorem PS.start(w:World)(n:Nat):PS w w.heap.size n [] (w.alloc (.cells (Array.replicate n (Value.string ⟨#[]⟩)) oU)):=⟨by have:=Blk.new w oU (Array.replicate n (Value.string ⟨#[]⟩));simpa using this,Nat.zero_le _,(Below.refl _ _).alloc lR _⟩
theorem PS.put{w:World}{g n:Nat}{ss:List ByteArray}{wr:World}(h:PS w g n ss wr)(hlt:ss.length<n)(hg:w.heap.size≤g)(s:ByteArray):PS w g n (ss++[s]) (wr.setCell ⟨g,ss.length,none⟩ (.string s)):=by
 refine⟨?_,by simp;omega,h.below.setCell hg _⟩;have:=h.blk.set_ ss.length (.string s);obtain⟨d,hd⟩:∃d,n-ss.length=d+1:=⟨n-ss.length-1,by omega⟩;have hd2:n-(ss++[s]).length=d:=by simp;omega
 rw[hd,List.replicate_succ]at this;rw[hd2];simpa[List.set_append_right]using this
theorem PS.cell{w:World}{g n:Nat}{ss:List ByteArray}{wr:World}(h:PS w g n ss wr)(hlt:ss.length<n):wr.cell? ⟨g,ss.length,none⟩=some (.string ⟨#[]⟩):=by
 rw[h.blk.cell];obtain⟨d,hd⟩:∃d,n-ss.length=d+1:=⟨n-ss.length-1,by omega⟩;rw[hd,List.replicate_succ];simp
theorem PS.row{w:World}{g n:Nat}{ss:List ByteArray}{wr:World}(h:PS w g n ss wr)(he:ss.length=n)(hg:w.heap.size≤g)(hm:n≤maxLen):Row wr w.heap.size oU 1 (.slice (some ⟨g,0,none⟩) n n) ss.length (ss.map Sv):=by
 have hb:=h.blk;rw[he,Nat.sub_self,List.replicate_zero,List.append_nil]at hb;refine⟨by simp,.inr ⟨g,0,n,_,by rw[he],hg,hb,by omega,hm,by simp;omega,?_⟩⟩;rw[List.drop_zero,List.take_of_length_le (by simp)]
def mkS(l:List (List UInt8)):List ByteArray:=l.map fun s=>⟨s.toArray⟩
theorem zX(l:List (List UInt8)):tx1 (mkS l)=l:=by
 unfold tx1 mkS;rw[List.map_map]
 conv => rhs; rw [← List.map_id l]
 exact List.map_congr_left fun s _ => wU s
theorem aSr{q:Rat}(h:bK q=true):(⟨(aQ q).toArray⟩:ByteArray).size≤9223372036854775807:=by
 have:=aFa h;have e:(⟨(aQ q).toArray⟩:ByteArray).size=(aQ q).length:=by simp[ByteArray.size]
 omega
theorem aKd{l:List Rat}(h:l.all bK=true):Sh1 (mkS (l.map aQ)):=by
 intro s hs;unfold mkS at hs;rw[List.map_map]at hs;obtain⟨q,hq,rfl⟩:=List.mem_map.1 hs;rw[List.all_eq_true]at h;exact aSr (h q hq)
def bBl(w:World)(l:List Rat)(e:Ending)(w':World):Prop:=∃v,e= .returned (.tuple #[v,.bool (l.all bK)])∧(l.all bK=true→Row w' w.heap.size oU 1 v l.length ((mkS (l.map aQ)).map Sv))∧(l.all bK=false→v= .slice none 0 0)∧Below w.heap.size w w'
theorem aSs{v:Value}{a b:Bool}(h:a=b):Ending.returned (.tuple #[v,.bool a])= .returned (.tuple #[v,.bool b]):=by rw[h]
theorem aNg(l:List Rat)(n:Nat)(A:Option Addr)(c:Nat)(w:World)(hr:RV w A n l)(hn:n≤1000000)(htab:Tab w): Calls Tryz.prog 132 #[.slice A n c] w (bBl w l):=by
 have hl:=hr.len;have hmk:=aSq n (by omega);have HP:=aH (PS.start w n);have HRD:=aH hr;have HTB:=aH htab;clear hr htab;unfold oU at hmk;go_enter Tryz.func132,Tryz.ntmps132;go_wp2;clear hmk;go_loopg [14] (n-0) (fun r v wr=>∃k:Nat,r=n-k∧v=I k∧k≤n∧Hid (PS w w.heap.size n (mkS ((l.take k).map aQ)) wr)∧Hid ((l.take k).all bK=true));case atStart=>exact⟨0,rfl,rfl,by omega,HP,rfl⟩
 case round=>
  clear HP;obtain⟨k,rfl,rfl,hk,HP,HF⟩:=hrel;obtain⟨wa,rfl⟩:=wE wr;by_cases hlt:k<n
  ·obtain⟨q,hq⟩:∃x,l[k]?=some x:=⟨_,gE (by omega)⟩;obtain⟨b,off,nb,B1,l1,c1,B2,l2,c2,rfl,hbl,hC,hrt⟩:=(HRD.out.below HP.out.below).form hlt q hq;have hc0:=hC.c0;have hc1:=hC.c1;have hc2:=hC.c2;have hc3:=hC.c3;have hb:=(gV wa (.bool nb) (.slice B1 l1 c1) (.bool false) (.slice B2 l2 c2)).2;have HC:=aH (aNd _ q _ (hrt.ext hb) (aO HTB.out (HP.out.below.trans (hb.mono HP.out.below.size))));have HP0:=aH (HP.out.call hb);have HX:=aH (show l.take (k+1)=l.take k++[q] by rw[List.take_add_one,hq];rfl);have hlen:(mkS ((l.take k).map aQ)).length=k:=by simp[mkS];omega
   have HL:=aH (show l=l.take k++q::l.drop (k+1) by
    obtain⟨h1,h2⟩:=List.getElem?_eq_some_iff.1 hq;rw[←h2,←List.drop_eq_getElem_cons h1,List.take_append_drop])
   clear hq hC hrt hb HP;unfold aM at*;go_wp2_with fail;refine HC.out.mono ?_;rintro e w1 ⟨s,rfl,hs,hb⟩;have HP1:=aH (HP0.out.call hb);have HB1:=aH hb;clear hb HC HP0 hc0 hc1 hc2 hc3;by_cases hf:bK q=true
   ·obtain rfl:=hs hf;have hcell:=HP1.out.cell (by omega);have hfz:=HP1.out.blk.frozen k;have HN:=aH (HP1.out.put (by omega) lR ⟨(aQ q).toArray⟩);rw[hlen]at hcell HN;have HFN:=aH (show(l.take (k+1)).all bK=true by rw[HX.out,List.all_append,HF.out];simp[hf]);have e2:mkS ((l.take k).map aQ)++[⟨(aQ q).toArray⟩]=mkS ((l.take (k+1)).map aQ):=by
     rw[HX.out,List.map_append];simp[mkS]
    rw[e2]at HN;rw[hf];clear hs HP1 HB1 HX HF hlen e2 HL hf;go_wp2;go_roundg (n-(k+1));case measure=>omega
    case rel=>exact⟨k+1,rfl,by go_num,by omega,HN,HFN⟩
   ·have hf:bK q=false:=by simpa using hf
    have HA:=aH (show l.all bK=false by rw[HL.out,List.all_append,List.all_cons,hf];simp);have HBB:=aH HP1.out.below;rw[hf];clear hs HP1 HB1 HX HF hlen HL hf;go_wp2;go_ret2;exact⟨_,aSs HA.out.symm,fun h=>(by rw[HA.out]at h;cases h),fun _=>rfl,HBB.out⟩
  ·have hkn:k=n:=by omega
   subst hkn;have HA:=aH (show l.all bK=true by have:=HF.out;rwa [List.take_of_length_le (by omega)]at this);have HR:=aH (HP.out.row (by simp[mkS];omega) lR (by unfold maxLen;omega));have HBB:=aH HP.out.below;rw[List.take_of_length_le (by omega)]at HR;clear HP HF;go_wp2;go_ret2;refine⟨_,aSs HA.out.symm,fun _=>?_,fun h=>(by rw[HA.out]at h;cases h),HBB.out⟩;have:=HR.out;rwa [show(mkS (l.map aQ)).length=l.length by simp[mkS]]at this
def aYa(w:World)(l:List Rat)(e:Ending)(w':World):Prop:=∃v,e= .returned (.tuple #[v,I (txV l).2])∧(l.all bK=true→Row w' w.heap.size oU 1 v l.length ((mkS (l.map aQ)).map Sv))∧(l.all bK=false→v= .slice none 0 0)∧Below w.heap.size w w'
theorem aSt{v:Value}{a b:Int}(h:a=b):Ending.returned (.tuple #[v,I a])= .returned (.tuple #[v,I b]):=by rw[h]
theorem fX(l:List Rat)(n:Nat)(A:Option Addr)(c:Nat)(w:World)(hr:RV w A n l)(hn:n≤1000000)(htab:Tab w): Calls Tryz.prog 61 #[.slice A n c] w (aYa w l):=by
 have HC:=aH (aNg l n A c w hr hn htab);clear hr htab;go_enter Tryz.func61,Tryz.ntmps61;go_wp2_with fail;refine HC.out.mono ?_;rintro e w1 ⟨v,rfl,h1,h2,hb⟩;have H1:=aH h1;have HB:=aH hb;clear HC h1 hb;cases hf:l.all bK with
 |true=>
  have HE:=aH (show(txV l).2=0 by rw[txV,if_pos hf]);have HF:=aH hf;clear h2 hf;go_wp2;go_ret2;exact⟨_,aSt HE.out.symm,fun _=>H1.out HF.out,fun h=>(by rw[HF.out]at h;cases h),HB.out⟩
 |false=>
  have HE:=aH (show(txV l).2=2 by rw[txV,if_neg (by simp[hf])]);have HF:=aH hf;obtain rfl:=h2 hf;clear h2 hf;go_wp2;go_ret2;exact⟨_,aSt HE.out.symm,fun h=>(by rw[HF.out]at h;cases h),fun _=>rfl,HB.out⟩
def cF{α:Type}(m:List α)(d:α)(k n:Nat):List α:=m.take k++List.replicate (n-k) d
theorem jR{α:Type}(m:List α)(d:α)(n:Nat):cF m d 0 n=List.replicate n d:=by simp[cF]
theorem lE{α:Type}{m:List α}(d:α){n:Nat}(h:m.length=n):cF m d n n=m:=by simp[cF,←h]
theorem lF{α:Type}{m:List α}(d:α){k n:Nat}(h:m.length=n)(hk:k≤n):(cF m d k n).length=n:=by simp[cF];omega
theorem lG{α:Type}{m:List α}(d:α){k n:Nat}(h:m.length=n)(hk:k<n){x:α}(hx:m[k]?=some x):(cF m d k n).set k x=cF m d (k+1) n:=by
 unfold cF;obtain⟨j,hj⟩:∃j,n-k=j+1:=⟨n-k-1,by omega⟩;have hj2:n-(k+1)=j:=by omega
 rw[hj,hj2,List.replicate_succ,List.take_add_one,hx,List.set_append_right _ _ (by simp;omega)];have:k-(m.take k).length=0:=by simp;omega
 rw[this];simp
def RM(w:World)(A:Option Addr)(n:Nat)(m:List (List Rat)):Prop:=∃vs,Reads w w.heap.size 1 A n vs∧m.length=n∧∀(i:Nat) (u:Value) (qs:List Rat),vs[i]?=some u→m[i]?=some qs→∃B c,u= .slice B qs.length c∧RV w B qs.length qs
theorem RM.below{w w':World}{A:Option Addr}{n:Nat}{m:List (List Rat)}(h:RM w A n m)(hb:Below w.heap.size w w'):RM w' A n m:=by
 obtain⟨vs,h1,h2,h3⟩:=h;exact⟨vs,(h1.below hb).more hb.size,h2,fun i u l a b=>by
  obtain⟨B,c,e,h⟩:=h3 i u l a b;exact⟨B,c,e,h.below hb⟩⟩
theorem RM.len{w:World}{A:Option Addr}{n:Nat}{m:List (List Rat)}(h:RM w A n m):m.length=n:=by
 obtain⟨_,_,h,_⟩:=h;exact h
theorem RM.at_{w:World}{A:Option Addr}{n:Nat}{m:List (List Rat)}(h:RM w A n m){k:Nat}(hk:k<n)(qs:List Rat)(hl:m[k]?=some qs): ∃b off B c,A=some ⟨b,off,none⟩∧b<w.heap.size∧w.cell? ⟨b,off+k,none⟩=some (.slice B qs.length c)∧RV w B qs.length qs:=by
 obtain⟨vs,h1,h2,h3⟩:=h;obtain⟨b,off,u,e,hb,hu,hc⟩:=h1.at1 hk;obtain⟨B,c,rfl,hr⟩:=h3 k u qs hu hl;exact⟨b,off,B,c,e,hb,hc,hr⟩
theorem LM.val{w:World}{base:Nat}{v:Value}{vs:List Value}{m:List (List Rat)}(h:LM w base v vs m):∃A c,v= .slice A m.length c:=h.outer.val
theorem LM.rm{w:World}{base:Nat}{A:Option Addr}{n c:Nat}{vs:List Value}{m:List (List Rat)}(h:LM w base (.slice A n c) vs m):RM w A n m:=by
 have hn:n=m.length:=by
  obtain⟨A',c',e⟩:=h.val;injection e
 subst hn;refine⟨vs,h.outer.reads,rfl,fun i u qs h1 h2=>?_⟩;have hr:=h.inner i u qs h1 h2;obtain⟨B,c',rfl⟩:=hr.val;exact⟨B,c',rfl,hr.rv⟩
def bBm(m:List (List ByteArray)):Prop:=∀l∈m,bBk l∧l.length≤1000000
theorem mF(m:List (List ByteArray))(n:Nat)(A:Option Addr)(c:Nat)(w:World)(hm:SMat w A n m)(hs:Sh2 m)(hv:bBm m)(hn:n≤1000000): Calls Tryz.prog 123 #[.slice A n c] w (aXz w (bZ (tx2 m))):=by
 have hl:m.length=n:=by obtain⟨_,_,h,_⟩:=hm;exact h
 have hvl:(bZ (tx2 m)).length=n:=by simp[bZ,tx2,hl]
 have hmk:=nP n (by omega);have HP:=aH (show∃vs,LM (w.alloc (.cells (Array.replicate n (Value.slice none 0 0)) bW)) w.heap.size (.slice (some ⟨w.heap.size,0,none⟩) n n) vs (cF (bZ (tx2 m)) [] 0 n)from⟨_,by rw[jR];exact LM.start w n (by unfold maxLen;omega)⟩);have HB:=aH ((Below.refl w.heap.size w).alloc lR (.cells (Array.replicate n (Value.slice none 0 0)) bW));have HM:=aH hm;have HS:=aH hs;have HV:=aH hv;clear hm hs hv;unfold bW at hmk;go_enter Tryz.func123,Tryz.ntmps123;go_wp2;clear hmk;go_loopg [11] (n-0) (fun r v wr=>∃k:Nat,r=n-k∧v=I k∧k≤n∧Hid (∃vs,LM wr w.heap.size (.slice (some ⟨w.heap.size,0,none⟩) n n) vs (cF (bZ (tx2 m)) [] k n))∧Hid (Below w.heap.size w wr));case atStart=>exact⟨0,rfl,rfl,by omega,HP,HB⟩
 case round=>
  clear HP HB;obtain⟨k,rfl,rfl,hk,HP,HB⟩:=hrel;obtain⟨wa,rfl⟩:=wE wr;by_cases hlt:k<n
  ·obtain⟨x,hx⟩:∃x,m[k]?=some x:=⟨_,gE (by omega)⟩;obtain⟨b,off,B,d,rfl,hc,hr⟩:=(HM.out.below HB.out).at_ hlt x hx;have hmem:=List.mem_of_getElem? hx;have HC:=aH (aCj x x.length B d wa hr (HS.out x hmem) (HV.out x hmem).1 (HV.out x hmem).2);have HX:=aH (show(bZ (tx2 m))[k]?=some (kD (tx1 x)) by simp[bZ,tx2,hx]);clear hx hmem hr;go_wp2_with fail;refine HC.out.mono ?_;rintro e w1 ⟨v,rfl,hv,hb⟩;obtain⟨vs,hLM⟩:=HP.out;have hfl:(cF (bZ (tx2 m)) [] k n).length=n:=lF _ hvl hk;have h1:=hLM.call hb;have hap:=hLM.newer (u:=v) (fun g hg=>(hv.lt hg).1);obtain⟨g,o2,cap,B2,c2,e2,hg1,hg2,-,hcell,hfz,-⟩:=h1.at_ (i:=k) (by omega);obtain⟨rfl,rfl⟩:=mE e2;clear e2;have h2:=h1.put (i:=k) hfl hlt (hv.less HB.out.size) (fun j u' g' _=>hap j u' g');rw[lG _ hvl hlt HX.out,Nat.zero_add]at h2;rw[Nat.zero_add]at hcell hfz;have HN:=aH (show∃vs,LM (w1.setCell ⟨w.heap.size,k,none⟩ v) w.heap.size (.slice (some ⟨w.heap.size,0,none⟩) n n) vs (cF (bZ (tx2 m)) [] (k+1) n)from⟨_,h2.1⟩);have HB1:=aH ((HB.out.trans (hb.mono HB.out.size)).setCell (p:=⟨w.heap.size,k,none⟩) lR v);obtain⟨Av,cv,rfl⟩:=hv.val;generalize(kD (tx1 x)).length=lx at*;generalize((cF (bZ (tx2 m)) [] k n).getD k []).length=ln at*;have HVL:=aH hvl;clear hvl hl;clear h1 h2 hap hLM HP HB hb HC HX hv hg1 hg2 hc hfl;go_wp2;go_roundg (n-(k+1));case measure=>omega
   case rel=>exact⟨k+1,rfl,by go_num,by omega,HN,HB1⟩
  ·have hkn:k=n:=by omega
   subst hkn;obtain⟨vs,hLM⟩:=HP.out;rw[lE _ hvl]at hLM;have HF:=aH hLM;clear hLM HP;go_wp2;go_ret;exact⟨_,_,rfl,HF.out,HB.out⟩
end Go.Proofs.YtenbglfkdldheaaGreatDoor
