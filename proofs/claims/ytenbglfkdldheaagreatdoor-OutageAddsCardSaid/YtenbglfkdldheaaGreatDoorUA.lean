/- Words for memory: slices that read as lists of cells, rows that the call owns, blocks that are known whole; append, reslice, store and load on them. No program here. Numbers in 32-bit words, the lowest one first: plain facts. No program here. large.addWords. large.subWords, large.cmpWords. Integers in memory; large.norm. large.Int: Sign, Neg, Add, Sub, Cmp. large.Int: Sub, Cmp, Of. large.Int: Mul. -/
import Derived.WalkKit
import Derived.WalkSpells
import Derived.WalkLawsBesides
import Derived.Lib.Hide
import Derived.Deep.Draws
import Derived.Test.YtenbglfkdldheaaGreatDoorProg
import Derived.Deep.LoopGhost
import Derived.IntWalk
import Derived.Deep.QuietTactic
import Derived.BigQuiet
import Derived.Deep.RegionHeld3
import Derived.Outline
set_option maxRecDepth 100000
set_option maxHeartbeats 4000000
namespace Go.Proofs.YtenbglfkdldheaaGreatDoor
section
open Go.RowKit
theorem aH{p:Prop}(h:p):Hid p:=Lib.hid h
theorem gD{α:Type _}{l:List α}{i:Nat}{a:α}:l.getD i a=l[i]?.getD a:=List.getD_eq_getElem?_getD
theorem gE{α:Type _}{l:List α}{i:Nat}(h:i<l.length):l[i]?=some l[i]:=List.getElem?_eq_getElem h
theorem lR{n:Nat}:n≤n:=Nat.le_refl n
theorem wE(w:World):∃a:World,a=w:=⟨w,rfl⟩
theorem aE{k:IntKind}{a b:Int}(h:a=b):Ending.returned (.int k a)= .returned (.int k b):=by rw[h]
theorem cX{a b:Bool}(h:a=b):Ending.returned (.bool a)= .returned (.bool b):=by rw[h]
abbrev I(n:Int):Value:= .int .i64 n
def Blk(w:World)(g:Nat)(t:TypeId)(cs:Array Value):Prop:=w.heap[g]?=some (.cells cs t (0,0))
section
variable {w w':World} {g:Nat} {t:TypeId} {cs:Array Value}
theorem Blk.lt(h:Blk w g t cs):g<w.heap.size:=(Array.getElem?_eq_some_iff.1 h).1
theorem Blk.cell(h:Blk w g t cs)(i:Nat):w.cell? ⟨g,i,none⟩=cs[i]?:=cell_of_row w g i cs t (0,0) h
theorem Blk.frozen(h:Blk w g t cs)(i:Nat):w.frozen? ⟨g,i,none⟩=false:=by
 unfold Blk at h;simp[World.frozen?,h]
theorem Blk.new(w:World)(t:TypeId)(cs:Array Value):Blk (w.alloc (.cells cs t)) w.heap.size t cs:=heap_alloc_new w _
theorem Blk.alloc(h:Blk w g t cs)(o:Obj):Blk (w.alloc o) g t cs:=(Below.heap_alloc w o g h.lt).trans h
theorem Blk.set_(h:Blk w g t cs)(i:Nat)(u:Value):Blk (w.setCell ⟨g,i,none⟩ u) g t (cs.setIfInBounds i u):=by
 unfold Blk at h⊢;simp[World.setCell,Array.getElem?_modify,h]
theorem Blk.far(h:Blk w g t cs){p:Addr}(hp:g≠p.block)(u:Value):Blk (w.setCell p u) g t cs:=(Below.heap_setCell w p u g hp).trans h
theorem Blk.below{B:Nat}(h:Blk w g t cs)(hb:Below B w w')(hg:g<B):Blk w' g t cs:=(hb.block g hg).trans h
end
def Reads(w:World)(B sz:Nat)(A:Option Addr)(n:Nat)(xs:List Value):Prop:=xs.length=n*sz∧(0<n→∃b off,A=some ⟨b,off,none⟩∧b<B∧∀j u,xs[j]?=some u→w.cell? ⟨b,off+j,none⟩=some u)
section
variable {w w':World} {B B' sz n:Nat} {A:Option Addr} {xs:List Value}
theorem Reads.keep(h:Reads w B sz A n xs)(hk:∀p:Addr,p.block<B→w'.cell? p=w.cell? p):Reads w' B sz A n xs:=⟨h.1,fun hn=>by
  obtain⟨b,off,e,hb,hc⟩:=h.2 hn;exact⟨b,off,e,hb,fun j u hu=>(hk _ hb).trans (hc j u hu)⟩⟩
theorem Reads.more(h:Reads w B sz A n xs)(hB:B≤B'):Reads w B' sz A n xs:=⟨h.1,fun hn=>by
  obtain⟨b,off,e,hb,hc⟩:=h.2 hn;exact⟨b,off,e,by omega,hc⟩⟩
theorem Reads.below(h:Reads w B sz A n xs)(hb:Below B w w'):Reads w' B sz A n xs:=h.keep fun _ hp=>hb.cell hp
theorem Reads.nil:Reads w B sz A 0 []:=⟨by simp,fun h=>absurd h (by omega)⟩
theorem Reads.at1(h:Reads w B 1 A n xs){k:Nat}(hk:k<n):∃b off u,A=some ⟨b,off,none⟩∧b<B∧xs[k]?=some u∧w.cell? ⟨b,off+k,none⟩=some u:=by
 obtain⟨b,off,e,hb,hc⟩:=h.2 (by omega);have hl:k<xs.length:=by have:=h.1;omega
 exact⟨b,off,xs[k],e,hb,gE hl,hc k _ (gE hl)⟩
theorem Reads.take(h:Reads w B sz A n xs){k:Nat}(hk:k≤n):Reads w B sz A k (xs.take (k*sz)):=by
 have hle:k*sz≤n*sz:=Nat.mul_le_mul_right _ hk;refine⟨by rw[List.length_take,h.1];omega,fun h0=>?_⟩;obtain⟨b,off,e,hb,hc⟩:=h.2 (by omega);refine⟨b,off,e,hb,fun j u hu=>hc j u ?_⟩;rw[List.getElem?_take]at hu;split at hu
 ·exact hu
 ·cases hu
end
def Row(w:World)(base:Nat)(e:TypeId)(sz:Nat)(v:Value)(n:Nat)(xs:List Value):Prop:=xs.length=n*sz∧
 ((v= .slice none 0 0∧n=0)∨ ∃g off cap cur,v= .slice (some ⟨g,off,none⟩) n cap∧base≤g∧Blk w g e cur∧n≤cap∧cap≤maxLen∧off+cap*sz≤cur.size∧(cur.toList.drop off).take (n*sz)=xs)
section
variable {w w':World} {base base':Nat} {e:TypeId} {sz:Nat} {v:Value} {n:Nat} {xs:List Value}
theorem Row.nil(w:World)(base:Nat)(e:TypeId)(sz:Nat):Row w base e sz (.slice none 0 0) 0 []:=⟨by simp,.inl ⟨rfl,rfl⟩⟩
theorem Row.of_own(h:w.ownsRow base e sz v n xs):Row w base e sz v n xs:=by
 obtain⟨h1,h2⟩:=h;refine⟨h1,h2.imp id ?_⟩;rintro⟨g,cap,cur,hv,hb,hh,hn,hm,hs,ht⟩;exact⟨g,0,cap,cur,hv,hb,hh,hn,hm,by omega,by simpa using ht⟩
theorem Row.keep(h:Row w base e sz v n xs)(hk:∀g,base≤g→g<w.heap.size→w'.heap[g]?=w.heap[g]?):Row w' base e sz v n xs:=by
 obtain⟨h1,h2⟩:=h;refine⟨h1,h2.imp id ?_⟩;rintro⟨g,off,cap,cur,hv,hb,hh,r⟩;exact⟨g,off,cap,cur,hv,hb,(hk g hb hh.lt).trans hh,r⟩
theorem Row.alloc(h:Row w base e sz v n xs)(o:Obj):Row (w.alloc o) base e sz v n xs:=h.keep fun g _ hg=>Below.heap_alloc w o g hg
theorem Row.call(h:Row w base e sz v n xs)(hb:Below w.heap.size w w'):Row w' base e sz v n xs:=h.keep fun g _ hg=>hb.block g hg
theorem Row.setCell(h:Row w base e sz v n xs){p:Addr}(hp:p.block<base)(u:Value):Row (w.setCell p u) base e sz v n xs:=h.keep fun g hg _=>Below.heap_setCell w p u g (by omega)
theorem Row.less(h:Row w base e sz v n xs)(hb:base'≤base):Row w base' e sz v n xs:=by
 obtain⟨h1,h2⟩:=h;refine⟨h1,h2.imp id ?_⟩;rintro⟨g,off,cap,cur,hv,hb,r⟩;exact⟨g,off,cap,cur,hv,by omega,r⟩
theorem Row.val(h:Row w base e sz v n xs):∃A c,v= .slice A n c:=by
 rcases h.2 with⟨rfl,rfl⟩|⟨g,off,cap,cur,rfl,_⟩
 ·exact⟨_,_,rfl⟩
 ·exact⟨_,_,rfl⟩
theorem Row.reads{A:Option Addr}{c:Nat}(h:Row w base e sz (.slice A n c) n xs):Reads w w.heap.size sz A n xs:=by
 refine⟨h.1,fun hn=>?_⟩;rcases h.2 with⟨hv,h0⟩|⟨g,off,cap,cur,hv,hb,hh,hnc,hm,hs,ht⟩
 ·omega
 ·injection hv with hA _ _;refine⟨g,off,hA,hh.lt,fun j u hu=>?_⟩;rw[hh.cell];rw[←ht,List.getElem?_take]at hu;split at hu
  ·simpa using hu
  ·cases hu
theorem Row.form(h:Row w base e sz v n xs)(hn:0<n):∃g off cap cur,v= .slice (some ⟨g,off,none⟩) n cap∧base≤g∧Blk w g e cur∧n≤cap∧cap≤maxLen∧off+cap*sz≤cur.size∧(cur.toList.drop off).take (n*sz)=xs:=by
 rcases h.2 with⟨_,h0⟩|h2
 ·omega
 ·exact h2
end
theorem Row.cut{w:World}{base:Nat}{e:TypeId}{sz:Nat}{xs:List Value}{g off n cap:Nat}(h:Row w base e sz (.slice (some ⟨g,off,none⟩) n cap) n xs)(k:Nat)(hk:k≤n): Row w base e sz (sliced (some ⟨g,off,none⟩) k n cap sz) (n-k) (xs.drop (k*sz)):=by
 rcases h.2 with⟨hv,h0⟩|⟨g',off',cap',cur,hv,hb,hh,hnc,hm,hs,htk⟩
 ·cases hv
 ·injection hv with hA _ hc;injection hA with hA;injection hA with hg ho;subst hg ho hc;refine⟨by rw[List.length_drop,h.1,Nat.sub_mul],.inr ?_⟩;by_cases hck:cap=k
  ·refine⟨g,off,cap-k,cur,by simp[sliced,hck],hb,hh,by omega,by omega,?_,?_⟩
   ·rw[hck];simp;have:0≤cap*sz:=Nat.zero_le _;omega
   ·have h1:n-k=0:=by omega
    have h2:xs.drop (k*sz)=[]:=by
     apply List.drop_eq_nil_of_le;rw[h.1];exact Nat.mul_le_mul_right _ (by omega)
    simp[h1,h2]
  ·refine⟨g,off+k*sz,cap-k,cur,by simp[sliced,hck,Addr.add_lit],hb,hh,by omega,by omega,?_,?_⟩
   ·rw[Nat.sub_mul];have:k*sz≤cap*sz:=Nat.mul_le_mul_right _ (by omega);omega
   ·rw[←htk,List.drop_take,List.drop_drop,Nat.sub_mul]
theorem aUq{P:Program}{e t:TypeId}{sz:Nat}(ht:P.underlying t=some (.slice e))(hz:∀W:World,(sizeOf e).run P W= .ok sz W)(A:Option Addr)(n cap:Nat)(l:Int)(h0:0≤l)(h1:l≤n)(W:World): (Instr.sliceAt t (.slice A n cap) (some (.int .i64 l)) none none).run P W= .ok (sliced A l.toNat n cap sz) W:=by
 have he:P.elem t=e:=by simp[Program.elem,ht]
 have ht':P.underlying t=some (.slice (P.elem t)):=by rw[he];exact ht
 rw[run_sliceAt_slice W t _ _ _ _ ht',run_slice_l W t A n cap ht' .i64 l h0 h1,he,hz];rfl
theorem dR{P:Program}(w:World)(t ty e:TypeId)(i:TypeInfo)(ht:P.underlying t=some (.slice e))(hi:P.info? e=some i) (g off n cap:Nat)(cur:Array Value)(hg:Blk w g e cur)(ad:Addr)(m c:Nat)(news:List Value)(hl:news.length=m*i.size)(hnews:∀j u,news[j]?=some u→w.cell? (ad.add j)=some u)(h1:∀u∈news,u.oneCell'=true)
  (hroom:n+m≤cap)(hfit:off+n*i.size+news.length≤cur.size):
  (Builtin.append_ #[t,t] ty #[.slice (some ⟨g,off,none⟩) n cap,.slice (some ad) m c]).run P w= .ok (.slice (some ⟨g,off,none⟩) (n+m) cap) (w.setRow g (cur.toList.take (off+n*i.size)++news++cur.toList.drop (off+n*i.size+news.length)).toArray):=by
 have hfc:=run_firstCells_some (P:=P) w i.size m ad m c news hl hnews;have hst:=run_storeCells_at P g (off+n*i.size) e news 0 cur w hg (by simpa using hfit) h1;simp only[Nat.add_zero]at hst;simp[Builtin.append_,run_underlying ht,sizeOf,typeInfo,hi,Builtin.lenOf,hroom,hfc,Addr.add_lit,hst]
theorem eB{P:Program}(w:World)(base:Nat)(t ty e:TypeId)(i:TypeInfo)(ht:P.underlying t=some (.slice e))(hi:P.info? e=some i)(sz n:Nat)(v:Value)(xs:List Value) (hr:Row w base e sz v n xs)(c:Nat):(Builtin.append_ #[t,t] ty #[v,.slice none 0 c]).run P w= .ok v w:=by
 rcases hr.2 with⟨rfl,rfl⟩|⟨g,off,cap,cur,rfl,_,_,hnc,_⟩
 ·simp[Builtin.append_,run_underlying ht,sizeOf,typeInfo,hi,Builtin.lenOf,Builtin.firstCells]
 ·simp[Builtin.append_,run_underlying ht,sizeOf,typeInfo,hi,Builtin.lenOf,Builtin.firstCells,hnc,storeCells]
theorem nY{cur news xs:List Value}{off n m:Nat}(hx:(cur.drop off).take n=xs)(hxl:xs.length=n)(hn:news.length=m)(hfit:off+n+m≤cur.length): ((cur.take (off+n)++news++cur.drop (off+n+m)).drop off).take (n+m)=xs++news:=by
 have h1:cur.take (off+n)=cur.take off++xs:=by rw[List.take_add,hx]
 rw[h1,List.append_assoc,List.append_assoc,List.drop_append_of_le_length (by simp;omega),List.drop_of_length_le (by simp;omega),List.nil_append,←List.append_assoc];rw[List.take_append_of_le_length (by simp;omega),List.take_of_length_le (by simp;omega)]
theorem uS{P:Program}(w:World)(base:Nat)(t ty e:TypeId)(i:TypeInfo)(z:Value)(sz bytes:Nat)(ht:P.underlying t=some (.slice e))(hi:P.info? e=some i)(hz:i.zero=some z) (hsize:i.size=sz)(hby:i.bytes=bytes)(hzs:z.cells.size=sz)(hsz:0<sz)
  (v:Value)(n:Nat)(xs:List Value)(hr:Row w base e sz v n xs)
  (B:Nat)(A:Option Addr)(m c:Nat)(news:List Value)(hs:Reads w B sz A m news)(h1:∀u∈news,u.oneCell'=true)
  (h63:n+m≤maxLen)(hbytes:(n+m)*bytes≤140737488355328)(hbase:base≤w.heap.size):
  ∃v' w',(Builtin.append_ #[t,t] ty #[v,.slice A m c]).run P w= .ok v' w'∧Row w' base e sz v' (n+m) (xs++news)∧Below base w w':=by
 have keep:∀{w':World} {row:Option Nat},w.grownBy w' row→(∀k,row=some k→base≤k)→Below base w w':=fun hg hk=>(Below.refl base w).grown hg hbase hk
 rcases A with _|ad
 ·have hm:m=0:=by
   rcases Nat.eq_zero_or_pos m with h0|h0
   ·exact h0
   ·obtain⟨b,off,h,_⟩:=hs.2 h0;cases h
  subst hm;have hn:news=[]:=List.eq_nil_of_length_eq_zero (by simpa using hs.1);subst hn;exact⟨v,w,eB w base t ty e i ht hi sz n v xs hr c,by simpa using hr,Below.refl _ _⟩
 ·have hcells:∀j u,news[j]?=some u→w.cell? (ad.add j)=some u:=by
   intro j u hu;rcases Nat.eq_zero_or_pos m with h0|h0
   ·subst h0;have hn:news=[]:=List.eq_nil_of_length_eq_zero (by simpa using hs.1);subst hn;simp at hu
   ·obtain⟨b,off,h,_,hc⟩:=hs.2 h0;injection h with h;subst h;rw[Addr.add_lit];exact hc j u hu
  rcases hr.2 with⟨rfl,rfl⟩|⟨g,off,cap,cur,rfl,hbg,hg,hnc,hcm,hcs,htake⟩
  ·have hx:xs=[]:=List.eq_nil_of_length_eq_zero (by simpa using hr.1);subst hx;obtain⟨v',w',hrun,h2,h3,_⟩:=run_append_own (P:=P) w base t ty e i z sz bytes ht hi hz hsize hby hzs hsz (.slice none 0 0) 0 [] (World.ownsRow_nil w _ e sz) ad m c news hs.1 hcells h1 h63 hbytes hbase;exact⟨v',w',hrun,Row.of_own h2,keep h3 (by simp[Value.ownBlock])⟩
  ·by_cases hroom:n+m≤cap
   ·subst hsize;have hle:(n+m)*i.size≤cap*i.size:=Nat.mul_le_mul_right _ hroom;rw[Nat.add_mul]at hle;have hl:=hs.1;have hfit:off+n*i.size+news.length≤cur.size:=by omega
    refine⟨_,_,dR w t ty e i ht hi g off n cap cur hg ad m c news hs.1 hcells h1 hroom hfit,⟨by rw[List.length_append,hr.1,hl,Nat.add_mul],.inr ⟨g,off,cap,_,rfl,hbg,setRow_heap w g cur _ e _ hg,hroom,hcm,?_,?_⟩⟩,?_⟩
    ·simp only[List.size_toArray,List.length_append,List.length_take,List.length_drop,Array.length_toList];omega
    ·simp only;rw[Nat.add_mul,←hl];have:=nY (m:=news.length) htake hr.1 rfl (by simpa using hfit);exact this
    ·exact⟨rfl,rfl,rfl,by simp[World.setRow],fun k hk=>setRow_other w g k _ (by omega)⟩
   ·have holds:∀j u,xs[j]?=some u→w.cell? ((⟨g,off,none⟩:Addr).add j)=some u:=by
     intro j u hu;rw[Addr.add_lit,hg.cell];rw[←htake,List.getElem?_take]at hu;split at hu
     ·simpa using hu
     ·cases hu
    obtain⟨v',w',hrun,h2,h3⟩:=run_append_arg_grows (P:=P) w t ty e i z sz bytes ht hi hz hsize hby hzs hsz ⟨g,off,none⟩ n cap xs hr.1 holds ad m c news hs.1 hcells (by omega) h63 hbytes;exact⟨v',w',hrun,(Row.of_own h2).less hbase,keep h3 (by simp)⟩
theorem bR{P:Program}{w:World}{ops:Array Oper}{rest:List Oper}{o:Oper}{a:Act}{Q:Exit→Act→World→Prop}(hgd:o.guard=none)(s x:Operand)(t:TypeId) (ho:o.op= .call {callee:= .builtin .append,args:=#[s,x],argTypes:=#[t,t]})
  (base:Nat)(e:TypeId)(i:TypeInfo)(z:Value)(sz bytes:Nat)(ht:P.underlying t=some (.slice e))(hi:P.info? e=some i)(hz:i.zero=some z)
  (hsize:i.size=sz)(hby:i.bytes=bytes)(hzs:z.cells.size=sz)(hsz:0<sz)
  (v:Value)(n:Nat)(xs:List Value)(hsv:a.eval s=v)(hr:Row w base e sz v n xs)
  (B:Nat)(A:Option Addr)(m c:Nat)(news:List Value)(hx:a.eval x= .slice A m c)(hs:Reads w B sz A m news)(h1:∀u∈news,u.oneCell'=true)
  (h63:n+m≤maxLen)(hbytes:(n+m)*bytes≤140737488355328)(hbase:base≤w.heap.size)
  (h:∀v' w',Row w' base e sz v' (n+m) (xs++news)→Below base w w'→wpList P ops Q rest (a.put o.dst v') w'):wpList P ops Q (o::rest) a w:=by
 refine wpList_plain hgd fun K hK=>?_;obtain⟨v',w',hrun,h2,h3⟩:=uS (P:=P) w base t o.type e i z sz bytes ht hi hz hsize hby hzs hsz v n xs hr B A m c news hs h1 h63 hbytes hbase;unfold Oper.wp execOp;simp only[ho,resolve,invoke,builtin,Sem.run_bind,Sem.run_pure,Result.andThen_ok,List.map_toArray,List.map_cons,List.map_nil,hsv,hx,hrun];exact hK _ _ (h v' w' h2 h3)
theorem kN(w:World)(t:TypeId)(u:Value):Reads (w.alloc (.cells #[u] t)) (w.heap.size+1) 1 (some ⟨w.heap.size,0,none⟩) 1 [u]:=by
 refine⟨rfl,fun _=>⟨_,_,rfl,by omega,fun j x hx=>?_⟩⟩;rw[(Blk.new w t #[u]).cell];cases j with
 |zero=>simpa using hx
 |succ j=>simp at hx
theorem Row.ints{w:World}{base:Nat}{e:TypeId}{v:Value}{xs:List Int}{n:Nat}(h:Row w base e 1 v n (xs.map I))(hn:0<n): ∃b off cap,v= .slice (some ⟨b,off,none⟩) n cap∧b<w.heap.size∧n≤cap∧∀i,i<n→w.cell? ⟨b,off+i,none⟩=some (I (xs.getD i 0)):=by
 obtain⟨g,off,cap,cur,rfl,hb,hh,hnc,hm,hs,ht⟩:=h.form hn;refine⟨g,off,cap,rfl,hh.lt,hnc,fun i hi=>?_⟩;obtain⟨b',off',e',_,hc⟩:=h.reads.2 hn;injection e' with e';injection e' with e1 e2;subst e1 e2;have hl:=h.1;have hlt:i<xs.length:=by simp at hl;omega
 exact hc i _ (by simp[hlt])
theorem Row.one(w:World)(base:Nat)(e:TypeId)(u:Value)(hb:base≤w.heap.size):Row (w.alloc (.cells #[u] e)) base e 1 (.slice (some ⟨w.heap.size,0,none⟩) 1 1) 1 [u]:=⟨rfl,.inr ⟨w.heap.size,0,1,#[u],rfl,hb,Blk.new w e _,Nat.le_refl _,by simp[maxLen],by simp,by simp⟩⟩
theorem Row.pop{w:World}{base:Nat}{e:TypeId}{v:Value}{n:Nat}{x:Value}{xs:List Value}(h:Row w base e 1 v (n+1) (x::xs)): ∃g off cap,v= .slice (some ⟨g,off,none⟩) (n+1) cap∧base≤g∧g<w.heap.size∧w.cell? ⟨g,off,none⟩=some x∧Row w base e 1 (sliced (some ⟨g,off,none⟩) 1 (n+1) cap 1) n xs:=by
 obtain⟨g,off,cap,cur,rfl,hb,hh,hn,hm,hs,ht⟩:=h.form (by omega);refine⟨g,off,cap,rfl,hb,hh.lt,?_,?_⟩
 ·obtain⟨b,off',e',_,hc⟩:=h.reads.2 (by omega);injection e' with e';injection e' with e1 e2;subst e1 e2;exact hc 0 x rfl
 ·exact h.cut 1 (by omega)
def eD(l:List (Int×Int)):List Value:=l.flatMap fun x=>[I x.1,I x.2]
theorem aGg(l:List (Int×Int)):(eD l).length=l.length*2:=by
 induction l with
 |nil=>rfl
 |cons x l ih=>simp only[eD,List.flatMap_cons,List.length_append,List.length_cons,List.length_nil]at ih⊢;omega
theorem aLc(l:List (Int×Int))(k:Nat)(x:Int×Int)(h:l[k]?=some x):(eD l)[k*2]?=some (I x.1)∧(eD l)[k*2+1]?=some (I x.2):=by
 induction l generalizing k with
 |nil=>simp at h
 |cons y l ih=>
  cases k with
  |zero=>simp at h;subst h;exact⟨rfl,rfl⟩
  |succ k=>
   have:=ih k (by simpa using h);simp only[eD,List.flatMap_cons]at this⊢;have e1:(k+1)*2=k*2+2:=by omega
   rw[e1];exact this
theorem yN{w:World}{B n:Nat}{A:Option Addr}{l:List (Int×Int)}(h:Reads w B 2 A n (eD l)){k:Nat}(hk:k<l.length): ∃b off,A=some ⟨b,off,none⟩∧b<B∧w.cell? ⟨b,off+k*2,none⟩=some (I (l[k]).1)∧w.cell? ⟨b,off+k*2+1,none⟩=some (I (l[k]).2):=by
 have hl:n=l.length:=by have:=h.1;rw[aGg]at this;omega
 obtain⟨b,off,e,hb,hc⟩:=h.2 (by omega);have:=aLc l k l[k] (by simp[hk]);exact⟨b,off,e,hb,hc _ _ this.1,by have:=hc _ _ this.2;rwa [←Nat.add_assoc]at this⟩
def bY(w:World)(p:Addr):Value:=(w.cell? p).getD undef
theorem Blk.drew{w:World}{g:Nat}{t:TypeId}{cs:Array Value}(h:Blk w g t cs):Blk w.drew g t cs:=h
theorem Reads.drew{w:World}{B sz n:Nat}{A:Option Addr}{xs:List Value}(h:Reads w B sz A n xs):Reads w.drew B sz A n xs:=h.keep fun _ _=>rfl
theorem Row.empty(w:World)(base:Nat)(e:TypeId)(sz:Nat)(hb:base≤w.heap.size):Row (w.alloc (.cells #[] e)) base e sz (.slice (some ⟨w.heap.size,0,none⟩) 0 0) 0 []:=⟨by simp,.inr ⟨w.heap.size,0,0,#[],rfl,hb,Blk.new w e _,Nat.le_refl _,by simp[maxLen],by simp,by simp⟩⟩
theorem Row.set_at{w:World}{base g off n cap sz:Nat}{e:TypeId}{xs:List Value}(h:Row w base e sz (.slice (some ⟨g,off,none⟩) n cap) n xs){j:Nat}(_hj:j<n*sz)(u:Value): Row (w.setCell ⟨g,off+j,none⟩ u) base e sz (.slice (some ⟨g,off,none⟩) n cap) n (xs.set j u):=by
 rcases h.2 with⟨hv,h0⟩|⟨g',off',cap',cur,hv,hb,hh,hnc,hm,hs,ht⟩
 ·cases hv
 ·injection hv with hA _ hc;injection hA with hA;injection hA with hg ho;subst hg ho hc;refine⟨by simpa using h.1,.inr ⟨g,off,cap,_,rfl,hb,hh.set_ _ u,hnc,hm,by simpa using hs,?_⟩⟩;rw[←ht,Array.toList_setIfInBounds,List.drop_set];rw[if_neg (by omega),Nat.add_sub_cancel_left,List.take_set]
def aN{α:Type}(f:α→List Value)(l:List α):List Value:=l.flatMap f
theorem dY{α:Type}{f:α→List Value}{sz:Nat}(hf:∀x,(f x).length=sz)(l:List α):(aN f l).length=l.length*sz:=by
 induction l with
 |nil=>simp[aN]
 |cons x l ih=>
  simp only[aN,List.flatMap_cons,List.length_append,List.length_cons,hf]at ih⊢;rw[ih,Nat.add_mul];omega
theorem uT{α:Type}{f:α→List Value}{sz:Nat}(hf:∀x,(f x).length=sz)(l:List α)(k:Nat)(x:α)(h:l[k]?=some x)(j:Nat)(hj:j<sz):(aN f l)[k*sz+j]?=(f x)[j]?:=by
 induction l generalizing k with
 |nil=>simp at h
 |cons y l ih=>
  cases k with
  |zero=>
   simp at h;subst h;simp only[aN,List.flatMap_cons];rw[List.getElem?_append_left (by rw[hf];omega)];congr 1;omega
  |succ k=>
   have:=ih k (by simpa using h);simp only[aN,List.flatMap_cons]at this⊢;rw[List.getElem?_append_right (by rw[hf,Nat.add_mul];omega),hf,←this];congr 1;rw[Nat.add_mul];omega
end
section
def P32(i:Nat):Int:=4294967296^i
theorem mS:P32 0=1:=rfl
theorem bS(i:Nat):P32 (i+1)=4294967296*P32 i:=by unfold P32;rw[Int.pow_succ,Int.mul_comm]
theorem cY(i:Nat):0<P32 i:=by
 induction i with
 |zero=>decide
 |succ i ih=>rw[bS];omega
theorem iQ(i j:Nat):P32 (i+j)=P32 i*P32 j:=by unfold P32;exact Int.pow_add _ _ _
theorem eO{i j:Nat}(h:i≤j):P32 i≤P32 j:=by
 obtain⟨k,rfl⟩:=Nat.le.dest h;clear h;induction k with
 |zero=>exact Int.le_refl _
 |succ k ih=>rw[show i+(k+1)=(i+k)+1 from rfl,bS];have:=cY (i+k);omega
def val:List Int→Int
 |[]=>0
 |x::xs=>x+4294967296*val xs
def Ok(l:List Int):Prop:=∀x∈l,0≤x∧x<4294967296
theorem Ok.nil:Ok []:=fun x h=>by simp at h
theorem Ok.tail{x:Int}{l:List Int}(h:Ok (x::l)):Ok l:=fun y hy=>h y (List.mem_cons_of_mem _ hy)
theorem Ok.head{x:Int}{l:List Int}(h:Ok (x::l)):0≤x∧x<4294967296:=h x List.mem_cons_self
theorem Ok.take{l:List Int}(h:Ok l)(k:Nat):Ok (l.take k):=fun x hx=>h x (List.mem_of_mem_take hx)
theorem Ok.drop{l:List Int}(h:Ok l)(k:Nat):Ok (l.drop k):=fun x hx=>h x (List.mem_of_mem_drop hx)
theorem Ok.at_{l:List Int}(h:Ok l)(i:Nat):0≤l.getD i 0∧l.getD i 0<4294967296:=by
 rw[gD];by_cases hi:i<l.length
 ·rw[gE hi];exact h _ (List.getElem_mem hi)
 ·rw[List.getElem?_eq_none (by omega)];exact⟨by decide,by decide⟩
theorem Ok.set{l:List Int}(h:Ok l)(i:Nat){x:Int}(hx:0≤x∧x<4294967296):Ok (l.set i x):=by
 intro y hy;rcases List.mem_or_eq_of_mem_set hy with h1|h1
 ·exact h y h1
 ·rw[h1];exact hx
theorem Ok.replicate(n:Nat):Ok (List.replicate n 0):=fun x hx=>by rw[(List.mem_replicate.1 hx).2];decide
theorem uU(l m:List Int):val (l++m)=val l+P32 l.length*val m:=by
 induction l with
 |nil=>simp[val,mS]
 |cons x l ih=>
  simp only[List.cons_append,val,List.length_cons,ih,bS];rw[Int.mul_add,Int.mul_assoc];omega
theorem bD{l:List Int}(h:Ok l):0≤val l:=by
 induction l with
 |nil=>exact Int.le_refl _
 |cons x l ih=>have:=ih h.tail;have:=h.head;simp only[val];omega
theorem dN{l:List Int}(h:Ok l):val l<P32 l.length:=by
 induction l with
 |nil=>decide
 |cons x l ih=>have:=ih h.tail;have:=h.head;simp only[val,List.length_cons,bS];omega
theorem yC(n:Nat):val (List.replicate n 0)=0:=by
 induction n with
 |zero=>rfl
 |succ n ih=>simp[List.replicate_succ,val,ih]
theorem mT(l:List Int)(i:Nat)(h:i<l.length):l.take (i+1)=l.take i++[l.getD i 0]:=by
 rw[List.take_succ_eq_append_getElem h,gD,gE h];rfl
theorem aR(l:List Int)(i:Nat):val (l.take (i+1))=val (l.take i)+P32 i*l.getD i 0:=by
 by_cases h:i<l.length
 ·rw[mT l i h,uU,List.length_take,Nat.min_eq_left (by omega)];simp[val]
 ·rw[List.take_of_length_le (by omega),List.take_of_length_le (by omega),gD,List.getElem?_eq_none (by omega)];simp
theorem fG(l:List Int)(i:Nat):val l=val (l.take i)+P32 i*val (l.drop i):=by
 by_cases h:i≤l.length
 ·have:=uU (l.take i) (l.drop i);rw[List.take_append_drop,List.length_take,Nat.min_eq_left h]at this;exact this
 ·rw[List.take_of_length_le (by omega),List.drop_of_length_le (by omega)];simp[val]
theorem eE(l:List Int)(i:Nat)(x:Int)(h:i<l.length):val ((l.set i x).take (i+1))=val (l.take i)+P32 i*x:=by
 rw[aR,List.take_set_of_le (Nat.le_refl i)];simp[h]
theorem bU(l:List Int){i j:Nat}(x:Int)(h:i≠j):(l.set i x).getD j 0=l.getD j 0:=by
 simp[List.getElem?_set_ne h]
theorem eW(p c:Int):p*(c%4294967296)+(4294967296*p)*(c/4294967296)=p*c:=by
 have h:=Int.emod_add_mul_ediv c 4294967296;have:p*c=p*(c%4294967296+4294967296*(c/4294967296)):=by rw[h]
 rw[this,Int.mul_add,Int.mul_comm 4294967296 p,Int.mul_assoc]
def Nm(l:List Int):Prop:=∀h:l≠[],l.getLast h≠0
def cU(l:List Int):Nat→Nat
 |0=>0
 |k+1=>if l.getD k 0=0 then cU l k else k+1
theorem yO(l:List Int):∀k,cU l k≤k
 |0=>Nat.le_refl _
 |k+1=>by
  rw[cU];split
  ·have:=yO l k;omega
  ·omega
theorem aIn(l:List Int):∀k,val (l.take (cU l k))=val (l.take k)
 |0=>by simp[cU]
 |k+1=>by
  rw[cU];split
  ·rename_i h;rw[aIn l k,aR,h];simp
  ·rfl
theorem aOj(l:List Int):∀k,k≤l.length→Nm (l.take (cU l k))
 |0,_=>by simp[cU,Nm]
 |k+1,hk=>by
  rw[cU];split
  ·exact aOj l k (by omega)
  ·rename_i h;intro hne;rw[List.getLast_eq_getElem];have hl:(l.take (k+1)).length=k+1:=by rw[List.length_take];omega
   have:(l.take (k+1))[(l.take (k+1)).length-1]'(by omega)=l.getD k 0:=by
    simp only[List.getElem_take,hl];rw[gD,gE (by omega)];simp
   rw[this];exact h
theorem uV{l:List Int}(h:Ok l)(hn:Nm l)(k:Nat)(hk:l.length=k+1):P32 k≤val l:=by
 have hne:l≠[]:=by intro e;rw[e]at hk;simp at hk
 have h1:=aR l k;rw[List.take_of_length_le (by omega)]at h1;have h2:=bD (h.take k);have h3:=h.at_ k;have h4:l.getD k 0≠0:=by
  have:=hn hne;rw[List.getLast_eq_getElem]at this;rw[gD,gE (by omega)];simp only[hk]at this;simpa using this
 have h5:=cY k;have h6:P32 k*1≤P32 k*l.getD k 0:=Int.mul_le_mul_of_nonneg_left (by omega) (by omega);omega
theorem lO{l:List Int}(h:Ok l)(hn:Nm l){k:Nat}(hv:val l<P32 k):l.length≤k:=by
 rcases Nat.lt_or_ge k l.length with h1|h1
 ·have h2:=uV h hn (l.length-1) (by omega);have h3:=eO (i:=k) (j:=l.length-1) (by omega);omega
 ·exact h1
theorem tV{l:List Int}(h:Ok l)(hn:Nm l):l=[]↔val l=0:=by
 constructor
 ·rintro rfl;rfl
 ·intro e;have:=lO h hn (k:=0) (by rw[e];decide);exact List.eq_nil_of_length_eq_zero (by omega)
end
section
open Go.RowKit
theorem bT{w0 w w':World}(h:Hid (Below w0.heap.size w0 w))(hb:Below w.heap.size w w'):Hid (Below w0.heap.size w0 w'):=aH (h.out.trans (hb.mono h.out.size))
theorem bL{w w':World}{g:Nat}{t:TypeId}{cs:Array Value}(h:Hid (Blk w g t cs))(hb:Below w.heap.size w w'):Hid (Blk w' g t cs):=aH (h.out.below hb h.out.lt)
abbrev U(x:Int):Value:= .int .u32 x
theorem uW:(Tryz.prog.info? 247).map (fun i=>(i.zero,i.size,i.bytes))=some (some (.int .u32 0),1,4):=by kernel_rfl
theorem aOk(n:Nat):madeCells (Value.int .u32 0).cells (n*1)=Array.replicate n (U 0):=by
 apply Array.ext
 ·simp[size_madeCells]
 ·intro i h1 h2;simp[madeCells,Value.cells,Nat.mod_one]
theorem iF(n:Nat)(hn:n≤1099511627776)(W:World): (Instr.makeSlice 118 (.int .i64 (n:Int)) (.int .i64 (n:Int))).run Tryz.prog W= .ok (.slice (some ⟨W.heap.size,0,none⟩) n n) (W.alloc (.cells (Array.replicate n (U 0)) 247)):=by
 obtain⟨i,hi,hz0,hz1,hz2⟩:=info_parts uW;have:=run_make (P:=Tryz.prog) W 118 247 i _ Tryz.underlying118 hi hz0 .i64 .i64 n n (by omega) (by omega) (by rw[hz2];omega) (by omega);rw[this,Int.toNat_natCast,hz1,aOk]
structure Wrd(w:World)(g n:Nat)(o:List Int)(wr:World):Prop where
 len:o.length=n
 ok:Ok o
 blk:Blk wr g 247 (o.map U).toArray
 below:Below w.heap.size w wr
section
variable {w:World} {g n:Nat} {o:List Int} {wr w2:World}
theorem Wrd.set(h:Wrd w g n o wr)(i:Nat){x:Int}(hx:0≤x∧x<4294967296)(hg:w.heap.size≤g):Wrd w g n (o.set i x) (wr.setCell ⟨g,i,none⟩ (U x)):=by
 refine⟨by simpa using h.len,h.ok.set i hx,?_,h.below.setCell hg _⟩;have:=h.blk.set_ i (U x);simpa[List.map_set]using this
theorem Wrd.alloc(h:Wrd w g n o wr)(ob:Obj):Wrd w g n o (wr.alloc ob):=⟨h.len,h.ok,h.blk.alloc _,h.below.alloc h.below.size _⟩
theorem Wrd.cell(h:Wrd w g n o wr){i:Nat}(hi:i<n):wr.cell? ⟨g,i,none⟩=some (U (o.getD i 0)):=by
 rw[h.blk.cell];have:=h.len;simp[hi,this]
theorem Wrd.row(h:Wrd w g n o wr)(hg:w.heap.size≤g)(hn:n≤maxLen):Row wr w.heap.size 247 1 (.slice (some ⟨g,0,none⟩) n n) o.length (o.map U):=by
 have hl:=h.len;refine⟨by simp,.inr ⟨g,0,n,_,by rw[hl],hg,h.blk,by omega,hn,by simp[hl],?_⟩⟩;simp only[List.drop_zero,Nat.mul_one];rw[List.take_of_length_le (by simp)]
theorem Wrd.reads(h:Wrd w g n o wr):Reads wr wr.heap.size 1 (some ⟨g,0,none⟩) o.length (o.map U):=by
 refine⟨by simp,fun _=>⟨g,0,rfl,h.blk.lt,fun j u hu=>?_⟩⟩;rw[h.blk.cell,Nat.zero_add];simpa using hu
theorem Wrd.start(w:World)(n:Nat):Wrd w w.heap.size n (List.replicate n 0) (w.alloc (.cells (Array.replicate n (U 0)) 247)):=⟨by simp,Ok.replicate n,by have:=Blk.new w 247 (Array.replicate n (U 0));simpa using this,(Below.refl _ _).alloc lR _⟩
end
theorem Reads.word{w:World}{B n:Nat}{A:Option Addr}{xs:List Int}(h:Reads w B 1 A n (xs.map U)){k:Nat}(hk:k<n):∃b off,A=some ⟨b,off,none⟩∧b<B∧w.cell? ⟨b,off+k,none⟩=some (U (xs.getD k 0)):=by
 obtain⟨b,off,u,e,hb,hu,hc⟩:=h.at1 hk;refine⟨b,off,e,hb,?_⟩;have hl:k<xs.length:=by have:=h.1;simp at this;omega
 rw[hc];simp[hl]at hu⊢;exact hu.symm
def aUr(w:World)(P:List Int→Prop)(e:Ending)(w':World):Prop:=∃v o,e= .returned v∧Row w' w.heap.size 247 1 v o.length (o.map U)∧Ok o∧P o∧Below w.heap.size w w'
structure AddI(w:World)(g:Nat)(a b:List Int)(i:Nat)(c:Int)(o:List Int)(wr:World):Prop where
 wrd:Wrd w g (a.length+1) o wr
 hi:i≤a.length
 hc:0≤c∧c≤1
 sum:val (o.take i)+P32 i*c=val (a.take i)+val (b.take i)
theorem AddI.step{w:World}{g:Nat}{a b:List Int}{i:Nat}{c:Int}{o:List Int}{wr:World}(h:AddI w g a b i c o wr)(oa:Ok a)(ob:Ok b)(hlt:i<a.length)(hg:w.heap.size≤g){s:Int}(hs:s=c+a.getD i 0+b.getD i 0): AddI w g a b (i+1) (s/4294967296) (o.set i (s%4294967296)) (wr.setCell ⟨g,i,none⟩ (U (s%4294967296))):=by
 have h1:=oa.at_ i;have h2:=ob.at_ i;have h3:=h.hc;refine⟨h.wrd.set i (by omega) hg,by omega,by omega,?_⟩;have hl:=h.wrd.len;rw[eE o i _ (by omega),aR,aR,bS];have h4:=h.sum;have h5:=eW (P32 i) s;rw[hs]at h5⊢;rw[Int.mul_add,Int.mul_add]at h5;omega
theorem aOl(a b:List Int)(A B:Option Addr)(ca cb:Nat)(w:World)(hA:Reads w w.heap.size 1 A a.length (a.map U))(hB:Reads w w.heap.size 1 B b.length (b.map U))(oa:Ok a)(ob:Ok b)(hl:a.length≤1000000000)(hab:b.length≤a.length): Calls Tryz.prog 186 #[.slice A a.length ca,.slice B b.length cb] w (aUr w fun o=>val o=val a+val b∧o.length=a.length+1):=by
 have hmk:=iF (a.length+1) (by omega);have e1:((a.length+1:Nat):Int)=(a.length:Int)+1:=by omega
 rw[e1]at hmk;have HE:=aH e1;clear e1;have HW:=aH (Wrd.start w (a.length+1));go_enter Tryz.func186,Tryz.ntmps186;have tab:decide (a.length<b.length)=false:=decide_eq_false (by omega);go_wp2;go_loopg [6,21] (a.length-0) (fun r cv iv wr=>∃(i:Nat) (c:Int) (o:List Int),r=a.length-i∧cv= .int .u64 c∧iv=I i∧AddI w w.heap.size a b i c o wr);case atStart=>exact⟨0,0,_,rfl,rfl,rfl,HW.out,by omega,by omega,by simp[val]⟩
 case round=>
  clear HW hmk;obtain⟨i,c,o,rfl,rfl,rfl,hI⟩:=hrel;obtain⟨hc0,hc1⟩:=hI.hc;have hi:=hI.hi;by_cases hlt:i<a.length
  ·obtain⟨ba,offa,rfl,hba,hca⟩:=(hA.below hI.wrd.below).word hlt;have hx:=oa.at_ i;have HX:∃x,a.getD i 0=x:=⟨_,rfl⟩;obtain⟨x,hxe⟩:=HX;rw[hxe]at hca hx;have HXE:=aH hxe;clear hxe;obtain⟨hx0,hx1⟩:=hx;have hf:wr.frozen? ⟨w.heap.size,i,none⟩=false:=hI.wrd.blk.frozen _;have hco:=hI.wrd.cell (i:=i) (by omega);have hlo:=hI.wrd.blk.lt;by_cases hbl:i<b.length
   ·obtain⟨bb,offb,rfl,hbb,hcb⟩:=(hB.below hI.wrd.below).word hbl;have hy:=ob.at_ i;obtain⟨y,hye⟩:∃y,b.getD i 0=y:=⟨_,rfl⟩;rw[hye]at hcb hy;have HYE:=aH hye;clear hye;obtain⟨hy0,hy1⟩:=hy;have hN:=hI.step oa ob hlt lR (s:=c+x+y) (by rw[HXE.out,HYE.out]);have HN:=aH hN;clear hN hI;go_wp2;go_roundg (a.length-(i+1));case measure=>omega
    case rel=>exact⟨i+1,_,_,rfl,rfl,by go_num,HN.out⟩
   ·have hN:=hI.step oa ob hlt lR (s:=c+x) (by rw[HXE.out,gD,List.getElem?_eq_none (by omega)];simp);have HN:=aH hN;clear hN hI;go_wp2;go_roundg (a.length-(i+1));case measure=>omega
    case rel=>exact⟨i+1,_,_,rfl,rfl,by go_num,HN.out⟩
  ·obtain rfl:i=a.length:=by omega
   have hf:wr.frozen? ⟨w.heap.size,a.length,none⟩=false:=hI.wrd.blk.frozen _;have hco:=hI.wrd.cell (i:=a.length) (by omega);have hlo:=hI.wrd.blk.lt;have hF:=hI.wrd.set a.length (x:=c) (by omega) lR;have hV:val (o.set a.length c)=val a+val b:=by
    have h1:=eE o a.length c (by rw[hI.wrd.len];omega);rw[List.take_of_length_le (by rw[List.length_set,hI.wrd.len];omega)]at h1;rw[h1,hI.sum,List.take_of_length_le lR,List.take_of_length_le hab]
   have HF:=aH hF;have HV:=aH hV;clear hF hV hI;go_wp2;go_ret;exact⟨_,_,rfl,HF.out.row lR (by unfold maxLen;omega),HF.out.ok,⟨HV.out,HF.out.len⟩,HF.out.below⟩
theorem aOm(a b:List Int)(A B:Option Addr)(ca cb:Nat)(w:World)(hA:Reads w w.heap.size 1 A a.length (a.map U))(hB:Reads w w.heap.size 1 B b.length (b.map U))(oa:Ok a)(ob:Ok b)(hl:a.length≤1000000000)(hab:b.length<a.length): Calls Tryz.prog 186 #[.slice B b.length cb,.slice A a.length ca] w (aUr w fun o=>val o=val a+val b∧o.length=a.length+1):=by
 have hmk:=iF (a.length+1) (by omega);have e1:((a.length+1:Nat):Int)=(a.length:Int)+1:=by omega
 rw[e1]at hmk;have HE:=aH e1;clear e1;have HW:=aH (Wrd.start w (a.length+1));go_enter Tryz.func186,Tryz.ntmps186;have tab:decide (b.length<a.length)=true:=decide_eq_true hab;go_wp2;go_loopg [6,21] (a.length-0) (fun r cv iv wr=>∃(i:Nat) (c:Int) (o:List Int),r=a.length-i∧cv= .int .u64 c∧iv=I i∧AddI w w.heap.size a b i c o wr);case atStart=>exact⟨0,0,_,rfl,rfl,rfl,HW.out,by omega,by omega,by simp[val]⟩
 case round=>
  clear HW hmk;obtain⟨i,c,o,rfl,rfl,rfl,hI⟩:=hrel;obtain⟨hc0,hc1⟩:=hI.hc;have hi:=hI.hi;by_cases hlt:i<a.length
  ·obtain⟨ba,offa,rfl,hba,hca⟩:=(hA.below hI.wrd.below).word hlt;have hx:=oa.at_ i;have HX:∃x,a.getD i 0=x:=⟨_,rfl⟩;obtain⟨x,hxe⟩:=HX;rw[hxe]at hca hx;have HXE:=aH hxe;clear hxe;obtain⟨hx0,hx1⟩:=hx;have hf:wr.frozen? ⟨w.heap.size,i,none⟩=false:=hI.wrd.blk.frozen _;have hco:=hI.wrd.cell (i:=i) (by omega);have hlo:=hI.wrd.blk.lt;by_cases hbl:i<b.length
   ·obtain⟨bb,offb,rfl,hbb,hcb⟩:=(hB.below hI.wrd.below).word hbl;have hy:=ob.at_ i;obtain⟨y,hye⟩:∃y,b.getD i 0=y:=⟨_,rfl⟩;rw[hye]at hcb hy;have HYE:=aH hye;clear hye;obtain⟨hy0,hy1⟩:=hy;have hN:=hI.step oa ob hlt lR (s:=c+x+y) (by rw[HXE.out,HYE.out]);have HN:=aH hN;clear hN hI;go_wp2;go_roundg (a.length-(i+1));case measure=>omega
    case rel=>exact⟨i+1,_,_,rfl,rfl,by go_num,HN.out⟩
   ·have hN:=hI.step oa ob hlt lR (s:=c+x) (by rw[HXE.out,gD,List.getElem?_eq_none (by omega)];simp);have HN:=aH hN;clear hN hI;go_wp2;go_roundg (a.length-(i+1));case measure=>omega
    case rel=>exact⟨i+1,_,_,rfl,rfl,by go_num,HN.out⟩
  ·obtain rfl:i=a.length:=by omega
   have hf:wr.frozen? ⟨w.heap.size,a.length,none⟩=false:=hI.wrd.blk.frozen _;have hco:=hI.wrd.cell (i:=a.length) (by omega);have hlo:=hI.wrd.blk.lt;have hF:=hI.wrd.set a.length (x:=c) (by omega) lR;have hV:val (o.set a.length c)=val a+val b:=by
    have h1:=eE o a.length c (by rw[hI.wrd.len];omega);rw[List.take_of_length_le (by rw[List.length_set,hI.wrd.len];omega)]at h1;rw[h1,hI.sum,List.take_of_length_le lR,List.take_of_length_le (by omega)]
   have HF:=aH hF;have HV:=aH hV;clear hF hV hI;go_wp2;go_ret;exact⟨_,_,rfl,HF.out.row lR (by unfold maxLen;omega),HF.out.ok,⟨HV.out,HF.out.len⟩,HF.out.below⟩
theorem aOn(a b:List Int)(A B:Option Addr)(ca cb:Nat)(w:World)(hA:Reads w w.heap.size 1 A a.length (a.map U))(hB:Reads w w.heap.size 1 B b.length (b.map U))(oa:Ok a)(ob:Ok b)(hl:a.length≤1000000000)(hm:b.length≤1000000000): Calls Tryz.prog 186 #[.slice A a.length ca,.slice B b.length cb] w (aUr w fun o=>val o=val a+val b∧o.length=max a.length b.length+1):=by
 by_cases h:a.length<b.length
 ·refine(aOm b a B A cb ca w hB hA ob oa hm h).mono ?_;rintro e w' ⟨v,o,h1,h2,h3,⟨h4,h5⟩,h6⟩;exact⟨v,o,h1,h2,h3,⟨by omega,by omega⟩,h6⟩
 ·refine(aOl a b A B ca cb w hA hB oa ob hl (by omega)).mono ?_;rintro e w' ⟨v,o,h1,h2,h3,⟨h4,h5⟩,h6⟩;exact⟨v,o,h1,h2,h3,⟨h4,by omega⟩,h6⟩
structure SubI(w:World)(g:Nat)(a b:List Int)(i:Nat)(c:Int)(o:List Int)(wr:World):Prop where
 wrd:Wrd w g a.length o wr
 hi:i≤a.length
 hc:-1≤c∧c≤0
 sum:val (o.take i)+P32 i*c=val (a.take i)-val (b.take i)
theorem SubI.step{w:World}{g:Nat}{a b:List Int}{i:Nat}{c:Int}{o:List Int}{wr:World}(h:SubI w g a b i c o wr)(oa:Ok a)(ob:Ok b)(hlt:i<a.length)(hg:w.heap.size≤g){s:Int}(hs:s=c+a.getD i 0-b.getD i 0): SubI w g a b (i+1) (s/4294967296) (o.set i (s%4294967296)) (wr.setCell ⟨g,i,none⟩ (U (s%4294967296))):=by
 have h1:=oa.at_ i;have h2:=ob.at_ i;have h3:=h.hc;refine⟨h.wrd.set i (by omega) hg,by omega,by omega,?_⟩;have hl:=h.wrd.len;rw[eE o i _ (by omega),aR,aR,bS];have h4:=h.sum;have h5:=eW (P32 i) s;rw[hs]at h5⊢;rw[Int.mul_sub,Int.mul_add]at h5;omega
theorem aUs{n:Nat}{c d:Int}{o:List Int}(ho:Ok o)(hl:o.length=n)(hc:-1≤c∧c≤0)(hd:0≤d)(h:val o+P32 n*c=d):c=0∧val o=d:=by
 have h1:=dN ho;rw[hl]at h1;have:c=0:=by
  rcases(show c=-1∨c=0 by omega)with e|e
  ·rw[e]at h;omega
  ·exact e
 rw[this]at h;exact⟨this,by omega⟩
theorem aCs(a b:List Int)(A B:Option Addr)(ca cb:Nat)(w:World)(hA:Reads w w.heap.size 1 A a.length (a.map U))(hB:Reads w w.heap.size 1 B b.length (b.map U))(oa:Ok a)(ob:Ok b)(hl:a.length≤1000000000)(hab:b.length≤a.length)(hle:val b≤val a): Calls Tryz.prog 188 #[.slice A a.length ca,.slice B b.length cb] w (aUr w fun o=>val o=val a-val b∧o.length=a.length):=by
 have hmk:=iF a.length (by omega);have HW:=aH (Wrd.start w a.length);have HLE:=aH hle;clear hle;go_enter Tryz.func188,Tryz.ntmps188;go_wp2;go_loopg [6,13] (a.length-0) (fun r cv iv wr=>∃(i:Nat) (c:Int) (o:List Int),r=a.length-i∧cv= .int .i64 c∧iv=I i∧SubI w w.heap.size a b i c o wr);case atStart=>exact⟨0,0,_,rfl,rfl,rfl,HW.out,by omega,by omega,by simp[val]⟩
 case round=>
  clear HW hmk;obtain⟨i,c,o,rfl,rfl,rfl,hI⟩:=hrel;obtain⟨hc0,hc1⟩:=hI.hc;have hi:=hI.hi;by_cases hlt:i<a.length
  ·obtain⟨ba,offa,rfl,hba,hca⟩:=(hA.below hI.wrd.below).word hlt;have hx:=oa.at_ i;obtain⟨x,hxe⟩:∃x,a.getD i 0=x:=⟨_,rfl⟩;rw[hxe]at hca hx;have HXE:=aH hxe;clear hxe;obtain⟨hx0,hx1⟩:=hx;have hf:wr.frozen? ⟨w.heap.size,i,none⟩=false:=hI.wrd.blk.frozen _;have hco:=hI.wrd.cell (i:=i) (by omega);have hlo:=hI.wrd.blk.lt;by_cases hbl:i<b.length
   ·obtain⟨bb,offb,rfl,hbb,hcb⟩:=(hB.below hI.wrd.below).word hbl;have hy:=ob.at_ i;obtain⟨y,hye⟩:∃y,b.getD i 0=y:=⟨_,rfl⟩;rw[hye]at hcb hy;have HYE:=aH hye;clear hye;obtain⟨hy0,hy1⟩:=hy;have hN:=hI.step oa ob hlt lR (s:=c+x-y) (by rw[HXE.out,HYE.out]);have HN:=aH hN;clear hN hI;go_wp2;go_roundg (a.length-(i+1));case measure=>omega
    case rel=>exact⟨i+1,_,_,rfl,rfl,by go_num,HN.out⟩
   ·have hN:=hI.step oa ob hlt lR (s:=c+x) (by rw[HXE.out,gD (l:=b),List.getElem?_eq_none (by omega)];simp);have HN:=aH hN;clear hN hI;go_wp2;go_roundg (a.length-(i+1));case measure=>omega
    case rel=>exact⟨i+1,_,_,rfl,rfl,by go_num,HN.out⟩
  ·obtain rfl:i=a.length:=by omega
   have hs:=hI.sum;rw[List.take_of_length_le (Nat.le_of_eq hI.wrd.len),List.take_of_length_le lR,List.take_of_length_le hab]at hs;have hE:=aUs hI.wrd.ok hI.wrd.len hI.hc (by have:=HLE.out;omega) hs;have HF:=aH hI.wrd;have HV:=aH hE.2;clear hE hI hs;go_wp2;go_ret;exact⟨_,_,rfl,HF.out.row lR (by unfold maxLen;omega),HF.out.ok,⟨HV.out,HF.out.len⟩,HF.out.below⟩
theorem aLd{a b:List Int}{i:Nat}(h:val (a.drop (i+1))=val (b.drop (i+1)))(e:a.getD i 0=b.getD i 0)(ha:i<a.length)(hb:i<b.length):val (a.drop i)=val (b.drop i):=by
 rw[List.drop_eq_getElem_cons ha,List.drop_eq_getElem_cons hb];simp only[val];rw[gD,gD,gE ha,gE hb]at e;simp only[Option.getD_some]at e;rw[e,h]
theorem yP{a b:List Int}{i:Nat}(oa:Ok a)(h:val (a.drop (i+1))=val (b.drop (i+1)))(ob:Ok b)(e:a.getD i 0<b.getD i 0)(ha:i<a.length)(_hb:i<b.length):val a<val b:=by
 have h1:=fG a (i+1);have h2:=fG b (i+1);rw[aR]at h1 h2;rw[h]at h1;have h3:=dN (oa.take i);have h4:=bD (ob.take i);rw[List.length_take,Nat.min_eq_left (by omega)]at h3;have h5:P32 i*(a.getD i 0+1)≤P32 i*b.getD i 0:=Int.mul_le_mul_of_nonneg_left (by omega) (by have:=cY i;omega);rw[Int.mul_add,Int.mul_one]at h5;omega
def aOo(x y r:Int):Prop:=(r<0↔x<y)∧(0<r↔y<x)∧-1000000000≤r∧r≤1000000000
def aYd(w:World)(x y:Int)(e:Ending)(w':World):Prop:=∃r,e= .returned (I r)∧aOo x y r∧Below w.heap.size w w'
theorem qA(a b:List Int)(A B:Option Addr)(ca cb:Nat)(w:World)(hA:Reads w w.heap.size 1 A a.length (a.map U))(hB:Reads w w.heap.size 1 B b.length (b.map U))(oa:Ok a)(ob:Ok b)(na:Nm a)(nb:Nm b)(hl:a.length≤1000000000)(hm:b.length≤1000000000): Calls Tryz.prog 187 #[.slice A a.length ca,.slice B b.length cb] w (aYd w (val a) (val b)):=by
 by_cases hab:a.length=b.length
 ·have t0:((a.length:Int) !=b.length)=false:=by rw[hab];simp
  have t1:(a.length !=b.length)=false:=by rw[hab];simp
  rw[←hab]at hB t0 t1⊢;have HAB:=aH hab;have HA:=aH hA;have HB:=aH hB;clear hab hA hB hm;go_enter Tryz.func187,Tryz.ntmps187;go_wp2;go_loopg [5] a.length (fun r iv wr=>∃q:Nat,r≤a.length∧iv=I ((r:Int)-1)∧wr=w.drewN q∧val (a.drop r)=val (b.drop r));case atStart=>exact⟨0,Nat.le_refl _,rfl,rfl,by rw[List.drop_of_length_le lR,List.drop_of_length_le (by have:=HAB.out;omega)]⟩
  case round=>
   obtain⟨q,hi,rfl,rfl,hv⟩:=hrel;rcases gk with _|k
   ·have e0:(((0:Nat):Int)-1)=-1:=by omega
    rw[e0];have hE:aOo (val a) (val b) 0:=by
     simp only[List.drop_zero]at hv;rw[hv];exact⟨by omega,by omega,by omega,by omega⟩
    have HE:=aH hE;clear hE hv e0;go_wp2;go_ret;exact⟨_,rfl,HE.out,below_drewN (Below.refl _ _) q⟩
   ·have e0:(((k+1:Nat):Int)-1)=k:=by omega
    rw[e0];clear e0;obtain⟨ba,offa,hAe,hba,hca⟩:=HA.out.word (k:=k) (by omega);obtain⟨bb,offb,hBe,hbb,hcb⟩:=HB.out.word (k:=k) (by omega);subst hAe hBe;have hx:=oa.at_ k;have hy:=ob.at_ k;obtain⟨x,hxe⟩:∃x,a.getD k 0=x:=⟨_,rfl⟩;obtain⟨y,hye⟩:∃y,b.getD k 0=y:=⟨_,rfl⟩;rw[hxe]at hca hx;rw[hye]at hcb hy;have hk1:(0:Int)≤(k:Int):=by omega
    have hk2:(k:Int)<(a.length:Int):=by omega
    have hk3:k<a.length:=by omega
    by_cases hxy:x=y
    ·have t2:(x !=y)=false:=by rw[hxy];simp
     have hN:=aLd hv (by rw[hxe,hye,hxy]) (by omega) (by have:=HAB.out;omega);have HN:=aH hN;clear hN hv hxe hye hxy;go_wp2;go_quiet (fail);go_wp2;go_roundg k;case measure=>omega
     case rel=>exact⟨_,by omega,by go_num,rfl,HN.out⟩
    ·have t2:(x !=y)=true:=by rw[bne_iff_ne];exact hxy
     by_cases hlt:x<y
     ·have hR:aOo (val a) (val b) (-1):=by
       have:=yP oa hv ob (by omega) (by omega) (by have:=HAB.out;omega);exact⟨by omega,by omega,by omega,by omega⟩
      have HR:=aH hR;have t3:decide (x<y)=true:=decide_eq_true hlt;clear hR hv hxe hye hxy;go_wp2;go_quiet (fail);go_wp2;go_quiet (fail);go_wp2;go_ret;exact⟨_,rfl,HR.out,by first|exact below_drewN (Below.refl _ _) _|exact below_drewN (below_drewN (Below.refl _ _) _) _|exact below_drewN (below_drewN (below_drewN (Below.refl _ _) _) _) _⟩
     ·have hR:aOo (val a) (val b) 1:=by
       have:=yP ob hv.symm oa (by omega) (by have:=HAB.out;omega) (by omega);exact⟨by omega,by omega,by omega,by omega⟩
      have HR:=aH hR;have t3:decide (x<y)=false:=decide_eq_false hlt;clear hR hv hxe hye hxy;go_wp2;go_quiet (fail);go_wp2;go_quiet (fail);go_wp2;go_ret;exact⟨_,rfl,HR.out,by first|exact below_drewN (Below.refl _ _) _|exact below_drewN (below_drewN (Below.refl _ _) _) _|exact below_drewN (below_drewN (below_drewN (Below.refl _ _) _) _) _⟩
 ·have t0:((a.length:Int) !=b.length)=true:=by rw[bne_iff_ne];omega
  have t1:(a.length !=b.length)=true:=by rw[bne_iff_ne];exact hab
  have hR:aOo (val a) (val b) ((a.length:Int)-b.length):=by
   have h1:=dN oa;have h2:=dN ob;rcases Nat.lt_or_ge a.length b.length with h|h
   ·have h3:=uV ob nb (b.length-1) (by omega);have h4:=eO (i:=a.length) (j:=b.length-1) (by omega);exact⟨by omega,by omega,by omega,by omega⟩
   ·have h3:=uV oa na (a.length-1) (by omega);have h4:=eO (i:=b.length) (j:=a.length-1) (by omega);exact⟨by omega,by omega,by omega,by omega⟩
  have HR:=aH hR;clear hR hab;go_enter Tryz.func187,Tryz.ntmps187;go_wp2;go_ret;exact⟨_,rfl,HR.out,Below.refl _ _⟩
def Big(w:World)(v:Value)(z:Int):Prop:=∃A c ws,v= .agg #[.bool (decide (z<0)),.slice A ws.length c]∧Reads w w.heap.size 1 A ws.length (ws.map U)∧(ws.length≤c∧c≤maxLen)∧Ok ws∧Nm ws∧val ws=(z.natAbs:Int)
theorem Big.ext{w w':World}{v:Value}{z:Int}(h:Big w v z)(hb:Below w.heap.size w w'):Big w' v z:=by
 obtain⟨A,c,ws,h1,h2,h3⟩:=h;exact⟨A,c,ws,h1,(h2.below hb).more hb.size,h3⟩
def RetBig(w:World)(z:Int)(e:Ending)(w':World):Prop:=∃v,e= .returned v∧Big w' v z∧Below w.heap.size w w'
theorem aAp{w:World}{v:Value}{z:Int}(h:Big w v z)(o:Obj):RetBig w z (.returned v) (w.alloc o):=⟨_,rfl,h.ext ((Below.refl _ _).alloc lR _),(Below.refl _ _).alloc lR _⟩
def Fits(n:Nat)(z:Int):Prop:=(z.natAbs:Int)<P32 n
theorem Fits.mono{n m:Nat}{z:Int}(h:Fits n z)(hm:n≤m):Fits m z:=Int.lt_of_lt_of_le h (eO hm)
theorem Fits.len{n:Nat}{z:Int}{ws:List Int}(h:Fits n z)(ho:Ok ws)(hn:Nm ws)(hv:val ws=(z.natAbs:Int)):ws.length≤n:=lO ho hn (by rw[hv];exact h)
theorem yQ(n:Nat):Fits n 0:=cY n
theorem Fits.neg{n:Nat}{z:Int}(h:Fits n z):Fits n (-z):=by unfold Fits at*;rw[Int.natAbs_neg];exact h
theorem Fits.add{n:Nat}{a b:Int}(ha:Fits n a)(hb:Fits n b):Fits (n+1) (a+b):=by
 unfold Fits at*;have:=cY n;rw[bS];omega
theorem Fits.mul{n m:Nat}{a b:Int}(ha:Fits n a)(hb:Fits m b):Fits (n+m) (a*b):=by
 unfold Fits at*;rw[Int.natAbs_mul,iQ,Int.natCast_mul];have h1:=cY m;exact Int.lt_of_le_of_lt (Int.mul_le_mul_of_nonneg_left (Int.le_of_lt hb) (by omega)) (Int.mul_lt_mul_of_pos_right ha h1)
def sgn(m:Bool)(n:Int):Int:=if m=true then-n else n
theorem tW(m:Bool){n:Int}(h:0≤n):((sgn m n).natAbs:Int)=n:=by cases m<;>simp[sgn]<;>omega
theorem aOp{w:World}{A:Option Addr}{c:Nat}{ws:List Int}(m:Bool)(hr:Reads w w.heap.size 1 A ws.length (ws.map U))(hc:ws.length≤c)(hcm:c≤maxLen)(ho:Ok ws): Big w (.agg #[.bool (m&&decide (0<cU ws ws.length)),.slice A (cU ws ws.length) c]) (sgn m (val ws)):=by
 have hle:=yO ws ws.length;have hv:=aIn ws ws.length;rw[List.take_of_length_le lR]at hv;have hn:=aOj ws ws.length lR;have hok:=ho.take (cU ws ws.length);have hl:(ws.take (cU ws ws.length)).length=cU ws ws.length:=by rw[List.length_take];omega
 have h0:=bD ho;refine⟨A,c,ws.take (cU ws ws.length),?_,?_,⟨by omega,hcm⟩,hok,hn,by rw[hv,tW m h0]⟩
 ·rw[hl];congr 3;have hz:=tV hok hn;rw[hv]at hz;have hiff:0<cU ws ws.length↔0<val ws:=by
   constructor
   ·intro h;have:ws.take (cU ws ws.length)≠[]:=by intro e;rw[e]at hl;simp at hl;omega
    have:=mt hz.2 this;omega
   ·intro h;rcases Nat.eq_zero_or_pos (cU ws ws.length)with e|e
    ·have:ws.take (cU ws ws.length)=[]:=by rw[e];rfl
     have:=hz.1 this;omega
    ·exact e
  cases m
  ·simp[sgn];omega
  ·simp only[Bool.true_and,sgn,if_true];congr 2;rw[eq_iff_iff];omega
 ·have:=hr.take hle;rw[Nat.mul_one,←List.map_take]at this;rw[hl];exact this
theorem fH(m:Bool)(ws:List Int)(A:Option Addr)(c:Nat)(w:World)(hr:Reads w w.heap.size 1 A ws.length (ws.map U))(hc:ws.length≤c)(hcm:c≤maxLen)(ho:Ok ws): Calls Tryz.prog 168 #[.bool m,.slice A ws.length c] w (RetBig w (sgn m (val ws))):=by
 have HB:=aH (aOp m hr hc hcm ho);unfold maxLen at hcm;go_enter Tryz.func168,Tryz.ntmps168;go_wp2;go_loopg [1] ws.length (fun r sv wr=>r≤ws.length∧sv= .slice A r c∧wr=w.alloc (.cells #[.bool false,.slice none 0 0] 120)∧Hid (cU ws ws.length=cU ws r));case atStart=>exact⟨Nat.le_refl _,rfl,rfl,aH rfl⟩
 case round=>
  obtain⟨hi,rfl,rfl,HC⟩:=hrel;rcases gk with _|k
  ·have hE:=HB.out;rw[HC.out,cU]at hE;have HE:Hid (Big w (.agg #[.bool false,.slice A 0 c]) (sgn m (val ws))):=aH (by simpa using hE);clear hE HB HC;cases m;all_goals
    go_wp2
    exact bodyPost_ret (v := .agg #[.bool false, .slice A 0 c]) (by simp [results, Tryz.results168, go_sem]) rfl (aAp HE.out _)
  ·obtain⟨b,off,hAe,hb,hcl⟩:=hr.word (k:=k) (by omega);subst hAe;obtain⟨x,hx⟩:∃x,ws.getD k 0=x:=⟨_,rfl⟩;rw[hx]at hcl;have hk1:(0:Int)≤(k:Int):=by omega
   by_cases h0:x=0
   ·have HN:Hid (cU ws ws.length=cU ws k):=aH (by rw[HC.out,cU,if_pos (by rw[hx,h0])]);have t0:(x==0)=true:=beq_iff_eq.2 h0;clear hx h0 HC;go_wp2;go_roundg k;case measure=>omega
    case rel=>exact⟨by omega,rfl,rfl,HN⟩
   ·have t0:(x==0)=false:=beq_eq_false_iff_ne.2 h0;have hE:=HB.out;rw[HC.out,cU,if_neg (by rw[hx];exact h0)]at hE;have HE:Hid (Big w (.agg #[.bool m,.slice (some ⟨b,off,none⟩) (k+1) c]) (sgn m (val ws))):=aH (by simpa using hE);clear hE HB HC hx h0;cases m
    ·go_wp2;exact bodyPost_ret (v:= .agg #[.bool false,.slice (some ⟨b,off,none⟩) (k+1) c]) (by simp[results,Tryz.results168,go_sem]) rfl (aAp HE.out _)
    ·go_wp2;exact bodyPost_ret (v:= .agg #[.bool true,.slice (some ⟨b,off,none⟩) (k+1) c]) (by simp[results,Tryz.results168,go_sem]) rfl (aAp HE.out _)
theorem rW{w:World}{B sz n:Nat}{A:Option Addr}{xs:List Value}(h:Reads w B sz A n xs){p:Addr}{old:Value}(hp:w.cell? p=some old)(hk:∀u∈xs,u≠old)(u:Value):Reads (w.setCell p u) B sz A n xs:=by
 refine⟨h.1,fun hn=>?_⟩;obtain⟨b,off,e,hb,hc⟩:=h.2 hn;refine⟨b,off,e,hb,fun j x hx=>?_⟩;have h1:=hc j x hx;rw[World.cell?_setCell_other _ _ _ _ ?_]
 ·exact h1
 ·rintro rfl;rw[h1]at hp;injection hp with hp;exact hk x (List.mem_of_getElem? hx) hp
def noWord(u:Value):Prop:=∀x,U x≠u
theorem Big.set{w:World}{v:Value}{z:Int}(h:Big w v z){p:Addr}{old:Value}(hp:w.cell? p=some old)(hk:noWord old)(u:Value):Big (w.setCell p u) v z:=by
 obtain⟨A,c,ws,h1,h2,h3⟩:=h;refine⟨A,c,ws,h1,?_,h3⟩;have hz:(w.setCell p u).heap.size=w.heap.size:=by simp[World.setCell]
 rw[hz];refine rW h2 hp (fun x hx=>?_) u;obtain⟨y,_,rfl⟩:=List.mem_map.1 hx;exact hk y
theorem bO(b:Bool):noWord (.bool b):=fun _ h=>by cases h
theorem bJ(A:Option Addr)(n c:Nat):noWord (.slice A n c):=fun _ h=>by cases h
abbrev aK:TypeId:=120
theorem dZ{w w2:World}{R:Nat}{x y:Value}{z:Int}{b0:Bool}{A0:Option Addr}{n0 c0:Nat}(hb:Below w.heap.size w w2)(hR:w.heap.size≤R)(hB:Blk w2 R aK #[.bool b0,.slice A0 n0 c0])(h:Big w2 (.agg #[x,y]) z): RetBig w z (.returned (.agg #[x,y])) ((w2.setCell ⟨R,0,none⟩ x).setCell ⟨R,1,none⟩ y):=by
 refine⟨_,rfl,?_,(hb.setCell hR _).setCell hR _⟩;refine(h.set (old:= .bool b0) (hB.cell 0) (bO _) x).set (old:= .slice A0 n0 c0) ?_ (bJ _ _ _) y;rw[(hB.set_ 0 x).cell];rfl
theorem Big.sign{z:Int}{ws:List Int}(ho:Ok ws)(hn:Nm ws)(hv:val ws=(z.natAbs:Int)):ws.length=0↔z=0:=by
 have:=tV ho hn;rw[hv]at this;constructor
 ·intro h;have:=this.1 (List.eq_nil_of_length_eq_zero h);omega
 ·intro h;have:=this.2 (by omega);rw[this];rfl
theorem uX(v:Value)(z:Int)(w:World)(h:Big w v z):Calls Tryz.prog 182 #[v] w fun e w'=>e= .returned (I z.sign)∧Below w.heap.size w w':=by
 obtain⟨A,c,ws,rfl,hr,hc,ho,hn,hv⟩:=h;have hs:=Big.sign ho hn hv;have HB:=aH ((Below.refl w.heap.size w).alloc lR (.cells #[.bool (decide (z<0)),.slice A ws.length c] 120));by_cases h0:z=0
 ·have hl:=hs.2 h0;have t0:((ws.length:Int)==0)=true:=beq_iff_eq.2 (by omega);have HZ:=aH (show z.sign=0 by rw[h0];rfl);clear hs h0 hl hv hr;go_enter Tryz.func182,Tryz.ntmps182;go_wp2;go_ret;exact⟨aE HZ.out.symm,HB.out⟩
 ·have t0:((ws.length:Int)==0)=false:=beq_eq_false_iff_ne.2 (by have:=mt hs.1 h0;omega);by_cases h1:z<0
  ·have t1:decide (z<0)=true:=decide_eq_true h1;have HZ:=aH (show z.sign=-1 from Int.sign_eq_neg_one_of_neg h1);rw[t1]at HB⊢;clear hs h0 hv hr t1;go_enter Tryz.func182,Tryz.ntmps182;go_wp2;go_ret;exact⟨aE HZ.out.symm,HB.out⟩
  ·have t1:decide (z<0)=false:=decide_eq_false h1;have HZ:=aH (show z.sign=1 from Int.sign_eq_one_of_pos (by omega));rw[t1]at HB⊢;clear hs h0 hv hr t1;go_enter Tryz.func182,Tryz.ntmps182;go_wp2;go_ret;exact⟨aE HZ.out.symm,HB.out⟩
theorem Big.ofWords{w:World}{v:Value}{z:Int}(h:Big w v z):∃b A n c,v= .agg #[.bool b,.slice A n c]:=by
 obtain⟨A,c,ws,h1,_⟩:=h;exact⟨_,_,_,_,h1⟩
theorem aUt{z:Int}:sgn (!decide (z<0)) (z.natAbs:Int)=-z:=by
 by_cases h:z<0
 ·simp[sgn,h];omega
 ·simp[sgn,h];omega
theorem tX(v:Value)(z:Int)(w:World)(h:Big w v z):Calls Tryz.prog 155 #[v] w (RetBig w (-z)):=by
 obtain⟨A,c,ws,rfl,hr,⟨hc,hcm⟩,ho,hn,hv⟩:=h;have hb2:Below w.heap.size w ((w.alloc (.cells #[.bool (decide (z<0)),.slice A ws.length c] 120)).alloc (.cells #[.bool false,.slice none 0 0] 120)):=((Below.refl _ _).alloc lR _).alloc (by simp) _;have HN:=aH (fH (!decide (z<0)) ws A c _ ((hr.below hb2).more hb2.size) hc hcm ho);rw[hv,aUt]at HN;have HB:=aH hb2;have HR:=aH (Blk.new (w.alloc (.cells #[.bool (decide (z<0)),.slice A ws.length c] 120)) aK #[.bool false,.slice none 0 0]);rw[World.size_alloc w]at HR;clear hv hr hb2;go_enter Tryz.func155,Tryz.ntmps155;go_wp2_with fail;refine HN.out.mono ?_;rintro e w1 ⟨v,rfl,hv,hb⟩;obtain⟨b1,A1,n1,c1,rfl⟩:=hv.ofWords;have hR1:=HR.out.below hb HR.out.lt;have y0:=hR1.cell 0;have y1:=hR1.cell 1;have f0:=hR1.frozen 0;have f1:=hR1.frozen 1;have HQ:=aH (dZ (HB.out.trans (hb.mono HB.out.size)) (by omega) hR1 hv);have hR2:=(hR1.set_ 0 (.bool b1)).set_ 1 (.slice A1 n1 c1);have HR2:=aH hR2;clear hv hb hR1 HB HN HR hR2;go_wp2;have z0:=HR2.out.cell 0;have z1:=HR2.out.cell 1;generalize(w1.setCell ⟨w.heap.size+1,0,none⟩ (.bool b1)).setCell ⟨w.heap.size+1,1,none⟩ (.slice A1 n1 c1)=W at*;exact bodyPost_ret (v:= .agg #[.bool b1,.slice A1 n1 c1]) (by simp[results,Tryz.results155,go_sem,z0,z1]) rfl HQ.out
theorem Row.caps{w:World}{base:Nat}{e:TypeId}{sz:Nat}{v:Value}{n:Nat}{xs:List Value}(h:Row w base e sz v n xs):∃A c,v= .slice A n c∧n≤c∧c≤maxLen:=by
 rcases h.2 with⟨rfl,rfl⟩|⟨g,off,cap,cur,rfl,_,_,h1,h2,_⟩
 ·exact⟨_,_,rfl,Nat.le_refl _,Nat.zero_le _⟩
 ·exact⟨_,_,rfl,h1,h2⟩
theorem aCt{w:World}{p:Addr}{u:Value}(h:w.cell? p=some u):w.cell? p=some (bY w p):=by rw[bY,h];rfl
theorem cC{w w':World}(h:Below w.drew.heap.size w.drew w'):Below w.heap.size w w':=⟨h.os,h.tape,h.output,h.size,h.block⟩
theorem Big.drew{w:World}{v:Value}{z:Int}(h:Big w v z):Big w.drew v z:=h.ext (cC (Below.refl _ _))
theorem Blk.set2{w:World}{r:Nat}{t:TypeId}{x0 x1:Value}(h:Blk w r t #[x0,x1])(u v:Value):Blk ((w.setCell ⟨r,0,none⟩ u).setCell ⟨r,1,none⟩ v) r t #[u,v]:=(h.set_ 0 u).set_ 1 v
theorem fU{w':World}{b0 b1 r:Nat}{x0 x1 y0 y1 z0 z1:Value}(h:Blk w' b0 aK #[x0,x1])(k:Blk w' b1 aK #[y0,y1])(l:Blk w' r aK #[z0,z1]): w'.cell? ⟨b0,0,none⟩=some x0∧w'.cell? ⟨b0,1,none⟩=some x1∧w'.cell? ⟨b1,0,none⟩=some y0∧w'.cell? ⟨b1,1,none⟩=some y1∧w'.frozen? ⟨r,0,none⟩=false∧w'.frozen? ⟨r,1,none⟩=false∧ w'.cell? ⟨r,0,none⟩=some (bY w' ⟨r,0,none⟩)∧w'.cell? ⟨r,1,none⟩=some (bY w' ⟨r,1,none⟩):=⟨h.cell 0,h.cell 1,k.cell 0,k.cell 1,l.frozen 0,l.frozen 1,aCt (l.cell 0),aCt (l.cell 1)⟩
theorem aUu{x y:Int}(h:decide (x<0)=decide (y<0)):sgn (decide (x<0)) ((x.natAbs:Int)+(y.natAbs:Int))=x+y:=by
 by_cases h1:x<0
 ·have h2:y<0:=by simpa[h1]using h
  simp[sgn,h1];omega
 ·have h2:¬y<0:=by simpa[h1]using h
  simp[sgn,h1];omega
theorem aIo{x y:Int}(h:decide (x<0)≠decide (y<0)):sgn (decide (x<0)) ((x.natAbs:Int)-(y.natAbs:Int))=x+y:=by
 by_cases h1:x<0
 ·have h2:¬y<0:=by simpa[h1]using h
  simp[sgn,h1];omega
 ·have h2:y<0:=by simpa[h1]using h
  simp[sgn,h1];omega
theorem tY(u v:Value)(x y:Int)(w:World)(hx:Big w u x)(hy:Big w v y){N:Nat}(hN:N≤1000000000)(fx:Fits N x)(fy:Fits N y):Calls Tryz.prog 150 #[u,v] w (RetBig w (x+y)):=by
 obtain⟨A,ca,wx,rfl,hrx,⟨hcx,hmx⟩,hox,hnx,hvx⟩:=hx;obtain⟨B,cb,wy,rfl,hry,⟨hcy,hmy⟩,hoy,hny,hvy⟩:=hy;have lx:=fx.len hox hnx hvx;have ly:=fy.len hoy hny hvy;have hb1:Below w.heap.size w (((w.alloc (.cells #[.bool (decide (x<0)),.slice A wx.length ca] aK)).alloc (.cells #[.bool (decide (y<0)),.slice B wy.length cb] aK)).alloc (.cells #[.bool false,.slice none 0 0] aK)):=(((Below.refl _ _).alloc lR _).alloc (by simp) _).alloc (by simp;omega) _;have HX:=aH (((Blk.new w aK #[.bool (decide (x<0)),.slice A wx.length ca]).alloc (.cells #[.bool (decide (y<0)),.slice B wy.length cb] aK)).alloc (.cells #[.bool false,.slice none 0 0] aK));have HY:=aH ((Blk.new (w.alloc (.cells #[.bool (decide (x<0)),.slice A wx.length ca] aK)) aK #[.bool (decide (y<0)),.slice B wy.length cb]).alloc (.cells #[.bool false,.slice none 0 0] aK));have HR:=aH (Blk.new ((w.alloc (.cells #[.bool (decide (x<0)),.slice A wx.length ca] aK)).alloc (.cells #[.bool (decide (y<0)),.slice B wy.length cb] aK)) aK #[.bool false,.slice none 0 0]);rw[World.size_alloc w]at HY;rw[World.size_alloc _,World.size_alloc w]at HR;have HRX:=aH ((hrx.below hb1).more hb1.size);have HRY:=aH ((hry.below hb1).more hb1.size);have HB:=aH hb1;have HVX:=aH hvx;have HVY:=aH hvy;clear hrx hry hb1 hvx hvy fx fy;by_cases hs:decide (x<0)=decide (y<0)
 ·have hS:=aUu hs;have HS:=aH hS;have t0:(decide (x<0)==decide (y<0))=true:=beq_iff_eq.2 hs;clear hS hs;generalize decide (x<0)=bx at*;generalize decide (y<0)=by_ at*;unfold aK at*;go_enter Tryz.func150,Tryz.ntmps150;go_wp2;generalize hW0:((w.alloc (Obj.cells #[Value.bool bx,Value.slice A wx.length ca] 120)).alloc (Obj.cells #[Value.bool by_,Value.slice B wy.length cb] 120)).alloc (Obj.cells #[Value.bool false,Value.slice none 0 0] 120)=W0 at*;clear hW0;go_region_held3 (fun w'=>w'.cell? ⟨w.heap.size,0,none⟩=some (.bool bx)∧w'.cell? ⟨w.heap.size,1,none⟩=some (.slice A wx.length ca)∧w'.cell? ⟨w.heap.size+1,0,none⟩=some (.bool by_)∧w'.cell? ⟨w.heap.size+1,1,none⟩=some (.slice B wy.length cb)∧w'.frozen? ⟨w.heap.size+1+1,0,none⟩=false∧w'.frozen? ⟨w.heap.size+1+1,1,none⟩=false∧w'.cell? ⟨w.heap.size+1+1,0,none⟩=some (bY w' ⟨w.heap.size+1+1,0,none⟩)∧w'.cell? ⟨w.heap.size+1+1,1,none⟩=some (bY w' ⟨w.heap.size+1+1,1,none⟩)) (first|(with_reducible exact fU HX.out HY.out HR.out)|(with_reducible exact fU HX.out.drew HY.out.drew HR.out.drew)|(with_reducible exact fU HX1.out HY1.out HR1.out)|(with_reducible exact fU HX2.out HY2.out HR2.out)|(with_reducible exact fU HX3.out HY3.out HR3.out))
   (first|(go_at_call 186;(with_reducible refine(aOn wx wy A B ca cb _ HRX.out.drew HRY.out.drew hox hoy (by omega) (by omega)).mono ?_);rintro e w1 ⟨v1,o1,rfl,hr1,ho1,⟨hv1,-⟩,hb1⟩;obtain⟨A1,c1,rfl,hc1,hm1⟩:=hr1.caps;have HX1:=aH (HX.out.drew.below hb1 HX.out.lt);have HY1:=aH (HY.out.drew.below hb1 HY.out.lt);have HR1:=aH (HR.out.drew.below hb1 HR.out.lt);have HB1:=aH (HB.out.trans ((cC hb1).mono HB.out.size));have HV1:=aH hv1;clear hv1 hb1)|(go_at_call 168;(with_reducible refine(fH bx o1 A1 c1 _ hr1.reads hc1 hm1 ho1).mono ?_);rintro e w2 ⟨v2,rfl,hv2,hb2⟩;obtain⟨b2,A2,n2,c2,rfl⟩:=hv2.ofWords;have HX2:=aH (HX1.out.below hb2 HX1.out.lt);have HY2:=aH (HY1.out.below hb2 HY1.out.lt);have HR2:=aH (HR1.out.below hb2 HR1.out.lt);have HQ:=aH (dZ (HB1.out.trans (hb2.mono HB1.out.size)) (by omega) HR2.out hv2);have HX3:=aH ((HX2.out.far (p:=⟨w.heap.size+1+1,0,none⟩) (by simp only;omega) (.bool b2)).far (p:=⟨w.heap.size+1+1,1,none⟩) (by simp only;omega) (.slice A2 n2 c2));have HY3:=aH ((HY2.out.far (p:=⟨w.heap.size+1+1,0,none⟩) (by simp only;omega) (.bool b2)).far (p:=⟨w.heap.size+1+1,1,none⟩) (by simp only;omega) (.slice A2 n2 c2));have HR3:=aH (HR2.out.set2 (.bool b2) (.slice A2 n2 c2));clear hv2 hb2))
  rw[HV1.out,HVX.out,HVY.out,HS.out]at HQ;have z0:=HR3.out.cell 0;have z1:=HR3.out.cell 1;generalize(w2.setCell ⟨w.heap.size+1+1,0,none⟩ (.bool b2)).setCell ⟨w.heap.size+1+1,1,none⟩ (.slice A2 n2 c2)=W at*;go_wp2;exact bodyPost_ret (v:= .agg #[.bool b2,.slice A2 n2 c2]) (by simp[results,Tryz.results150,go_sem,z0,z1]) rfl HQ.out
 ·have t0:(decide (x<0)==decide (y<0))=false:=beq_eq_false_iff_ne.2 hs;have hS1:=aIo hs;have hS2:=aIo (Ne.symm hs);rw[Int.add_comm y x]at hS2;have HS1:=aH hS1;have HS2:=aH hS2;clear hS1 hS2 hs;generalize decide (x<0)=bx at*;generalize decide (y<0)=by_ at*;unfold aK at*;go_enter Tryz.func150,Tryz.ntmps150;go_wp2_with fail;generalize hW0:((w.alloc (Obj.cells #[Value.bool bx,Value.slice A wx.length ca] 120)).alloc (Obj.cells #[Value.bool by_,Value.slice B wy.length cb] 120)).alloc (Obj.cells #[Value.bool false,Value.slice none 0 0] 120)=W9 at*;clear hW0;refine(qA wx wy A B ca cb _ HRX.out HRY.out hox hoy hnx hny (by omega) (by omega)).mono ?_;rintro e W0 ⟨r,rfl,⟨hr1,hr2,hr3,hr4⟩,hb0⟩;have HX9:=aH (HX.out.below hb0 HX.out.lt);have HY9:=aH (HY.out.below hb0 HY.out.lt);have HR9:=aH (HR.out.below hb0 HR.out.lt);have HB9:=aH (HB.out.trans (hb0.mono HB.out.size));have HRX9:=aH ((HRX.out.below hb0).more hb0.size);have HRY9:=aH ((HRY.out.below hb0).more hb0.size);have HCM:=aH (And.intro hr1 hr2);clear HX HY HR HB HRX HRY hb0 hr1 hr2;have HX:=HX9;have HY:=HY9;have HR:=HR9;have HB:=HB9;have HRX:=HRX9;have HRY:=HRY9;clear HX9 HY9 HR9 HB9 HRX9 HRY9;have x0:=HX.out.cell 0;have x1:=HX.out.cell 1;have y0:=HY.out.cell 0;have y1:=HY.out.cell 1;by_cases hr0:0≤r
  ·have hle:val wy≤val wx:=by have:=HCM.out;omega
   have hll:wy.length≤wx.length:=lO hoy hny (by have:=dN hox;omega);have HLE:=aH hle;have tr:decide (0≤r)=true:=decide_eq_true hr0;clear hle;go_wp2;clear x0 x1 y0 y1;go_region_held3 (fun w'=>w'.cell? ⟨w.heap.size,0,none⟩=some (.bool bx)∧w'.cell? ⟨w.heap.size,1,none⟩=some (.slice A wx.length ca)∧w'.cell? ⟨w.heap.size+1,0,none⟩=some (.bool by_)∧w'.cell? ⟨w.heap.size+1,1,none⟩=some (.slice B wy.length cb)∧w'.frozen? ⟨w.heap.size+1+1,0,none⟩=false∧w'.frozen? ⟨w.heap.size+1+1,1,none⟩=false∧w'.cell? ⟨w.heap.size+1+1,0,none⟩=some (bY w' ⟨w.heap.size+1+1,0,none⟩)∧w'.cell? ⟨w.heap.size+1+1,1,none⟩=some (bY w' ⟨w.heap.size+1+1,1,none⟩)) (first|(with_reducible exact fU HX.out HY.out HR.out)|(with_reducible exact fU HX.out.drew HY.out.drew HR.out.drew)|(with_reducible exact fU HX1.out HY1.out HR1.out)|(with_reducible exact fU HX2.out HY2.out HR2.out)|(with_reducible exact fU HX3.out HY3.out HR3.out))
    (first|(go_at_call 188;(with_reducible refine(aCs wx wy A B ca cb _ HRX.out.drew HRY.out.drew hox hoy (by omega) hll HLE.out).mono ?_);rintro e w1 ⟨v1,o1,rfl,hr1,ho1,⟨hv1,-⟩,hb1⟩;obtain⟨A1,c1,rfl,hc1,hm1⟩:=hr1.caps;have HX1:=aH (HX.out.drew.below hb1 HX.out.lt);have HY1:=aH (HY.out.drew.below hb1 HY.out.lt);have HR1:=aH (HR.out.drew.below hb1 HR.out.lt);have HB1:=aH (HB.out.trans ((cC hb1).mono HB.out.size));have HV1:=aH hv1;clear hv1 hb1)|(go_at_call 168;(with_reducible refine(fH bx o1 A1 c1 _ hr1.reads hc1 hm1 ho1).mono ?_);rintro e w2 ⟨v2,rfl,hv2,hb2⟩;obtain⟨b2,A2,n2,c2,rfl⟩:=hv2.ofWords;have HX2:=aH (HX1.out.below hb2 HX1.out.lt);have HY2:=aH (HY1.out.below hb2 HY1.out.lt);have HR2:=aH (HR1.out.below hb2 HR1.out.lt);have HQ:=aH (dZ (HB1.out.trans (hb2.mono HB1.out.size)) (by omega) HR2.out hv2);have HX3:=aH ((HX2.out.far (p:=⟨w.heap.size+1+1,0,none⟩) (by simp only;omega) (.bool b2)).far (p:=⟨w.heap.size+1+1,1,none⟩) (by simp only;omega) (.slice A2 n2 c2));have HY3:=aH ((HY2.out.far (p:=⟨w.heap.size+1+1,0,none⟩) (by simp only;omega) (.bool b2)).far (p:=⟨w.heap.size+1+1,1,none⟩) (by simp only;omega) (.slice A2 n2 c2));have HR3:=aH (HR2.out.set2 (.bool b2) (.slice A2 n2 c2));clear hv2 hb2))
   rw[HV1.out,HVX.out,HVY.out,HS1.out]at HQ;have z0:=HR3.out.cell 0;have z1:=HR3.out.cell 1;generalize(w2.setCell ⟨w.heap.size+1+1,0,none⟩ (.bool b2)).setCell ⟨w.heap.size+1+1,1,none⟩ (.slice A2 n2 c2)=W at*;go_wp2;exact bodyPost_ret (v:= .agg #[.bool b2,.slice A2 n2 c2]) (by simp[results,Tryz.results150,go_sem,z0,z1]) rfl HQ.out
  ·have hle:val wx≤val wy:=by have:=HCM.out;omega
   have hll:wx.length≤wy.length:=lO hox hnx (by have:=dN hoy;omega);have HLE:=aH hle;have tr:decide (0≤r)=false:=decide_eq_false hr0;clear hle;go_wp2;clear x0 x1 y0 y1;go_region_held3 (fun w'=>w'.cell? ⟨w.heap.size,0,none⟩=some (.bool bx)∧w'.cell? ⟨w.heap.size,1,none⟩=some (.slice A wx.length ca)∧w'.cell? ⟨w.heap.size+1,0,none⟩=some (.bool by_)∧w'.cell? ⟨w.heap.size+1,1,none⟩=some (.slice B wy.length cb)∧w'.frozen? ⟨w.heap.size+1+1,0,none⟩=false∧w'.frozen? ⟨w.heap.size+1+1,1,none⟩=false∧w'.cell? ⟨w.heap.size+1+1,0,none⟩=some (bY w' ⟨w.heap.size+1+1,0,none⟩)∧w'.cell? ⟨w.heap.size+1+1,1,none⟩=some (bY w' ⟨w.heap.size+1+1,1,none⟩)) (first|(with_reducible exact fU HX.out HY.out HR.out)|(with_reducible exact fU HX.out.drew HY.out.drew HR.out.drew)|(with_reducible exact fU HX1.out HY1.out HR1.out)|(with_reducible exact fU HX2.out HY2.out HR2.out)|(with_reducible exact fU HX3.out HY3.out HR3.out))
    (first|(go_at_call 188;(with_reducible refine(aCs wy wx B A cb ca _ HRY.out.drew HRX.out.drew hoy hox (by omega) hll HLE.out).mono ?_);rintro e w1 ⟨v1,o1,rfl,hr1,ho1,⟨hv1,-⟩,hb1⟩;obtain⟨A1,c1,rfl,hc1,hm1⟩:=hr1.caps;have HX1:=aH (HX.out.drew.below hb1 HX.out.lt);have HY1:=aH (HY.out.drew.below hb1 HY.out.lt);have HR1:=aH (HR.out.drew.below hb1 HR.out.lt);have HB1:=aH (HB.out.trans ((cC hb1).mono HB.out.size));have HV1:=aH hv1;clear hv1 hb1)|(go_at_call 168;(with_reducible refine(fH by_ o1 A1 c1 _ hr1.reads hc1 hm1 ho1).mono ?_);rintro e w2 ⟨v2,rfl,hv2,hb2⟩;obtain⟨b2,A2,n2,c2,rfl⟩:=hv2.ofWords;have HX2:=aH (HX1.out.below hb2 HX1.out.lt);have HY2:=aH (HY1.out.below hb2 HY1.out.lt);have HR2:=aH (HR1.out.below hb2 HR1.out.lt);have HQ:=aH (dZ (HB1.out.trans (hb2.mono HB1.out.size)) (by omega) HR2.out hv2);have HX3:=aH ((HX2.out.far (p:=⟨w.heap.size+1+1,0,none⟩) (by simp only;omega) (.bool b2)).far (p:=⟨w.heap.size+1+1,1,none⟩) (by simp only;omega) (.slice A2 n2 c2));have HY3:=aH ((HY2.out.far (p:=⟨w.heap.size+1+1,0,none⟩) (by simp only;omega) (.bool b2)).far (p:=⟨w.heap.size+1+1,1,none⟩) (by simp only;omega) (.slice A2 n2 c2));have HR3:=aH (HR2.out.set2 (.bool b2) (.slice A2 n2 c2));clear hv2 hb2))
   rw[HV1.out,HVX.out,HVY.out,HS2.out]at HQ;have z0:=HR3.out.cell 0;have z1:=HR3.out.cell 1;generalize(w2.setCell ⟨w.heap.size+1+1,0,none⟩ (.bool b2)).setCell ⟨w.heap.size+1+1,1,none⟩ (.slice A2 n2 c2)=W at*;go_wp2;exact bodyPost_ret (v:= .agg #[.bool b2,.slice A2 n2 c2]) (by simp[results,Tryz.results150,go_sem,z0,z1]) rfl HQ.out
theorem RetBig.of_eq{w:World}{z z':Int}{e:Ending}{w':World}(h:RetBig w z e w')(hz:z=z'):RetBig w z' e w':=by rw[←hz];exact h
theorem aIp(u v:Value)(x y:Int)(w:World)(hx:Big w u x)(hy:Big w v y){N:Nat}(hN:N≤1000000000)(fx:Fits N x)(fy:Fits N y):Calls Tryz.prog 193 #[u,v] w (RetBig w (x-y)):=by
 obtain⟨bx,A,lx,ca,rfl⟩:=hx.ofWords;obtain⟨by_,B,ly,cb,rfl⟩:=hy.ofWords;have hb1:Below w.heap.size w (((w.alloc (.cells #[.bool bx,.slice A lx ca] aK)).alloc (.cells #[.bool by_,.slice B ly cb] aK)).alloc (.cells #[.bool false,.slice none 0 0] aK)):=(((Below.refl _ _).alloc lR _).alloc (by simp) _).alloc (by simp;omega) _;have HX:=aH (((Blk.new w aK #[.bool bx,.slice A lx ca]).alloc (.cells #[.bool by_,.slice B ly cb] aK)).alloc (.cells #[.bool false,.slice none 0 0] aK));have HY:=aH ((Blk.new (w.alloc (.cells #[.bool bx,.slice A lx ca] aK)) aK #[.bool by_,.slice B ly cb]).alloc (.cells #[.bool false,.slice none 0 0] aK));have HR:=aH (Blk.new ((w.alloc (.cells #[.bool bx,.slice A lx ca] aK)).alloc (.cells #[.bool by_,.slice B ly cb] aK)) aK #[.bool false,.slice none 0 0]);rw[World.size_alloc w]at HY;rw[World.size_alloc _,World.size_alloc w]at HR;have HBX:=aH (hx.ext hb1);have HBY:=aH (hy.ext hb1);have HB:=aH hb1;clear hx hy hb1;unfold aK at*;go_enter Tryz.func193,Tryz.ntmps193;go_wp2;generalize hW0:((w.alloc (Obj.cells #[Value.bool bx,Value.slice A lx ca] 120)).alloc (Obj.cells #[Value.bool by_,Value.slice B ly cb] 120)).alloc (Obj.cells #[Value.bool false,Value.slice none 0 0] 120)=W0 at*;clear hW0;go_region_held3 (fun w'=>w'.cell? ⟨w.heap.size,0,none⟩=some (.bool bx)∧w'.cell? ⟨w.heap.size,1,none⟩=some (.slice A lx ca)∧w'.cell? ⟨w.heap.size+1,0,none⟩=some (.bool by_)∧w'.cell? ⟨w.heap.size+1,1,none⟩=some (.slice B ly cb)∧w'.frozen? ⟨w.heap.size+1+1,0,none⟩=false∧w'.frozen? ⟨w.heap.size+1+1,1,none⟩=false∧w'.cell? ⟨w.heap.size+1+1,0,none⟩=some (bY w' ⟨w.heap.size+1+1,0,none⟩)∧w'.cell? ⟨w.heap.size+1+1,1,none⟩=some (bY w' ⟨w.heap.size+1+1,1,none⟩)) (first|(with_reducible exact fU HX.out HY.out HR.out)|(with_reducible exact fU HX.out.drew HY.out.drew HR.out.drew)|(with_reducible exact fU HX1.out HY1.out HR1.out)|(with_reducible exact fU HX2.out HY2.out HR2.out)|(with_reducible exact fU HX3.out HY3.out HR3.out))
  (first|(go_at_call 155;(with_reducible refine(tX _ y _ HBY.out.drew).mono ?_);rintro e w1 ⟨v1,rfl,hv1,hb1⟩;have HX1:=aH (HX.out.drew.below hb1 HX.out.lt);have HY1:=aH (HY.out.drew.below hb1 HY.out.lt);have HR1:=aH (HR.out.drew.below hb1 HR.out.lt);have HB1:=aH (HB.out.trans ((cC hb1).mono HB.out.size));have HBX1:=aH (HBX.out.drew.ext hb1);clear hb1)|(go_at_call 150;(with_reducible refine(tY _ _ x (-y) _ HBX1.out hv1 hN fx fy.neg).mono ?_);rintro e w2 ⟨v2,rfl,hv2,hb2⟩;obtain⟨b2,A2,n2,c2,rfl⟩:=hv2.ofWords;have HX2:=aH (HX1.out.below hb2 HX1.out.lt);have HY2:=aH (HY1.out.below hb2 HY1.out.lt);have HR2:=aH (HR1.out.below hb2 HR1.out.lt);have HQ:=aH (dZ (HB1.out.trans (hb2.mono HB1.out.size)) (by omega) HR2.out hv2);have HX3:=aH ((HX2.out.far (p:=⟨w.heap.size+1+1,0,none⟩) (by simp only;omega) (.bool b2)).far (p:=⟨w.heap.size+1+1,1,none⟩) (by simp only;omega) (.slice A2 n2 c2));have HY3:=aH ((HY2.out.far (p:=⟨w.heap.size+1+1,0,none⟩) (by simp only;omega) (.bool b2)).far (p:=⟨w.heap.size+1+1,1,none⟩) (by simp only;omega) (.slice A2 n2 c2));have HR3:=aH (HR2.out.set2 (.bool b2) (.slice A2 n2 c2));clear hv2 hb2))
 have z0:=HR3.out.cell 0;have z1:=HR3.out.cell 1;generalize(w2.setCell ⟨w.heap.size+1+1,0,none⟩ (.bool b2)).setCell ⟨w.heap.size+1+1,1,none⟩ (.slice A2 n2 c2)=W at*;go_wp2;exact bodyPost_ret (v:= .agg #[.bool b2,.slice A2 n2 c2]) (by simp[results,Tryz.results193,go_sem,z0,z1]) rfl (HQ.out.of_eq Int.sub_eq_add_neg.symm)
theorem aUv(u v:Value)(x y:Int)(w:World)(hx:Big w u x)(hy:Big w v y){N:Nat}(hN:N≤1000000000)(fx:Fits N x)(fy:Fits N y):Calls Tryz.prog 156 #[u,v] w fun e w'=>e= .returned (I (x-y).sign)∧Below w.heap.size w w':=by
 obtain⟨bx,A,lx,ca,rfl⟩:=hx.ofWords;obtain⟨by_,B,ly,cb,rfl⟩:=hy.ofWords;have hb1:Below w.heap.size w ((w.alloc (.cells #[.bool bx,.slice A lx ca] aK)).alloc (.cells #[.bool by_,.slice B ly cb] aK)):=((Below.refl _ _).alloc lR _).alloc (by simp) _;have HC:=aH (aIp _ _ x y _ (hx.ext hb1) (hy.ext hb1) hN fx fy);have HB:=aH hb1;clear hx hy hb1;unfold aK at*;go_enter Tryz.func156,Tryz.ntmps156;go_wp2_with fail;refine HC.out.mono ?_;rintro e w1 ⟨v1,rfl,hv1,hb1⟩;have HB1:=aH (HB.out.trans (hb1.mono HB.out.size));have HS:=aH (uX _ _ _ hv1);clear hb1 hv1 HC HB;go_wp2_with fail;refine HS.out.mono ?_;rintro e w2 ⟨rfl,hb2⟩;have HB2:=aH (HB1.out.trans (hb2.mono HB1.out.size));clear hb2;go_wp2;go_ret;exact⟨rfl,HB2.out⟩
theorem aLe(w:World)(t:TypeId)(x y:Value):Reads (w.alloc (.cells #[x,y] t)) (w.alloc (.cells #[x,y] t)).heap.size 1 (some ⟨w.heap.size,0,none⟩) 2 [x,y]:=by
 refine⟨rfl,fun _=>⟨_,_,rfl,by simp,fun j u hu=>?_⟩⟩;rw[(Blk.new w t #[x,y]).cell,Nat.zero_add];rw[←hu];simp
theorem aOq{n lo hi:Int}(e1:lo+4294967296*hi=(n.natAbs:Int))(h0:0≤lo∧lo<4294967296)(h1:0≤hi∧hi<4294967296):val [lo,hi]=(n.natAbs:Int)∧Ok [lo,hi]:=by
 refine⟨by simp only[val];omega,fun x hx=>?_⟩;rcases List.mem_cons.1 hx with rfl|hx
 ·exact h0
 ·rcases List.mem_cons.1 hx with rfl|hx
  ·exact h1
  ·simp at hx
theorem aCu{n lo hi:Int}(m:Bool)(w:World)(e1:lo+4294967296*hi=(n.natAbs:Int))(h0:0≤lo∧lo<4294967296)(h1:0≤hi∧hi<4294967296)(hm:sgn m (n.natAbs:Int)=n): Calls Tryz.prog 168 #[.bool m,.slice (some ⟨w.heap.size,0,none⟩) 2 2] (w.alloc (.cells #[U lo,U hi] 247)) (RetBig (w.alloc (.cells #[U lo,U hi] 247)) n):=by
 obtain⟨hv,ho⟩:=aOq e1 h0 h1;have:=fH m [lo,hi] (some ⟨w.heap.size,0,none⟩) 2 (w.alloc (.cells #[U lo,U hi] 247)) (aLe w _ _ _) lR (by unfold maxLen;omega) ho;rw[hv,hm]at this;exact this
theorem mU(n:Int)(w:World)(h0:-9223372036854775808≤n)(h1:n≤9223372036854775807):Calls Tryz.prog 136 #[I n] w (RetBig w n):=by
 have hb0:∀o,Below w.heap.size w ((w.alloc (.cells #[.bool false,.slice none 0 0] 120)).alloc o):=fun o=>((Below.refl _ _).alloc lR _).alloc (by simp) _;by_cases hn:n<0
 ·have hm:sgn true (n.natAbs:Int)=n:=by simp[sgn];omega
  have e1:IntKind.u64.wrap (-IntKind.u64.wrap n)%4294967296+4294967296*(IntKind.u64.wrap (-IntKind.u64.wrap n)/4294967296%4294967296)=(n.natAbs:Int):=by rw[IntKind.wrap_u64,IntKind.wrap_u64];omega
  have h2:=aCu (n:=n) true (w.alloc (.cells #[.bool false,.slice none 0 0] 120)) e1 (by omega) (by omega) hm;have hbk:=(Blk.new w aK #[.bool false,.slice none 0 0]).alloc (.cells #[U (IntKind.u64.wrap (-IntKind.u64.wrap n)%4294967296),U (IntKind.u64.wrap (-IntKind.u64.wrap n)/4294967296%4294967296)] 247);have HN:=aH h2;have HB:=aH (hb0 (.cells #[U (IntKind.u64.wrap (-IntKind.u64.wrap n)%4294967296),U (IntKind.u64.wrap (-IntKind.u64.wrap n)/4294967296%4294967296)] 247));have HR:=aH hbk;rw[World.size_alloc w]at HN;clear hm e1 h2 hbk hb0;go_enter Tryz.func136,Tryz.ntmps136;go_wp2_with fail;refine HN.out.mono ?_;rintro e w1 ⟨v,rfl,hv,hb⟩;obtain⟨b1,A1,n1,c1,rfl⟩:=hv.ofWords;have hR1:=HR.out.below hb HR.out.lt;have y0:=hR1.cell 0;have y1:=hR1.cell 1;have f0:=hR1.frozen 0;have f1:=hR1.frozen 1;have HQ:=aH (dZ (HB.out.trans (hb.mono HB.out.size)) (by omega) hR1 hv);have HR2:=aH (hR1.set2 (.bool b1) (.slice A1 n1 c1));clear hv hb hR1 HB HN HR;go_wp2;have z0:=HR2.out.cell 0;have z1:=HR2.out.cell 1;generalize(w1.setCell ⟨w.heap.size,0,none⟩ (.bool b1)).setCell ⟨w.heap.size,1,none⟩ (.slice A1 n1 c1)=W at*;exact bodyPost_ret (v:= .agg #[.bool b1,.slice A1 n1 c1]) (by simp[results,Tryz.results136,go_sem,z0,z1]) rfl HQ.out
 ·have hm:sgn false (n.natAbs:Int)=n:=by simp[sgn];omega
  have e1:n%4294967296+4294967296*(n/4294967296)=(n.natAbs:Int):=by omega
  have h2:=aCu (n:=n) false (w.alloc (.cells #[.bool false,.slice none 0 0] 120)) e1 (by omega) (by omega) hm;have hbk:=(Blk.new w aK #[.bool false,.slice none 0 0]).alloc (.cells #[U (n%4294967296),U (n/4294967296)] 247);have HN:=aH h2;have HB:=aH (hb0 (.cells #[U (n%4294967296),U (n/4294967296)] 247));have HR:=aH hbk;rw[World.size_alloc w]at HN;clear hm e1 h2 hbk hb0;go_enter Tryz.func136,Tryz.ntmps136;go_wp2_with fail;refine HN.out.mono ?_;rintro e w1 ⟨v,rfl,hv,hb⟩;obtain⟨b1,A1,n1,c1,rfl⟩:=hv.ofWords;have hR1:=HR.out.below hb HR.out.lt;have y0:=hR1.cell 0;have y1:=hR1.cell 1;have f0:=hR1.frozen 0;have f1:=hR1.frozen 1;have HQ:=aH (dZ (HB.out.trans (hb.mono HB.out.size)) (by omega) hR1 hv);have HR2:=aH (hR1.set2 (.bool b1) (.slice A1 n1 c1));clear hv hb hR1 HB HN HR;go_wp2;have z0:=HR2.out.cell 0;have z1:=HR2.out.cell 1;generalize(w1.setCell ⟨w.heap.size,0,none⟩ (.bool b1)).setCell ⟨w.heap.size,1,none⟩ (.slice A1 n1 c1)=W at*;exact bodyPost_ret (v:= .agg #[.bool b1,.slice A1 n1 c1]) (by simp[results,Tryz.results136,go_sem,z0,z1]) rfl HQ.out
theorem nZ(l:List Int):∀(j:Nat) (x:Int),j<l.length→val (l.set j x)=val l+P32 j*(x-l.getD j 0):=by
 induction l with
 |nil=>intro j x h;simp at h
 |cons y l ih=>
  intro j x h;cases j with
  |zero=>simp[val,mS];omega
  |succ j=>
   simp only[List.set_cons_succ,val,List.getD_cons_succ];rw[ih j x (by simpa using h),bS,Int.mul_add,Int.mul_assoc];omega
theorem iU{x y:Int}(hx:0≤x∧x<4294967296)(hy:0≤y∧y<4294967296):0≤x*y∧x*y≤18446744065119617025:=by
 refine⟨Int.mul_nonneg hx.1 hy.1,?_⟩;have:=Int.mul_le_mul (show x≤4294967295 by omega) (show y≤4294967295 by omega) hy.1 (by omega);omega
structure MulO(w:World)(g:Nat)(a b:List Int)(i:Nat)(o:List Int)(wr:World):Prop where
 wrd:Wrd w g (a.length+b.length) o wr
 hi:i≤a.length
 sum:val o=val (a.take i)*val b
 zero:∀k,i+b.length≤k→o.getD k 0=0
structure MulK(w:World)(g:Nat)(a b:List Int)(i:Nat)(x:Int)(k:Nat)(c:Int)(o:List Int)(wr:World):Prop where
 wrd:Wrd w g (a.length+b.length) o wr
 hk:k≤b.length
 hc:0≤c∧c<4294967296
 sum:val o+P32 (i+k)*c=val (a.take i)*val b+P32 i*(x*val (b.take k))
 zero:∀k,i+b.length≤k→o.getD k 0=0
theorem MulK.step{w:World}{g:Nat}{a b:List Int}{i:Nat}{x:Int}{k:Nat}{c:Int}{o:List Int}{wr:World}(h:MulK w g a b i x k c o wr)(ob:Ok b)(hx:0≤x∧x<4294967296)(hlt:k<b.length)(hi:i<a.length)(hg:w.heap.size≤g){s:Int}(hs:s=c+(o.getD (i+k) 0+x*b.getD k 0)): MulK w g a b i x (k+1) (s/4294967296) (o.set (i+k) (s%4294967296)) (wr.setCell ⟨g,i+k,none⟩ (U (s%4294967296))):=by
 have h1:=ob.at_ k;have h2:=h.wrd.ok.at_ (i+k);have h3:=h.hc;have h4:=iU hx h1;refine⟨h.wrd.set (i+k) (by omega) hg,by omega,by omega,?_,?_⟩
 ·have hl:=h.wrd.len;rw[nZ o (i+k) _ (by omega),aR,show i+(k+1)=(i+k)+1 from rfl,bS];have h5:=h.sum;have h6:=eW (P32 (i+k)) s;have e1:P32 (i+k)*s=P32 (i+k)*c+(P32 (i+k)*o.getD (i+k) 0+P32 (i+k)*(x*b.getD k 0)):=by rw[hs,Int.mul_add,Int.mul_add]
  have e2:P32 i*(x*(val (b.take k)+P32 k*b.getD k 0))=P32 i*(x*val (b.take k))+P32 (i+k)*(x*b.getD k 0):=by
   rw[Int.mul_add,Int.mul_add,iQ];congr 1;rw[Int.mul_assoc,Int.mul_left_comm x]
  rw[e2,Int.mul_sub];omega
 ·intro j hj;rw[bU _ _ (by omega)];exact h.zero j hj
theorem MulK.last{w:World}{g:Nat}{a b:List Int}{i:Nat}{x:Int}{c:Int}{o:List Int}{wr:World}(h:MulK w g a b i x b.length c o wr)(hi:i<a.length)(hx:x=a.getD i 0)(hg:w.heap.size≤g): MulO w g a b (i+1) (o.set (i+b.length) c) (wr.setCell ⟨g,i+b.length,none⟩ (U c)):=by
 refine⟨h.wrd.set (i+b.length) h.hc hg,by omega,?_,?_⟩
 ·have hl:=h.wrd.len;have h5:=h.sum;rw[nZ o (i+b.length) _ (by omega),h.zero _ lR,aR,←hx,Int.add_mul,Int.mul_assoc];rw[List.take_of_length_le lR]at h5;rw[Int.sub_zero];exact h5
 ·intro j hj;rw[bU _ _ (by omega)];exact h.zero j (by omega)
theorem aUw(x y:Int):sgn (decide (x<0) !=decide (y<0)) ((x.natAbs:Int)*(y.natAbs:Int))=x*y:=by
 by_cases h1:x<0
 ·by_cases h2:y<0
  ·have e1:(x.natAbs:Int)=-x:=by omega
   have e2:(y.natAbs:Int)=-y:=by omega
   simp[sgn,h1,h2,e1,e2,Int.neg_mul,Int.mul_neg]
  ·have e1:(x.natAbs:Int)=-x:=by omega
   have e2:(y.natAbs:Int)=y:=by omega
   simp[sgn,h1,h2,e1,e2,Int.neg_mul]
 ·by_cases h2:y<0
  ·have e1:(x.natAbs:Int)=x:=by omega
   have e2:(y.natAbs:Int)=-y:=by omega
   simp[sgn,h1,h2,e1,e2,Int.mul_neg]
  ·have e1:(x.natAbs:Int)=x:=by omega
   have e2:(y.natAbs:Int)=y:=by omega
   simp[sgn,h1,h2,e1,e2]
theorem iB(u v:Value)(x y:Int)(w:World)(hx:Big w u x)(hy:Big w v y){N:Nat}(hN:N≤1000000000)(fx:Fits N x)(fy:Fits N y):Calls Tryz.prog 149 #[u,v] w (RetBig w (x*y)):=by
 obtain⟨A,ca,wx,rfl,hrx,⟨hcx,hmx⟩,hox,hnx,hvx⟩:=hx;obtain⟨B,cb,wy,rfl,hry,⟨hcy,hmy⟩,hoy,hny,hvy⟩:=hy;have lx:=fx.len hox hnx hvx;have ly:=fy.len hoy hny hvy;have hS:=aUw x y;rw[←hvx,←hvy]at hS;have HS:=aH hS;clear hvx hvy fx fy hS;have hb1:Below w.heap.size w (((w.alloc (.cells #[.bool (decide (x<0)),.slice A wx.length ca] aK)).alloc (.cells #[.bool (decide (y<0)),.slice B wy.length cb] aK)).alloc (.cells #[.bool false,.slice none 0 0] aK)):=(((Below.refl _ _).alloc lR _).alloc (by simp) _).alloc (by simp;omega) _;have HX:=aH (((Blk.new w aK #[.bool (decide (x<0)),.slice A wx.length ca]).alloc (.cells #[.bool (decide (y<0)),.slice B wy.length cb] aK)).alloc (.cells #[.bool false,.slice none 0 0] aK));have HY:=aH ((Blk.new (w.alloc (.cells #[.bool (decide (x<0)),.slice A wx.length ca] aK)) aK #[.bool (decide (y<0)),.slice B wy.length cb]).alloc (.cells #[.bool false,.slice none 0 0] aK));have HR:=aH (Blk.new ((w.alloc (.cells #[.bool (decide (x<0)),.slice A wx.length ca] aK)).alloc (.cells #[.bool (decide (y<0)),.slice B wy.length cb] aK)) aK #[.bool false,.slice none 0 0]);rw[World.size_alloc w]at HY;rw[World.size_alloc _,World.size_alloc w]at HR;have HRX:=aH ((hrx.below hb1).more hb1.size);have HRY:=aH ((hry.below hb1).more hb1.size);have HB:=aH hb1;clear hrx hry hb1;generalize decide (x<0)=bx at*;generalize decide (y<0)=by_ at*;have hmk:=iF (wx.length+wy.length) (by omega);have e1:((wx.length+wy.length:Nat):Int)=(wx.length:Int)+wy.length:=by omega
 rw[e1]at hmk;clear e1;unfold aK at*;go_enter Tryz.func149,Tryz.ntmps149;go_wp2;have HW:Hid (Wrd (((w.alloc (Obj.cells #[Value.bool bx,Value.slice A wx.length ca] 120)).alloc (Obj.cells #[Value.bool by_,Value.slice B wy.length cb] 120)).alloc (Obj.cells #[Value.bool false,Value.slice none 0 0] 120)) (w.heap.size+1+1+1) (wx.length+wy.length) (List.replicate (wx.length+wy.length) 0) ((((w.alloc (Obj.cells #[Value.bool bx,Value.slice A wx.length ca] 120)).alloc (Obj.cells #[Value.bool by_,Value.slice B wy.length cb] 120)).alloc (Obj.cells #[Value.bool false,Value.slice none 0 0] 120)).alloc (Obj.cells (Array.replicate (wx.length+wy.length) (U 0)) 247))):=by
  have:=Wrd.start (((w.alloc (Obj.cells #[Value.bool bx,Value.slice A wx.length ca] 120)).alloc (Obj.cells #[Value.bool by_,Value.slice B wy.length cb] 120)).alloc (Obj.cells #[Value.bool false,Value.slice none 0 0] 120)) (wx.length+wy.length);rw[World.size_alloc _,World.size_alloc _,World.size_alloc w]at this;exact this
 have HZ:Hid ((((w.alloc (Obj.cells #[Value.bool bx,Value.slice A wx.length ca] 120)).alloc (Obj.cells #[Value.bool by_,Value.slice B wy.length cb] 120)).alloc (Obj.cells #[Value.bool false,Value.slice none 0 0] 120)).heap.size≤w.heap.size+1+1+1):=by rw[World.size_alloc _,World.size_alloc _,World.size_alloc w];exact Nat.le_refl _
 generalize hW0:((w.alloc (Obj.cells #[Value.bool bx,Value.slice A wx.length ca] 120)).alloc (Obj.cells #[Value.bool by_,Value.slice B wy.length cb] 120)).alloc (Obj.cells #[Value.bool false,Value.slice none 0 0] 120)=W0 at*;clear hW0 hmk;generalize w.heap.size+1+1+1=g at*;go_loopg [22] (wx.length-0) (fun r iv wr=>∃(i:Nat) (o:List Int),r=wx.length-i∧iv=I i∧MulO W0 g wx wy i o wr);case atStart=>exact⟨0,_,rfl,rfl,HW.out,by omega,by rw[yC];simp[val],fun k _=>by simp[List.getElem?_replicate];split<;>rfl⟩
 case round=>
  clear HW;obtain⟨i,o,rfl,rfl,hO⟩:=hrel;obtain⟨wa,rfl⟩:=wE wr;have hi:=hO.hi;have y1:=(HY.out.below hO.wrd.below HY.out.lt).cell 1;have hyl:=(HY.out.below hO.wrd.below HY.out.lt).lt;by_cases hlt:i<wx.length
  ·obtain⟨ba,offa,hAe,hba,hca⟩:=(HRX.out.below hO.wrd.below).word hlt;subst hAe;have hxx:=hox.at_ i;obtain⟨z,hze⟩:∃z,wx.getD i 0=z:=⟨_,rfl⟩;rw[hze]at hca hxx;have HZE:=aH hze;obtain⟨hz0,hz1⟩:=hxx;have hK:MulK W0 g wx wy i z 0 0 o wa:=⟨hO.wrd,by omega,by omega,by rw[hO.sum];simp[val],hO.zero⟩;have HK:=aH hK;clear hze hK hO;go_wp2;go_loopg [8,30] (wy.length-0) (fun r cv kv wr=>∃(k:Nat) (c:Int) (o:List Int),r=wy.length-k∧cv= .int .u64 c∧kv=I k∧MulK W0 g wx wy i z k c o wr);case atStart=>exact⟨0,0,o,rfl,rfl,rfl,HK.out⟩
   case round=>
    clear HK y1 hca;obtain⟨k,c,o2,rfl,rfl,rfl,hK⟩:=hrel;have hk:=hK.hk;obtain⟨hc0,hc1⟩:=hK.hc;have y1:=(HY.out.below hK.wrd.below HY.out.lt).cell 1;have hlo:=hK.wrd.blk.lt;by_cases hkl:k<wy.length
    ·obtain⟨bb,offb,hBe,hbb,hcb⟩:=(HRY.out.below hK.wrd.below).word hkl;subst hBe;have hyy:=hoy.at_ k;obtain⟨q,hqe⟩:∃q,wy.getD k 0=q:=⟨_,rfl⟩;rw[hqe]at hcb hyy;have hoo:=hK.wrd.ok.at_ (i+k);have hco:=hK.wrd.cell (i:=i+k) (by omega);obtain⟨p,hpe⟩:∃p,o2.getD (i+k) 0=p:=⟨_,rfl⟩;rw[hpe]at hco hoo;have hN:=hK.step hoy ⟨hz0,hz1⟩ hkl hlt HZ.out (s:=c+(p+z*q)) (by rw[hpe,hqe]);have hmb:=iU ⟨hz0,hz1⟩ hyy;have hf:wr.frozen? ⟨g,i+k,none⟩=false:=hK.wrd.blk.frozen _;have HN:=aH hN;obtain⟨hmb0,hmb1⟩:=hmb;obtain⟨hq0,hq1⟩:=hyy;obtain⟨hp0,hp1⟩:=hoo;clear hN hK hpe hqe;go_wp2;go_roundg (wy.length-(k+1));case measure=>omega
     case rel=>exact⟨k+1,_,_,rfl,rfl,by go_num,HN.out⟩
    ·obtain rfl:k=wy.length:=by omega
     have hN:=hK.last hlt HZE.out.symm HZ.out;have hf:wr.frozen? ⟨g,i+wy.length,none⟩=false:=hK.wrd.blk.frozen _;have hco:=hK.wrd.cell (i:=i+wy.length) (by omega);have HN:=aH hN;clear hN hK;go_wp2;go_roundg (wx.length-(i+1));case measure=>omega
     case rel=>exact⟨i+1,_,rfl,by go_num,HN.out⟩
  ·obtain rfl:i=wx.length:=by omega
   have x0:=(HX.out.below hO.wrd.below HX.out.lt).cell 0;have x1:=(HX.out.below hO.wrd.below HX.out.lt).cell 1;have y0:=(HY.out.below hO.wrd.below HY.out.lt).cell 0;have hxl:=(HX.out.below hO.wrd.below HX.out.lt).lt;have hV:=hO.sum;rw[List.take_of_length_le lR]at hV;have hl:=hO.wrd.len;have hNm:=fH (bx !=by_) o (some ⟨g,0,none⟩) (wx.length+wy.length) wa hO.wrd.reads (by omega) (by unfold maxLen;omega) hO.wrd.ok;rw[hV,HS.out,hl]at hNm;have HNm:=aH hNm;have HR1:=aH (HR.out.below hO.wrd.below HR.out.lt);have HB1:=aH (HB.out.trans (hO.wrd.below.mono HB.out.size));clear hO hV hl hNm;go_wp2_with fail;refine HNm.out.mono ?_;rintro e w1 ⟨v,rfl,hv,hb⟩;obtain⟨b1,A1,n1,c1,rfl⟩:=hv.ofWords;have hR1:=HR1.out.below hb HR1.out.lt;have q0:=hR1.cell 0;have q1:=hR1.cell 1;have f0:=hR1.frozen 0;have f1:=hR1.frozen 1;have HQ:=aH (dZ (HB1.out.trans (hb.mono HB1.out.size)) (by omega) hR1 hv);have HR2:=aH (hR1.set2 (.bool b1) (.slice A1 n1 c1));clear hv hb hR1 HB HNm HR;go_wp2;have z0:=HR2.out.cell 0;have z1:=HR2.out.cell 1;generalize(w1.setCell ⟨w.heap.size+1+1,0,none⟩ (.bool b1)).setCell ⟨w.heap.size+1+1,1,none⟩ (.slice A1 n1 c1)=W at*;exact bodyPost_ret (v:= .agg #[.bool b1,.slice A1 n1 c1]) (by simp[results,Tryz.results149,go_sem,z0,z1]) rfl HQ.out
end
end Go.Proofs.YtenbglfkdldheaaGreatDoor
