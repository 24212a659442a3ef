/- The plain functions of package graph, as the program computes them. No program here. The plain functions of graph.path: distances by breadth, then the way back. No program here. graph.parts computes the plain function 'parts'. graph.Check graph.tree, graph.Tree, graph.Bridges, graph.Components. -/
import Derived.Test.YtenbglfkdldheaaGreatDoorUNC
set_option maxRecDepth 100000
set_option maxHeartbeats 1000000
namespace Go.Proofs.YtenbglfkdldheaaGreatDoor
section
def okEdge(n:Int)(x:Int×Int):Bool:=decide (0≤x.1∧x.1<n∧0≤x.2∧x.2<n)
def kH(n:Int)(l:List (Int×Int)):Int:=if n<0∨24<n∨64<l.length then 2 else if l.all (okEdge n)then 0 else 4
def gC(wo m a:Int):Int→List (Int×Int)→List Int→List Int→List Int×List Int
 |_,[],o,q=>(o,q)
 |k,x::l,o,q=>
  if k=wo∨(x.1≠a∧x.2≠a)then gC wo m a (k+1) l o q
  else if o.getD (x.1+x.2-a).toNat 0<0 then gC wo m a (k+1) l (o.set (x.1+x.2-a).toNat m) (q++[x.1+x.2-a])
  else gC wo m a (k+1) l o q
def bfs(l:List (Int×Int))(wo m:Int):Nat→List Int→List Int→List Int
 |0,o,_=>o
 |_+1,o,[]=>o
 |f+1,o,a::q=>bfs l wo m f (gC wo m a 0 l o q).1 (gC wo m a 0 l o q).2
def outer(l:List (Int×Int))(wo:Int)(n:Nat):Nat→Nat→Int→List Int→List Int
 |0,_,_,o=>o
 |r+1,i,m,o=>if o.getD i 0<0 then outer l wo n r (i+1) (m+1) (bfs l wo m (n+1) (o.set i m) [(i:Int)])else outer l wo n r (i+1) m o
def parts(n:Nat)(l:List (Int×Int))(wo:Int):List Int:=outer l wo n n 0 0 (List.replicate n (-1))
def neg(o:List Int):Nat:=o.countP fun x=>decide (x<0)
theorem sD{wo m a k:Int}{x:Int×Int}{l:List (Int×Int)}{o q:List Int}(h:k=wo∨(x.1≠a∧x.2≠a)):gC wo m a k (x::l) o q=gC wo m a (k+1) l o q:=by
 rw[gC,if_pos h]
theorem vP{wo m a k:Int}{x:Int×Int}{l:List (Int×Int)}{o q:List Int}(h:¬(k=wo∨(x.1≠a∧x.2≠a)))(h2:o.getD (x.1+x.2-a).toNat 0<0): gC wo m a k (x::l) o q=gC wo m a (k+1) l (o.set (x.1+x.2-a).toNat m) (q++[x.1+x.2-a]):=by
 rw[gC,if_neg h,if_pos h2]
theorem vQ{wo m a k:Int}{x:Int×Int}{l:List (Int×Int)}{o q:List Int}(h:¬(k=wo∨(x.1≠a∧x.2≠a)))(h2:¬o.getD (x.1+x.2-a).toNat 0<0): gC wo m a k (x::l) o q=gC wo m a (k+1) l o q:=by
 rw[gC,if_neg h,if_neg h2]
theorem aQn(o:List Int):neg o≤o.length:=List.countP_le_length
theorem uH{o:List Int}{i:Nat}{m:Int}(hi:i<o.length)(hm:0≤m)(hneg:o.getD i 0<0):neg (o.set i m)+1=neg o:=by
 induction o generalizing i with
 |nil=>simp at hi
 |cons y o ih=>
  cases i with
  |zero=>
   simp at hneg;have h1:¬m<0:=by omega
   simp[neg,hneg,h1]
  |succ i=>
   have:=ih (i:=i) (by simpa using hi) (by simpa using hneg);simp only[neg,List.set_cons_succ,List.countP_cons]at this⊢;omega
theorem aQo(wo m a k:Int)(l:List (Int×Int))(o q:List Int):(gC wo m a k l o q).1.length=o.length:=by
 induction l generalizing k o q with
 |nil=>rfl
 |cons x l ih=>
  rw[gC];split
  ·exact ih _ _ _
  ·split
   ·rw[ih];simp
   ·exact ih _ _ _
theorem aVs(l:List (Int×Int))(wo m:Int)(f:Nat)(o q:List Int):(bfs l wo m f o q).length=o.length:=by
 induction f generalizing o q with
 |zero=>rfl
 |succ f ih=>
  cases q with
  |nil=>rfl
  |cons a q=>rw[bfs,ih,aQo]
theorem aMb(l:List (Int×Int))(wo:Int)(n r i:Nat)(m:Int)(o:List Int):(outer l wo n r i m o).length=o.length:=by
 induction r generalizing i m o with
 |zero=>rfl
 |succ r ih=>
  rw[outer];split
  ·rw[ih,aVs];simp
  ·exact ih _ _ _
theorem oD(n:Nat)(l:List (Int×Int))(wo:Int):(parts n l wo).length=n:=by rw[parts,aMb];simp
def sel(p:Nat→Bool)(len:Nat):List Int:=((List.range len).filter p).map Int.ofNat
def aYx(p:List Int)(x:Int×Int):Bool:=p.getD x.1.toNat 0 !=p.getD x.2.toNat 0
def trB(n:Nat)(l:List (Int×Int))(k:Nat):Bool:=aYx (parts n (l.take k) (-1)) (l.getD k (0,0))
def bAy(n:Nat)(l:List (Int×Int)):List Int:=sel (trB n l) l.length
def iJ{α:Type}(n:Int)(l:List (Int×Int))(none:α)(r:α):α×Int:=if kH n l=0 then(r,0)else(none,kH n l)
def bM(l:List (Int×Int))(k:Int):Int×Int:=l.getD k.toNat (0,0)
def nxt(l:List (Int×Int))(a k:Int):Int:=(bM l k).1+(bM l k).2-a
def inc(l:List (Int×Int))(a k:Int):Bool:=(bM l k).1==a||(bM l k).2==a
def aDr(l:List (Int×Int))(a:Int):List Int→List Int→List Int→List Int×List Int
 |[],o,q=>(o,q)
 |k::es,o,q=>
  if inc l a k=true then
   if o.getD (nxt l a k).toNat 0<0 then aDr l a es (o.set (nxt l a k).toNat (o.getD a.toNat 0+1)) (q++[nxt l a k])else aDr l a es o q
  else aDr l a es o q
def bAz(l:List (Int×Int))(es:List Int):Nat→List Int→List Int→List Int
 |0,o,_=>o
 |_+1,o,[]=>o
 |f+1,o,a::q=>bAz l es f (aDr l a es o q).1 (aDr l a es o q).2
def aYy(n:Nat)(l:List (Int×Int))(es:List Int)(tq:Int):List Int:=bAz l es (n+1) ((List.replicate n (-1)).set tq.toNat 0) [tq]
def bBa(l:List (Int×Int))(far:List Int)(a k:Int):Bool:=inc l a k&&(far.getD (nxt l a k).toNat 0==far.getD a.toNat 0-1)
def back(l:List (Int×Int))(es far:List Int)(tq:Int):Nat→Int→List Int
 |0,_=>[]
 |f+1,a=>if a=tq then[]else match es.find? (bBa l far a)with
  |none=>[]
  |some k=>k::back l es far tq f (nxt l a k)
def bBb(n:Nat)(l:List (Int×Int))(es:List Int)(a tq:Int):List Int×Bool:=if(aYy n l es tq).getD a.toNat 0<0 then([],false)else(back l es (aYy n l es tq) tq (((aYy n l es tq).getD a.toNat 0).toNat+1) a,true)
def Valid(n:Nat)(l:List (Int×Int)):Prop:=∀x∈l,0≤x.1∧x.1<n∧0≤x.2∧x.2<n
theorem zF{n:Nat}{l:List (Int×Int)}(hv:Valid n l){k:Int}(h0:0≤k)(h1:k<l.length):0≤(bM l k).1∧(bM l k).1<n∧0≤(bM l k).2∧(bM l k).2<n:=by
 have hk:k.toNat<l.length:=by omega
 have e:bM l k=l[k.toNat]:=by simp[bM,hk]
 rw[e];exact hv _ (List.getElem_mem hk)
theorem oE{l:List (Int×Int)}{a k:Int}:inc l a k=true↔(bM l k).1=a∨(bM l k).2=a:=by simp[inc]
theorem vR{n:Nat}{l:List (Int×Int)}(hv:Valid n l){a k:Int}(h0:0≤k)(h1:k<l.length)(hi:inc l a k=true):0≤nxt l a k∧nxt l a k<n:=by
 have:=zF hv h0 h1;rw[oE]at hi;unfold nxt;omega
theorem aJj{l:List (Int×Int)}{a k:Int}(hi:inc l a k=true):inc l (nxt l a k) k=true:=by
 rw[oE]at hi⊢;unfold nxt;omega
theorem aJk(l:List (Int×Int))(a k:Int):nxt l (nxt l a k) k=a:=by unfold nxt;omega
def at_(o:List Int)(v:Int):Int:=o.getD v.toNat 0
theorem aQp{o:List Int}{t v m:Int}(h0:0≤t)(h1:t<o.length)(hv:0≤v):at_ (o.set t.toNat m) v=if v=t then m else at_ o v:=by
 unfold at_;by_cases h:v=t
 ·subst h;have:v.toNat<o.length:=by omega
  simp[this]
 ·have h2:t.toNat≠v.toNat:=by omega
  simp[h,List.getElem?_set_ne h2]
theorem gI{n:Nat}{v:Int}(h0:0≤v)(h1:v<n):at_ (List.replicate n (-1)) v=-1:=by
 unfold at_;have:v.toNat<n:=by omega
 simp[this]
end
section
open Go.RowKit
def aVt(w:World)(xs:List Int)(e:Ending)(w':World):Prop:=∃v,e= .returned v∧Row w' w.heap.size 3 1 v xs.length (xs.map I)∧Below w.heap.size w w'
structure Nums(w:World)(g n:Nat)(o:List Int)(wr:World):Prop where
 len:o.length=n
 blk:Blk wr g 3 (o.map I).toArray
 below:Below w.heap.size w wr
theorem Nums.set{w:World}{g n:Nat}{o:List Int}{wr:World}(h:Nums w g n o wr)(i:Nat)(m:Int)(hg:w.heap.size≤g):Nums w g n (o.set i m) (wr.setCell ⟨g,i,none⟩ (I m)):=by
 refine⟨by simpa using h.len,?_,h.below.setCell hg _⟩;have:=h.blk.set_ i (I m);simpa[List.map_set]using this
theorem Nums.alloc{w:World}{g n:Nat}{o:List Int}{wr:World}(h:Nums w g n o wr)(ob:Obj):Nums w g n o (wr.alloc ob):=⟨h.len,h.blk.alloc _,h.below.alloc h.below.size _⟩
theorem Nums.step{w:World}{g n:Nat}{o:List Int}{wr w2:World}(h:Nums w g n o wr)(hb:Below (g+1) wr w2)(hg:w.heap.size≤g):Nums w g n o w2:=⟨h.len,h.blk.below hb (by omega),h.below.trans (hb.mono (by omega))⟩
theorem Nums.cell{w:World}{g n:Nat}{o:List Int}{wr:World}(h:Nums w g n o wr){i:Nat}(hi:i<n):wr.cell? ⟨g,i,none⟩=some (I (o.getD i 0)):=by
 rw[h.blk.cell];have:=h.len;simp[hi,this]
structure PartsO(w:World)(g n:Nat)(l:List (Int×Int))(wo:Int)(i:Nat)(m:Int)(o:List Int)(wr:World):Prop where
 nums:Nums w g n o wr
 hi:i≤n
 hm0:0≤m
 hmi:m≤i
 rest:outer l wo n (n-i) i m o=parts n l wo
structure PartsM(w:World)(g n:Nat)(l:List (Int×Int))(wo m:Int)(res:List Int)(f:Nat)(o q:List Int)(v:Value)(wr:World):Prop where
 nums:Nums w g n o wr
 row:Row wr (g+1) 3 1 v q.length (q.map I)
 inq:∀x∈q,0≤x∧x<n
 mu:q.length+neg o<f
 fle:f≤n+1
 rest:bfs l wo m f o q=res
theorem PartsM.q24{w:World}{g n:Nat}{l:List (Int×Int)}{wo m:Int}{res:List Int}{f:Nat}{o:List Int}{a:Int}{q:List Int}{v:Value}{wr:World}(h:PartsM w g n l wo m res f o (a::q) v wr)(hn:n≤24):q.length≤24:=by
 have h1:=h.mu;have h2:=h.fle;simp only[List.length_cons]at h1;omega
structure PartsI(w:World)(g n:Nat)(l:List (Int×Int))(wo m a:Int)(res:List Int×List Int)(mu:Nat)(k:Nat)(o q:List Int)(v:Value)(wr:World):Prop where
 nums:Nums w g n o wr
 row:Row wr (g+1) 3 1 v q.length (q.map I)
 inq:∀x∈q,0≤x∧x<n
 hmu:q.length+neg o=mu
 hk:k≤l.length
 rest:gC wo m a k (l.drop k) o q=res
section
variable {w:World} {g n:Nat} {l:List (Int×Int)} {wo m a:Int} {res:List Int×List Int} {mu:Nat} {k:Nat} {o q:List Int} {v:Value} {wr:World}
theorem aBi{l:List (Int×Int)}{k:Nat}(hk:k<l.length):l.drop k=l[k]::l.drop (k+1):=by rw[List.drop_eq_getElem_cons hk]
theorem PartsI.skip(h:PartsI w g n l wo m a res mu k o q v wr)(hk:k<l.length)(ob:Obj)(hs:(k:Int)=wo∨(l[k].1≠a∧l[k].2≠a)):PartsI w g n l wo m a res mu (k+1) o q v (wr.alloc ob):=by
 refine⟨h.nums.alloc _,h.row.alloc _,h.inq,h.hmu,hk,?_⟩;have:=h.rest;rw[aBi hk,sD hs]at this;simpa using this
theorem PartsI.old(h:PartsI w g n l wo m a res mu k o q v wr)(hk:k<l.length)(ob:Obj)(hs:¬((k:Int)=wo∨(l[k].1≠a∧l[k].2≠a)))(h2:¬o.getD (l[k].1+l[k].2-a).toNat 0<0):PartsI w g n l wo m a res mu (k+1) o q v (wr.alloc ob):=by
 refine⟨h.nums.alloc _,h.row.alloc _,h.inq,h.hmu,hk,?_⟩;have:=h.rest;rw[aBi hk,vQ hs h2]at this;simpa using this
theorem PartsI.new(h:PartsI w g n l wo m a res mu k o q v wr)(hk:k<l.length)(hs:¬((k:Int)=wo∨(l[k].1≠a∧l[k].2≠a)))(h2:o.getD (l[k].1+l[k].2-a).toNat 0<0)(hm:0≤m)(hg:w.heap.size≤g) (hin:0≤l[k].1+l[k].2-a∧l[k].1+l[k].2-a<n){wx w2:World}{v2:Value}(hwx:Nums w g n (o.set (l[k].1+l[k].2-a).toNat m) wx)(hb:Below (g+1) wx w2)
  (hrow:Row w2 (g+1) 3 1 v2 (q.length+1) (q.map I++[I (l[k].1+l[k].2-a)])):
  PartsI w g n l wo m a res mu (k+1) (o.set (l[k].1+l[k].2-a).toNat m) (q++[l[k].1+l[k].2-a]) v2 w2:=by
 refine⟨?_,by simpa using hrow,?_,?_,hk,?_⟩
 ·exact hwx.step hb hg
 ·intro x hx;rcases List.mem_append.1 hx with hx|hx
  ·exact h.inq x hx
  ·simp at hx;omega
 ·have h1:=h.hmu;have h3:=uH (o:=o) (i:=(l[k].1+l[k].2-a).toNat) (m:=m) (by rw[h.nums.len];omega) hm h2;simp;omega
 ·have:=h.rest;rw[aBi hk,vP hs h2]at this;simpa using this
end
theorem parts_any(n:Nat)(l:List (Int×Int))(A:Option Addr)(c:Nat)(wo:Int)(w:World)(hr:Reads w w.heap.size 2 A l.length (eD l))(hv:Valid n l)(hn:n≤24)(hl:l.length≤64): Calls Tryz.prog 58 #[I n,.slice A l.length c,I wo] w (aVt w (parts n l wo)):=by
 go_enter Tryz.func58,Tryz.ntmps58;go_wp2_with(go_at_call 130;refine(aHj (-1) n w.heap.size 0 1 _ (by simp) (by simp) (by omega)).mono ?_;rintro e w1 ⟨rfl,hblk,hbw⟩);have HO:PartsO w (w.heap.size+1) n l wo 0 0 (List.replicate n (-1)) w1:=by
  refine⟨⟨by simp,?_,?_⟩,by omega,by omega,by omega,rfl⟩
  ·rw[List.map_replicate,List.toArray_replicate];simpa using hblk
  ·have:=hbw.mono (B':=w.heap.size) (by simp);exact((Below.refl _ w).alloc lR _).trans this
 clear hblk hbw;have HV:=aH hv;have HR:=aH hr;clear hv hr;go_loopg [8,19] (n-0) (fun r v8 v19 wr=>∃(i:Nat) (m:Int) (o:List Int),r=n-i∧v8=I m∧v19=I i∧PartsO w (w.heap.size+1) n l wo i m o wr);case atStart=>exact⟨0,0,_,rfl,rfl,rfl,HO⟩
 case round=>
  clear HO;obtain⟨i,m,o,rfl,rfl,rfl,hO⟩:=hrel;obtain⟨wa,rfl⟩:=wE wr;have hi:=hO.hi;have hm0:=hO.hm0;have hmi:=hO.hmi;by_cases hlt:i<n
  ·by_cases hneg:o.getD i 0<0
   ·have hc:=hO.nums.cell hlt;have HN:=aH hneg;have hf:wa.frozen? ⟨w.heap.size+1,i,none⟩=false:=hO.nums.blk.frozen i;obtain⟨oi,hoi⟩:∃oi,o.getD i 0=oi:=⟨_,rfl⟩;rw[hoi]at hc hneg;clear hoi;go_wp2;have HM:PartsM w (w.heap.size+1) n l wo m (bfs l wo m (n+1) (o.set i m) [(i:Int)]) (n+1) (o.set i m) [(i:Int)] (.slice (some ⟨wa.heap.size,0,none⟩) 1 1) ((wa.setCell ⟨w.heap.size+1,i,none⟩ (Value.int IntKind.i64 m)).alloc (Obj.cells #[I i] 3)):=by
     have hset:=hO.nums.set i m (by omega);have hlt2:=hset.blk.lt;refine⟨hset.alloc _,?_,?_,?_,Nat.le_refl _,rfl⟩
     ·have:=Row.one (wa.setCell ⟨w.heap.size+1,i,none⟩ (Value.int IntKind.i64 m)) (w.heap.size+2) 3 (I i) hlt2;simpa using this
     ·intro x hx;simp at hx;omega
     ·have h1:=uH (o:=o) (i:=i) (m:=m) (by rw[hO.nums.len];exact hlt) hm0 HN.out;have h2:=aQn o;rw[hO.nums.len]at h2;simp;omega
    have HO2:Hid (outer l wo n (n-(i+1)) (i+1) (m+1) (bfs l wo m (n+1) (o.set i m) [(i:Int)])=parts n l wo):=by
     have:=hO.rest;rw[show n-i=(n-(i+1))+1 by omega,outer,if_pos HN.out]at this;exact this
    obtain⟨res,hres⟩:∃res,bfs l wo m (n+1) (o.set i m) [(i:Int)]=res:=⟨_,rfl⟩;rw[hres]at HM HO2;clear hres hc hf hneg hO HN;go_loopg [10] (n+1) (fun f v wr=>∃(o q:List Int),PartsM w (w.heap.size+1) n l wo m res f o q v wr);case atStart=>exact⟨_,_,HM⟩
    case round=>
     clear HM;obtain⟨o1,q,hM⟩:=hrel;obtain⟨wb,rfl⟩:=wE wr;cases q with
     |nil=>
      obtain⟨A1,c1,rfl⟩:=hM.row.val;have HF:PartsO w (w.heap.size+1) n l wo (i+1) (m+1) o1 wb:=by
       have h1:=hM.rest;have h2:=hM.mu;obtain⟨f,rfl⟩:∃f,gk=f+1:=⟨gk-1,by omega⟩;rw[bfs]at h1;rw[←h1]at HO2;exact⟨hM.nums,by omega,by omega,by omega,HO2.out⟩
      clear hM HO2;simp only[List.length_nil];go_wp2;go_roundg (n-(i+1));case measure=>omega
      case rel=>exact⟨i+1,m+1,o1,rfl,rfl,by go_num,HF⟩
     |cons a q=>
      obtain⟨g2,off2,cap2,rfl,hg2,hg3,hc2,hrow2⟩:=hM.row.pop;have hq:=hM.inq a (by simp);have hcut:=aUq (P:=Tryz.prog) Tryz.underlying31 Tryz.sizeOf3 (some ⟨g2,off2,none⟩) (q.length+1) cap2 1 (by omega) (by omega);obtain⟨v2,hv2⟩:∃v2,sliced (some ⟨g2,off2,none⟩) 1 (q.length+1) cap2 1=v2:=⟨_,rfl⟩;simp only[Int.toNat_one]at hcut;rw[hv2]at hcut hrow2;clear hv2;have hq25:q.length≤24:=hM.q24 hn;go_wp2;obtain⟨f,rfl⟩:∃f,gk=f+1:=⟨gk-1,by have:=hM.mu;omega⟩;have HI:PartsI w (w.heap.size+1) n l wo m a (gC wo m a 0 l o1 q) (q.length+neg o1) 0 o1 q v2 wb:=⟨hM.nums,hrow2,fun x hx=>hM.inq x (by simp[hx]),rfl,by omega,by simp⟩
      have HJ:=aH (show q.length+neg o1<f∧f+1≤n+1∧bfs l wo m f (gC wo m a 0 l o1 q).1 (gC wo m a 0 l o1 q).2=res by
       have h1:=hM.mu;have h2:=hM.fle;have h3:=hM.rest;rw[bfs]at h3;simp only[List.length_cons]at h1;exact⟨by omega,by omega,h3⟩)
      obtain⟨pr,hpr⟩:∃pr,gC wo m a 0 l o1 q=pr:=⟨_,rfl⟩;obtain⟨mu,hmu⟩:∃mu,q.length+neg o1=mu:=⟨_,rfl⟩;rw[hpr]at HI HJ;rw[hmu]at HI HJ;clear hpr hmu hM hcut hrow2 hc2 hg2 hg3;have HM25:=aH (show mu≤24 by have:=HJ.out;omega);go_loopg [10,43] (l.length-0) (fun r v10 v43 wr=>∃(k:Nat) (o q:List Int),r=l.length-k∧v43=I k∧PartsI w (w.heap.size+1) n l wo m a pr mu k o q v10 wr);case atStart=>exact⟨0,_,_,rfl,rfl,HI⟩
      case round=>
       clear HI;obtain⟨k,o2,q2,rfl,rfl,hI⟩:=hrel;have hk:=hI.hk;by_cases hkl:k<l.length
       ·obtain⟨b,off,rfl,hbl,hx0,hx1⟩:=yN (HR.out.below hI.nums.below) hkl;have hval:=HV.out l[k] (List.getElem_mem hkl);have hgl:=hI.nums.blk.lt;obtain⟨y1,hy1⟩:∃y,l[k].1=y:=⟨_,rfl⟩;obtain⟨y2,hy2⟩:∃y,l[k].2=y:=⟨_,rfl⟩;rw[hy1]at hx0 hval;rw[hy2]at hx1 hval;obtain⟨hva,hvb,hvc,hvd⟩:=hval;have HY:=aH (And.intro hy1 hy2);clear hy1 hy2;by_cases hskip:(k:Int)=wo∨(y1≠a∧y2≠a)
        ·have HS:=aH hskip;rcases hskip with h1|⟨h1,h2⟩
         ·have t1:((k:Int)==wo)=true:=by simpa using h1
          clear h1;go_wp2;go_roundg (l.length-(k+1));case measure=>omega
          case rel=>exact⟨k+1,o2,q2,rfl,by go_num,hI.skip hkl _ (by rw[HY.out.1,HY.out.2];exact HS.out)⟩
         ·have t2:(y1 !=a)=true:=by simpa using h1
          have t3:(y2 !=a)=true:=by simpa using h2
          clear h1 h2;cases t1:((k:Int)==wo);all_goals
           go_wp2
           go_roundg (l.length - (k + 1))
           case measure=>omega
           case rel=>exact⟨k+1,o2,q2,rfl,by go_num,hI.skip hkl _ (by rw[HY.out.1,HY.out.2];exact HS.out)⟩
        ·have HS:=aH hskip;have t1:((k:Int)==wo)=false:=by simp;intro h;exact hskip (.inl h)
         have ht0:0≤y1+y2-a:=by omega
         have ht1:y1+y2-a<n:=by omega
         have hc:=hI.nums.cell (i:=(y1+y2-a).toNat) (by omega);have hf:wr.frozen? ⟨w.heap.size+1,(y1+y2-a).toNat,none⟩=false:=hI.nums.blk.frozen _;have h4:y1=a∨(y1≠a∧y2=a):=by omega
         have hq1:q2.length≤1000000:=by have:=hI.hmu;have:=HM25.out;omega
         clear hskip;by_cases hneg:o2.getD (y1+y2-a).toNat 0<0
         ·have HN:=aH hneg;obtain⟨ot,hot⟩:∃ot,o2.getD (y1+y2-a).toNat 0=ot:=⟨_,rfl⟩;rw[hot]at hc hneg;clear hot;rcases h4 with h4|⟨h4,h5⟩
          ·have t2:(y1 !=a)=false:=by simpa using h4
           clear h4;go_wp2_with(at_builtin;go_loud (refine qY rfl _ _ rfl (w.heap.size+2) u10 q2 (y1+y2-a) (wr.heap.size+1) (by simp) (by rfl) (by rfl) ((hI.row.setCell (by simp) _).alloc _) hq1 (by simp;omega) ?_);intro v2 w2 hrow2 hb2);go_roundg (l.length-(k+1));case measure=>omega
           case rel=>exact⟨k+1,_,_,rfl,by go_num,hI.new hkl (by rw[HY.out.1,HY.out.2];exact HS.out) (by rw[HY.out.1,HY.out.2];exact HN.out) hm0 (by omega) (by rw[HY.out.1,HY.out.2];omega) (by rw[HY.out.1,HY.out.2];exact((hI.nums.set _ m (by omega)).alloc _).alloc _) hb2 (by rw[HY.out.1,HY.out.2];exact hrow2)⟩
          ·have t2:(y1 !=a)=true:=by simpa using h4
           have t3:(y2 !=a)=false:=by simpa using h5
           clear h4 h5;go_wp2_with(at_builtin;go_loud (refine qY rfl _ _ rfl (w.heap.size+2) u10 q2 (y1+y2-a) (wr.heap.size+1) (by simp) (by rfl) (by rfl) ((hI.row.setCell (by simp) _).alloc _) hq1 (by simp;omega) ?_);intro v2 w2 hrow2 hb2);go_roundg (l.length-(k+1));case measure=>omega
           case rel=>exact⟨k+1,_,_,rfl,by go_num,hI.new hkl (by rw[HY.out.1,HY.out.2];exact HS.out) (by rw[HY.out.1,HY.out.2];exact HN.out) hm0 (by omega) (by rw[HY.out.1,HY.out.2];omega) (by rw[HY.out.1,HY.out.2];exact((hI.nums.set _ m (by omega)).alloc _).alloc _) hb2 (by rw[HY.out.1,HY.out.2];exact hrow2)⟩
         ·have HN:=aH hneg;obtain⟨ot,hot⟩:∃ot,o2.getD (y1+y2-a).toNat 0=ot:=⟨_,rfl⟩;rw[hot]at hc hneg;clear hot;rcases h4 with h4|⟨h4,h5⟩
          ·have t2:(y1 !=a)=false:=by simpa using h4
           clear h4;go_wp2;go_roundg (l.length-(k+1));case measure=>omega
           case rel=>exact⟨k+1,o2,q2,rfl,by go_num,hI.old hkl _ (by rw[HY.out.1,HY.out.2];exact HS.out) (by rw[HY.out.1,HY.out.2];have:=HN.out;omega)⟩
          ·have t2:(y1 !=a)=true:=by simpa using h4
           have t3:(y2 !=a)=false:=by simpa using h5
           clear h4 h5;go_wp2;go_roundg (l.length-(k+1));case measure=>omega
           case rel=>exact⟨k+1,o2,q2,rfl,by go_num,hI.old hkl _ (by rw[HY.out.1,HY.out.2];exact HS.out) (by rw[HY.out.1,HY.out.2];have:=HN.out;omega)⟩
       ·obtain rfl:k=l.length:=by omega
        have HF:PartsM w (w.heap.size+1) n l wo m res f o2 q2 u10 wr:=by
         have h1:=hI.rest;rw[List.drop_of_length_le lR,gC]at h1;have h2:=HJ.out;rw[←h1]at h2;exact⟨hI.nums,hI.row,hI.inq,by have:=hI.hmu;omega,by omega,h2.2.2⟩
        clear hI HJ;go_wp2;go_roundg f;case measure=>omega
        case rel=>exact⟨o2,q2,HF⟩
   ·have hc:=hO.nums.cell hlt;have HF:PartsO w (w.heap.size+1) n l wo (i+1) m o wa:=by
     have:=hO.rest;rw[show n-i=(n-(i+1))+1 by omega,outer,if_neg hneg]at this;exact⟨hO.nums,by omega,by omega,by omega,this⟩
    obtain⟨oi,hoi⟩:∃oi,o.getD i 0=oi:=⟨_,rfl⟩;rw[hoi]at hc hneg;clear hoi hO;go_wp2;go_roundg (n-(i+1));case measure=>omega
    case rel=>exact⟨i+1,m,o,rfl,rfl,by go_num,HF⟩
  ·obtain rfl:i=n:=by omega
   have HF:Row wa w.heap.size 3 1 (.slice (some ⟨w.heap.size+1,0,none⟩) i i) (parts i l wo).length ((parts i l wo).map I)∧Below w.heap.size w wa:=by
    have h1:=hO.rest;rw[Nat.sub_self,outer]at h1;rw[←h1,hO.nums.len];refine⟨⟨by simp[hO.nums.len],.inr ⟨w.heap.size+1,0,i,_,rfl,by omega,hO.nums.blk,Nat.le_refl _,by unfold maxLen;omega,by simp[hO.nums.len],?_⟩⟩,hO.nums.below⟩;simp;rw[List.take_of_length_le (by simp[hO.nums.len])]
   clear hO;go_wp2;go_ret;exact⟨_,rfl,HF⟩
theorem aMc(n:Int)(l:List (Int×Int))(A:Option Addr)(c:Nat)(w:World)(hr:Reads w w.heap.size 2 A l.length (eD l))(hl:l.length≤9223372036854775807)(hn1:-9223372036854775808≤n)(hn2:n≤9223372036854775807): Calls Tryz.prog 57 #[I n,.slice A l.length c] w fun e w'=>e= .returned (I (kH n l))∧Below w.heap.size w w':=by
 by_cases h1:n<0
 ·go_enter Tryz.func57,Tryz.ntmps57;go_wp2;go_ret;exact⟨aE (show(2:Int)=kH n l by rw[kH,if_pos (by omega)]),Below.refl _ _⟩
 ·by_cases h2:24<n
  ·go_enter Tryz.func57,Tryz.ntmps57;go_wp2;go_ret;exact⟨aE (show(2:Int)=kH n l by rw[kH,if_pos (by omega)]),Below.refl _ _⟩
  ·by_cases h3:64<l.length
   ·go_enter Tryz.func57,Tryz.ntmps57;go_wp2;go_ret;exact⟨aE (show(2:Int)=kH n l by rw[kH,if_pos (by omega)]),Below.refl _ _⟩
   ·go_enter Tryz.func57,Tryz.ntmps57;go_wp2;go_loopw [20] (fun i wr=>∃k:Nat,k≤l.length∧i=I k∧(l.take k).all (okEdge n)=true∧Below w.heap.size w wr) (fun i _=>l.length-(intOf i).toNat);case atStart=>exact⟨0,Nat.zero_le _,rfl,rfl,Below.refl _ _⟩
    case round=>
     obtain⟨k,hk,rfl,hal,hb⟩:=hrel;by_cases hlt:k<l.length
     ·obtain⟨b,off,rfl,hbl,hc0,hc1⟩:=yN (hr.below hb) hlt;have HA:=aH hal;clear hal hr;by_cases hok:okEdge n l[k]=true
      ·have hok':=of_decide_eq_true hok;obtain⟨o1,o2,o3,o4⟩:=hok';have HO:=aH hok;clear hok;go_wp2;go_roundw;case rel=>exact⟨k+1,by omega,by go_num,by rw[List.take_succ_eq_append_getElem hlt,List.all_append,HA.out];simp[HO.out],hb.alloc hb.size _⟩
       case measure=>simp[intOf];omega
      ·have hch:kH n l=4:=by
        rw[kH,if_neg (by omega),if_neg];intro hh;exact hok (List.all_eq_true.1 hh _ (List.getElem_mem hlt))
       have hok':=of_decide_eq_false (Bool.eq_false_iff.2 hok);have HC:=aH hch;have HO:=aH hok';clear hok hch hok';go_wp2;all_goals first
        |(go_ret;exact⟨aE HC.out.symm,hb.alloc hb.size _⟩)
        |(exfalso;apply HO.out;omega)
     ·have hch:kH n l=0:=by
       rw[kH,if_neg (by omega),if_pos];rw[List.take_of_length_le (by omega)]at hal;exact hal
      have HC:=aH hch;clear hch hal;go_wp2;go_ret;exact⟨aE HC.out.symm,hb⟩
def aQq(w:World)(r:List Int×Int)(e:Ending)(w':World):Prop:=∃v,e= .returned (.tuple #[v,I r.2])∧Row w' w.heap.size 3 1 v r.1.length (r.1.map I)∧Below w.heap.size w w'
theorem aVu{n:Int}{l:List (Int×Int)}(h:kH n l=0):0≤n∧n≤24∧l.length≤64∧Valid n.toNat l:=by
 unfold kH at h;split at h
 ·cases h
 ·split at h
  ·rename_i h1 h2;refine⟨by omega,by omega,by omega,fun x hx=>?_⟩;have:=of_decide_eq_true (List.all_eq_true.1 h2 x hx);omega
  ·cases h
structure GArgs(w:World)(n:Int)(l:List (Int×Int))(A:Option Addr)(c:Nat):Prop where
 reads:Reads w w.heap.size 2 A l.length (eD l)
 len:l.length≤9223372036854775807
 lo:-9223372036854775808≤n
 hi:n≤9223372036854775807
 cap:l.length≤c
theorem GArgs.below{w w':World}{n:Int}{l:List (Int×Int)}{A:Option Addr}{c:Nat}(h:GArgs w n l A c)(hb:Below w.heap.size w w'):GArgs w' n l A c:=⟨(h.reads.below hb).more hb.size,h.len,h.lo,h.hi,h.cap⟩
theorem vS{w:World}{n:Int}{l:List (Int×Int)}{A:Option Addr}{c:Nat}(h:GArgs w n l A c): Calls Tryz.prog 57 #[I n,.slice A l.length c] w fun e w'=>e= .returned (I (kH n l))∧Below w.heap.size w w':=aMc n l A c w h.reads h.len h.lo h.hi
theorem nD(n:Int)(l:List (Int×Int))(A:Option Addr)(c:Nat)(w:World)(hG:GArgs w n l A c): Calls Tryz.prog 129 #[I n,.slice A l.length c] w (aQq w (iJ n l [] (parts n.toNat l (-1)))):=by
 by_cases h0:kH n l=0
 ·have H0:=aH h0;obtain⟨k1,k2,k3,k4⟩:=aVu h0;have t0:(kH n l !=0)=false:=by simp[h0]
  clear h0;obtain⟨k,rfl⟩:=Int.eq_ofNat_of_zero_le k1;go_enter Tryz.func129,Tryz.ntmps129;go_wp2_with(first|(go_at_call 57;refine(vS hG).mono ?_;rintro e w1 ⟨rfl,hb1⟩)|(go_at_call 58;refine(parts_any k l _ _ _ _ (hG.below hb1).reads k4 (by omega) k3).mono ?_;rintro e w2 ⟨v,rfl,hrow,hb2⟩));go_ret2;rw[iJ,if_pos H0.out];exact⟨v,rfl,hrow.less hb1.size,hb1.trans (hb2.mono hb1.size)⟩
 ·have H0:=aH h0;have t0:(kH n l !=0)=true:=by simp[h0]
  clear h0;go_enter Tryz.func129,Tryz.ntmps129;go_wp2_with(first|(go_at_call 57;refine(vS hG).mono ?_;rintro e w1 ⟨rfl,hb1⟩));go_ret2;rw[iJ,if_neg H0.out];exact⟨_,rfl,Row.nil _ _ _ _,hb1⟩
end
end Go.Proofs.YtenbglfkdldheaaGreatDoor
