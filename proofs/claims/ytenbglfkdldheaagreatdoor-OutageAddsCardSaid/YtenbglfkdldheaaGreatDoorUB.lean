/- Knuth's division by words: plain facts. No program here. large.shortDiv, large.shifted. large.shifted. math/bits.Len32, LeadingZeros32; what the shift by the leading zeros makes of a divisor. What large.divWords keeps in memory and returns. -/
import Derived.Test.YtenbglfkdldheaaGreatDoorUA
import Derived.Laws.BitsAllLaws
import Derived.Lib.Strings
import Derived.Lib.Slices
import Derived.Lib.Small
import Derived.Lib.Walk
import Derived.Lib.BitFns
import Derived.Deep.DeepCutAuto
import Derived.Deep.CutBlock
import Derived.Deep.RegionWith
import Derived.BigRegion
set_option maxRecDepth 100000
set_option maxHeartbeats 4000000
namespace Go.Proofs.YtenbglfkdldheaaGreatDoor
section
theorem est_low{q V2 vl T3 xl D:Int}(hD:0<D)(hq:0≤q)(hvl:0≤vl)(hxl:xl<D)(h:q*(V2*D+vl)≤T3*D+xl):q*V2≤T3:=by
 have h1:0≤q*vl:=Int.mul_nonneg hq hvl;have h2:q*V2*D<(T3+1)*D:=by grind
 have:=Int.lt_of_mul_lt_mul_right h2 (by omega);omega
theorem aOu{g V2 vl T3 xl D:Int}(hD:0<D)(hg:0≤g)(hg1:g<4294967296)(hvl:0≤vl)(hvl1:vl<D)(hxl:0≤xl)(h:g*V2≤T3)(hV:4294967296≤V2):(g-1)*(V2*D+vl)≤T3*D+xl:=by
 have h1:g*V2*D≤T3*D:=Int.mul_le_mul_of_nonneg_right h (by omega);have h2:g*vl≤4294967296*D:=Int.mul_le_mul (by omega) (by omega) hvl (by omega);have h3:4294967296*D≤V2*D:=Int.mul_le_mul_of_nonneg_right hV (by omega);grind
theorem aCz:∀{l:List Int},(∀k,l.getD k 0=0)→val l=0
 |[],_=>rfl
 |x::l,h=>by
  have h0:=h 0;have h1:=aCz (l:=l) fun k=>by have:=h (k+1);simpa using this
  simp only[List.getD_cons_zero]at h0;rw[val,h0,h1];rfl
theorem yT{l:List Int}{K:Nat}(h:∀k,K≤k→l.getD k 0=0):val l=val (l.take K):=by
 have h1:val (l.drop K)=0:=aCz fun k=>by
  have:=h (K+k) (by omega);simpa[gD]using this
 have h2:=fG l K;rw[h1]at h2;omega
theorem qD{l:List Int}(ol:Ok l){K:Nat}(h:∀k,K≤k→l.getD k 0=0):val l<P32 K:=by
 have h1:=dN (ol.take K);rw[←yT h]at h1;have h2:=eO (i:=(l.take K).length) (j:=K) (by rw[List.length_take];omega);omega
theorem pH{l:List Int}(ol:Ok l){K:Nat}(h:val l<P32 K){k:Nat}(hk:K≤k):l.getD k 0=0:=by
 by_cases hl:k<l.length
 ·have h1:=fG l k;have h2:=bD (ol.take k);have e1:l.drop k=l.getD k 0::l.drop (k+1):=by rw[List.drop_eq_getElem_cons hl,gD,gE hl];rfl
  have h3:=bD (ol.drop (k+1));have h4:=ol.at_ k;rw[e1,val]at h1;have h5:=eO hk;have h6:=cY k;by_cases h7:l.getD k 0=0
  ·exact h7
  ·have h8:P32 k*1≤P32 k*(l.getD k 0+4294967296*val (l.drop (k+1))):=Int.mul_le_mul_of_nonneg_left (by omega) (by omega);omega
 ·rw[gD,List.getElem?_eq_none (by omega)];rfl
structure Tops(X Vj uh um ul vt vs:Int):Prop where
 ex:∃D vl xl:Int,0<D∧Vj=(vt*4294967296+vs)*D+vl∧0≤vl∧vl<D∧X=((uh*4294967296+um)*4294967296+ul)*D+xl∧0≤xl∧xl<D
 huh:uh≤vt
 hum:0≤um∧um<4294967296
 hul:0≤ul∧ul<4294967296
 hvt:2147483648≤vt∧vt<4294967296
 hvs:0≤vs∧vs<4294967296
theorem bBs{u v:List Int}(ou:Ok u)(ov:Ok v){j n:Nat}(hn:2≤n)(hv:v.length=n)(hlt:val u<val v*P32 (j+1))(ht:2147483648≤v.getD (n-1) 0): Tops (val u) (val v*P32 j) (u.getD (j+n) 0) (u.getD (j+n-1) 0) (u.getD (j+n-2) 0) (v.getD (n-1) 0) (v.getD (n-2) 0):=by
 obtain⟨k,rfl⟩:∃k,n=k+2:=⟨n-2,by omega⟩;have i1:k+2-1=k+1:=by omega
 have i2:k+2-2=k:=by omega
 have i3:j+(k+2)-1=j+k+1:=by omega
 have i4:j+(k+2)-2=j+k:=by omega
 have i5:j+(k+2)=j+k+2:=by omega
 rw[i1]at ht;rw[i1,i2,i3,i4,i5];have v1:=aR v (k+1);have v2:=aR v k;rw[List.take_of_length_le (by omega)]at v1;have v3:=bD (ov.take k);have v4:=dN (ov.take k);rw[List.length_take,Nat.min_eq_left (by omega)]at v4;have ht1:=ov.at_ (k+1);have hs1:=ov.at_ k;have pj:=cY j;have pk:=cY k;have hvb:=dN (ov.take (k+1));rw[List.length_take,Nat.min_eq_left (by omega)]at hvb;have e0:P32 (j+1)=4294967296*P32 j:=bS j;have e1:P32 (k+1)=4294967296*P32 k:=bS k;have e2:P32 (j+k)=P32 j*P32 k:=iQ j k;have e3:P32 (j+k+1)=4294967296*(P32 j*P32 k):=by rw[bS,e2]
 have e4:P32 (j+k+2)=4294967296*(4294967296*(P32 j*P32 k)):=by rw[show j+k+2=(j+k+1)+1 from rfl,bS,e3]
 have e5:P32 (j+k+3)=4294967296*(4294967296*(4294967296*(P32 j*P32 k))):=by rw[show j+k+3=(j+k+2)+1 from rfl,bS,e4]
 have pjk:0<P32 j*P32 k:=Int.mul_pos pj pk;have hvl:val v<P32 (k+2):=by have:=dN ov;rw[hv]at this;exact this
 have e6:P32 (k+2)=4294967296*(4294967296*P32 k):=by rw[show k+2=(k+1)+1 from rfl,bS,e1]
 have hub:val u<P32 (j+k+3):=by
  have h1:val v*P32 (j+1)≤P32 (k+2)*P32 (j+1):=Int.mul_le_mul_of_nonneg_right (by omega) (by omega);have h2:P32 (k+2)*P32 (j+1)=P32 (j+k+3):=by rw[←iQ];congr 1;omega
  omega
 have hz:=yT (l:=u) (K:=j+k+3) fun m hm=>pH ou hub hm;have u1:=aR u (j+k+2);have u2:=aR u (j+k+1);have u3:=aR u (j+k);have x0:=bD (ou.take (j+k));have x1:=dN (ou.take (j+k));have x2:=eO (i:=(u.take (j+k)).length) (j:=j+k) (by rw[List.length_take];omega);have uh0:=ou.at_ (j+k+2);have um0:=ou.at_ (j+k+1);have ul0:=ou.at_ (j+k);refine⟨⟨P32 j*P32 k,val (v.take k)*P32 j,val (u.take (j+k)),pjk,?_,Int.mul_nonneg v3 (by omega),?_,?_,x0,by omega⟩,?_,um0,ul0,⟨ht,ht1.2⟩,hs1⟩
 ·rw[v1,v2,e1];grind
 ·have:=Int.mul_lt_mul_of_pos_right v4 pj;rw[Int.mul_comm (P32 k)]at this;exact this
 ·rw[hz,u1,u2,u3,e2,e3,e4];grind
 ·generalize u.getD (j+k+2) 0=uh at*;generalize v.getD (k+1) 0=vt at*;have h1:uh*P32 (j+k+2)≤val u:=by
   have h3:=bD (ou.take (j+k+2));rw[hz,u1,Int.mul_comm];omega
  have h2:val v*P32 (j+1)<(vt+1)*P32 (j+k+2):=by
   have h4:val v<(vt+1)*P32 (k+1):=by rw[v1,Int.add_mul,Int.mul_comm vt];omega
   have h5:=Int.mul_lt_mul_of_pos_right h4 (cY (j+1));rw[Int.mul_assoc,←iQ,show k+1+(j+1)=j+k+2 by omega]at h5;exact h5
  have h6:uh*P32 (j+k+2)<(vt+1)*P32 (j+k+2):=by omega
  have:=Int.lt_of_mul_lt_mul_right h6 (by have:=cY (j+k+2);omega);omega
section
variable {X Vj uh um ul vt vs g rest q:Int}
theorem Tops.down(h:Tops X Vj uh um ul vt vs)(hq:0≤q)(hqV:q*Vj≤X)(hqB:q<4294967296)(hg:g*vt+rest=uh*4294967296+um)(hle:q≤g)(ht:4294967296≤g∨rest*4294967296+ul<g*vs):q≤g-1:=by
 rcases ht with ht|ht
 ·omega
 ·obtain⟨D,vl,xl,hD,eV,v0,v1,eX,x0,x1⟩:=h.ex;rw[eV,eX]at hqV;have h1:=est_low hD hq v0 x1 hqV;have h2:q≠g:=by
   rintro rfl;grind
  omega
theorem Tops.done(h:Tops X Vj uh um ul vt vs)(hg:g*vt+rest=uh*4294967296+um)(h0:0≤g)(hB:g<4294967296)(ht:g*vs≤rest*4294967296+ul):(g-1)*Vj≤X:=by
 obtain⟨D,vl,xl,hD,eV,v0,v1,eX,x0,x1⟩:=h.ex;have hvt:=h.hvt;have hvs:=h.hvs;rw[eV,eX];exact aOu hD h0 hB v0 v1 x0 (by grind) (by omega)
theorem Tops.broke(h:Tops X Vj uh um ul vt vs)(hg:g*vt+rest=uh*4294967296+um)(h0:0≤g)(hr:4294967296≤rest):g<4294967296∧g*vs≤rest*4294967296+ul:=by
 have hvt:=h.hvt;have hvs:=h.hvs;have hum:=h.hum;have huh:=h.huh;have hul:=h.hul;have h1:g<4294967296:=by
  have h2:g*vt<4294967296*vt:=by omega
  exact Int.lt_of_mul_lt_mul_right h2 (by omega)
 refine⟨h1,?_⟩;have h3:=(iU ⟨h0,h1⟩ hvs).2;omega
end
structure Dig(X Vj q:Int):Prop where
 q0:0≤q
 qB:q<4294967296
 lo:q*Vj≤X
 hi:X<(q+1)*Vj
theorem dig{X V:Int}{j:Nat}(hX:0≤X)(hV:0<V)(h:X<V*P32 (j+1)):Dig X (V*P32 j) (X/(V*P32 j)):=by
 have hp:0<V*P32 j:=Int.mul_pos hV (cY j);have e:V*P32 (j+1)=V*P32 j*4294967296:=by rw[bS];grind
 rw[e]at h;have h1:=Int.emod_add_mul_ediv X (V*P32 j);have h2:=Int.emod_nonneg X (show V*P32 j≠0 by omega);have h3:=Int.emod_lt_of_pos X hp;have h4:X/(V*P32 j)*(V*P32 j)=V*P32 j*(X/(V*P32 j)):=Int.mul_comm _ _;refine⟨Int.ediv_nonneg hX (by omega),Int.ediv_lt_of_lt_mul hp (by rw[Int.mul_comm];exact h),by omega,?_⟩;rw[Int.add_mul];omega
theorem Dig.is{X Vj q g:Int}(h:Dig X Vj q)(hV:0<Vj)(hle:q≤g)(hX:g*Vj≤X):g=q:=by
 have:=h.hi;have h1:g*Vj<(q+1)*Vj:=by omega
 have:=Int.lt_of_mul_lt_mul_right h1 (by omega);omega
theorem Dig.is1{X Vj q g:Int}(h:Dig X Vj q)(hV:0<Vj)(_hle:q≤g)(hd:(g-1)*Vj≤X)(hX:X<g*Vj):g-1=q:=by
 have h1:=h.lo;have h2:q*Vj<g*Vj:=by omega
 have h3:=Int.lt_of_mul_lt_mul_right h2 (by omega);exact h.is hV (by omega) hd
structure KM(u v:List Int)(j:Nat)(g:Int)(i:Nat)(bo c:Int)(o:List Int):Prop where
 len:o.length=u.length
 hb:-1≤bo∧bo≤0
 hc:0≤c∧c<4294967296
 sum:val o+P32 (i+j)*(bo-c)=val u-P32 j*(g*val (v.take i))
 same:∀k,i+j≤k→o.getD k 0=u.getD k 0
theorem KM.start(u v:List Int)(j:Nat)(g:Int):KM u v j g 0 0 0 u:=⟨rfl,by omega,by omega,by simp[val],fun _ _=>rfl⟩
theorem KM.step{u v:List Int}{j:Nat}{g:Int}{i:Nat}{bo c:Int}{o:List Int}(h:KM u v j g i bo c o)(ov:Ok v)(oo:Ok o)(hg:0≤g∧g<4294967296)(hj:i+j<u.length){c' b':Int}(hc':c'=c+g*v.getD i 0)(hb':b'=bo+(o.getD (i+j) 0-c'%4294967296)): KM u v j g (i+1) (b'/4294967296) (c'/4294967296) (o.set (i+j) (b'%4294967296)):=by
 have h1:=ov.at_ i;have h2:=oo.at_ (i+j);have h3:=h.hb;have h4:=h.hc;have h5:=iU hg h1;have hl:=h.len;refine⟨by simpa using hl,by omega,by omega,?_,?_⟩
 ·rw[nZ o (i+j) _ (by omega),aR,show i+1+j=(i+j)+1 by omega,bS];have h6:=h.sum;have m1:=eW (P32 (i+j)) b';have m2:=eW (P32 (i+j)) c';have e1:P32 (i+j)=P32 j*P32 i:=by rw[Nat.add_comm,iQ]
  have e2:P32 (i+j)*b'=P32 (i+j)*bo+P32 (i+j)*o.getD (i+j) 0-P32 (i+j)*(c'%4294967296):=by rw[hb'];grind
  have e3:P32 (i+j)*c'=P32 (i+j)*c+P32 j*(g*(P32 i*v.getD i 0)):=by rw[hc',e1];grind
  have e4:P32 j*(g*(val (v.take i)+P32 i*v.getD i 0))=P32 j*(g*val (v.take i))+P32 j*(g*(P32 i*v.getD i 0)):=by grind
  rw[e4];rw[Int.mul_sub]at h6⊢;rw[Int.mul_sub];omega
 ·intro k hk;rw[bU _ _ (by omega)];exact h.same k (by omega)
structure KL(u v:List Int)(j n:Nat)(g:Int)(b:Int)(o:List Int):Prop where
 len:o.length=u.length
 hb:-4294967296≤b∧b<4294967296
 sum:val o+P32 (n+j+1)*(b/4294967296)=val u-g*(val v*P32 j)
 same:∀k,n+j<k→o.getD k 0=u.getD k 0
theorem KM.last{u v:List Int}{j n:Nat}{g:Int}{bo c:Int}{o:List Int}(h:KM u v j g n bo c o)(hv:v.length=n)(oo:Ok o)(hj:n+j<u.length){b:Int}(hb:b=bo+(o.getD (n+j) 0-c)): KL u v j n g b (o.set (n+j) (b%4294967296)):=by
 have h2:=oo.at_ (n+j);have h3:=h.hb;have h4:=h.hc;have hl:=h.len;refine⟨by simpa using hl,by omega,?_,?_⟩
 ·rw[nZ o (n+j) _ (by omega),bS];have h6:=h.sum;rw[List.take_of_length_le (by omega)]at h6;have m1:=eW (P32 (n+j)) b;have e2:P32 (n+j)*b=P32 (n+j)*bo+P32 (n+j)*o.getD (n+j) 0-P32 (n+j)*c:=by rw[hb];grind
  have e3:P32 j*(g*val v)=g*(val v*P32 j):=by grind
  rw[e3,Int.mul_sub]at h6;rw[Int.mul_sub];omega
 ·intro k hk;rw[bU _ _ (by omega)];exact h.same k (by omega)
section
variable {u v:List Int} {j n:Nat} {g b q:Int} {o:List Int}
theorem KL.right(h:KL u v j n g b o)(oo:Ok o)(hV:0<val v)(hd:Dig (val u) (val v*P32 j) q)(hle:q≤g)(hb:0≤b):g=q∧val o=val u-q*(val v*P32 j):=by
 have h1:=h.hb;have h2:=h.sum;have e:b/4294967296=0:=by omega
 rw[e]at h2;have h3:=bD oo;have h4:=hd.is (Int.mul_pos hV (cY j)) hle (by omega);subst h4;exact⟨rfl,by omega⟩
theorem KL.wrong(h:KL u v j n g b o)(ou:∀k,n+j<k→u.getD k 0=0)(oo:Ok o)(hV:0<val v)(hd:Dig (val u) (val v*P32 j) q)(hle:q≤g)(h1:(g-1)*(val v*P32 j)≤val u)(hb:b<0):g-1=q∧val o+val v*P32 j-P32 (n+j+1)=val u-q*(val v*P32 j):=by
 have h0:=h.hb;have h2:=h.sum;have e:b/4294967296=-1:=by omega
 rw[e]at h2;have h3:=qD oo (K:=n+j+1) fun k hk=>by rw[h.same k (by omega)];exact ou k (by omega)
 have h4:=hd.is1 (Int.mul_pos hV (cY j)) hle h1 (by omega);refine⟨h4,?_⟩;rw[←h4,Int.sub_mul];omega
end
structure KA(o1 v:List Int)(j:Nat)(i:Nat)(c:Int)(o:List Int):Prop where
 len:o.length=o1.length
 hc:0≤c∧c≤1
 sum:val o+P32 (i+j)*c=val o1+P32 j*val (v.take i)
 same:∀k,i+j≤k→o.getD k 0=o1.getD k 0
theorem KA.start(o1 v:List Int)(j:Nat):KA o1 v j 0 0 o1:=⟨rfl,by omega,by simp[val],fun _ _=>rfl⟩
theorem KA.step{o1 v:List Int}{j i:Nat}{c:Int}{o:List Int}(h:KA o1 v j i c o)(ov:Ok v)(oo:Ok o)(hj:i+j<o1.length){c':Int}(hc':c'=c+(o.getD (i+j) 0+v.getD i 0)): KA o1 v j (i+1) (c'/4294967296) (o.set (i+j) (c'%4294967296)):=by
 have h1:=ov.at_ i;have h2:=oo.at_ (i+j);have h4:=h.hc;have hl:=h.len;refine⟨by simpa using hl,by omega,?_,?_⟩
 ·rw[nZ o (i+j) _ (by omega),aR,show i+1+j=(i+j)+1 by omega,bS];have h6:=h.sum;have m1:=eW (P32 (i+j)) c';have e1:P32 (i+j)=P32 j*P32 i:=by rw[Nat.add_comm,iQ]
  have e2:P32 (i+j)*c'=P32 (i+j)*c+P32 (i+j)*o.getD (i+j) 0+P32 j*(P32 i*v.getD i 0):=by rw[hc',e1];grind
  rw[Int.mul_add,Int.mul_sub];omega
 ·intro k hk;rw[bU _ _ (by omega)];exact h.same k (by omega)
theorem KA.last{o1 v:List Int}{j n:Nat}{c R:Int}{o:List Int}(h:KA o1 v j n c o)(hv:v.length=n)(oo:Ok o)(hj:n+j<o1.length)(hz:∀k,n+j<k→o1.getD k 0=0)(hR:val o1+val v*P32 j-P32 (n+j+1)=R)(h0:0≤R): val (o.set (n+j) ((o.getD (n+j) 0+c)%4294967296))=R:=by
 have h2:=oo.at_ (n+j);have h4:=h.hc;have hl:=h.len;have h6:=h.sum;rw[List.take_of_length_le (by omega)]at h6;have ho:Ok (o.set (n+j) ((o.getD (n+j) 0+c)%4294967296)):=oo.set _ (by omega);have hlt:=qD ho (K:=n+j+1) fun k hk=>by rw[bU _ _ (by omega),h.same k (by omega)];exact hz k (by omega)
 have hv2:=nZ o (n+j) ((o.getD (n+j) 0+c)%4294967296) (by omega);rw[Int.mul_sub]at hv2;have m1:=eW (P32 (n+j)) (o.getD (n+j) 0+c);rw[Int.mul_add (P32 (n+j)) (o.getD (n+j) 0) c,←bS]at m1;have e3:P32 j*val v=val v*P32 j:=Int.mul_comm _ _;have hq:(o.getD (n+j) 0+c)/4294967296=0∨(o.getD (n+j) 0+c)/4294967296=1:=by omega
 rcases hq with hq|hq
 ·rw[hq]at m1;omega
 ·rw[hq]at m1;omega
structure KO(S V:Int)(r:Nat)(u q:List Int):Prop where
 eq:val u+V*(P32 r*val (q.drop r))=S
 lt:val u<V*P32 r
theorem KO.next{S V:Int}{j:Nat}{u u2 q:List Int}(h:KO S V (j+1) u q)(hj:j<q.length){d:Int}(hd:Dig (val u) (V*P32 j) d)(e:val u2=val u-d*(V*P32 j)):KO S V j u2 (q.set j d):=by
 have e2:(q.set j d).drop j=d::q.drop (j+1):=by
  rw[List.drop_eq_getElem_cons (by simp;omega)];simp[List.drop_set_of_lt]
 refine⟨?_,?_⟩
 ·rw[e2,val,e,←h.eq,bS];grind
 ·have:=hd.hi;rw[Int.add_mul]at this;omega
theorem KO.start{a b:List Int}(oa:Ok a)(_hb:0<val b){s la n:Nat}(hla:a.length=la)(hlow:P32 (n-1)≤val b)(hn:1≤n)(hle:n≤la){u:List Int}(hu:val u=val a*2^s): KO (val a*2^s) (val b*2^s) (la-n+1) u (List.replicate (la-n+1) 0):=by
 have h2:(0:Int)<2^s:=by have:=Nat.two_pow_pos s;exact_mod_cast this
 refine⟨?_,?_⟩
 ·rw[List.drop_of_length_le (by simp),hu];simp[val]
 ·rw[hu];have h1:=dN oa;rw[hla]at h1;have h3:P32 la=P32 (n-1)*P32 (la-n+1):=by rw[←iQ];congr 1;omega
  have h4:P32 (n-1)*P32 (la-n+1)≤val b*P32 (la-n+1):=Int.mul_le_mul_of_nonneg_right hlow (by have:=cY (la-n+1);omega);have h5:val a<val b*P32 (la-n+1):=by omega
  have h6:=Int.mul_lt_mul_of_pos_right h5 h2;have e:val b*2^s*P32 (la-n+1)=val b*P32 (la-n+1)*2^s:=by grind
  rw[e];exact h6
theorem KO.fin{a b:Int}{s:Nat}{u q:List Int}(h:KO (a*2^s) (b*2^s) 0 u q)(ou:Ok u)(hb:0<b):val q=a/b∧val u/2^s=a%b:=by
 have h2:(0:Int)<2^s:=by have:=Nat.two_pow_pos s;exact_mod_cast this
 have h1:=h.eq;have h3:=h.lt;rw[mS,Int.mul_one]at h3;rw[mS,Int.one_mul,List.drop_zero]at h1;have h0:=bD ou;generalize val u=U at*;generalize val q=Q at*;generalize(2:Int)^s=t at*;have e:U=(a-b*Q)*t:=by grind
 have r0:0≤a-b*Q:=by
  rcases(show a-b*Q<0∨0≤a-b*Q by omega)with hl|hl
  ·have:=Int.mul_neg_of_neg_of_pos hl h2;omega
  ·exact hl
 have r1:a-b*Q<b:=by
  rw[e]at h3;exact Int.lt_of_mul_lt_mul_right h3 (by omega)
 have q1:a/b=Q:=by
  rw[show a=(a-b*Q)+b*Q by omega,Int.add_mul_ediv_left _ _ (by omega),Int.ediv_eq_zero_of_lt r0 r1];omega
 refine⟨q1.symm,?_⟩;rw[e,Int.mul_ediv_cancel _ (by omega)];have:=Int.emod_add_mul_ediv a b;rw[q1]at this;omega
theorem aOv{u:List Int}(ou:Ok u){s:Nat}(hs:s≤31)(i:Nat):(val u/2^s)%P32 (i+1)=(val u/2^s)%P32 i+P32 i*(((u.getD (i+1) 0*4294967296+u.getD i 0)/2^s)%4294967296):=by
 have h2:(0:Int)<2^s:=by have:=Nat.two_pow_pos s;exact_mod_cast this
 have hp:=cY i;have e1:(val u/2^s)%P32 (i+1)=(val u/2^s)%P32 i+P32 i*(val u/2^s/P32 i%4294967296):=by
  rw[bS,Int.mul_comm 4294967296];generalize val u/2^s=x;generalize P32 i=p at*;have a1:=Int.emod_add_mul_ediv x (p*4294967296);have a2:=Int.emod_add_mul_ediv x p;have a3:=Int.emod_add_mul_ediv (x/p) 4294967296;have a4:x/p/4294967296=x/(p*4294967296):=Int.ediv_ediv_of_nonneg (by omega);rw[a4]at a3;have a5:p*(x/p)=p*(x/p%4294967296)+p*4294967296*(x/(p*4294967296)):=by
   have:p*(x/p)=p*(x/p%4294967296+4294967296*(x/(p*4294967296))):=by rw[a3]
   rw[this];grind
  omega
 rw[e1];congr 2;have e2:val u/2^s/P32 i=val u/P32 i/2^s:=by
  rw[Int.ediv_ediv_of_nonneg (by omega),Int.ediv_ediv_of_nonneg (by omega),Int.mul_comm]
 have e3:val u/P32 i=val (u.drop i):=by
  have h1:=fG u i;have h3:=bD (ou.take i);have h4:=dN (ou.take i);have h5:=eO (i:=(u.take i).length) (j:=i) (by rw[List.length_take];omega);rw[h1,Int.add_mul_ediv_left _ _ (by omega),Int.ediv_eq_zero_of_lt h3 (by omega)];omega
 have e4:val (u.drop i)=u.getD i 0+4294967296*(u.getD (i+1) 0+4294967296*val (u.drop (i+2))):=by
  have d:∀k,val (u.drop k)=u.getD k 0+4294967296*val (u.drop (k+1)):=by
   intro k;by_cases hk:k<u.length
   ·rw[List.drop_eq_getElem_cons hk,val,gD,gE hk];rfl
   ·rw[List.drop_of_length_le (by omega),List.drop_of_length_le (by omega),gD,List.getElem?_eq_none (by omega)];rfl
  rw[d i,d (i+1)]
 rw[e2,e3,e4];generalize val (u.drop (i+2))=z;have e5:u.getD i 0+4294967296*(u.getD (i+1) 0+4294967296*z)=(u.getD (i+1) 0*4294967296+u.getD i 0)+2^s*(4294967296*(2^(32-s)*z)):=by
  have:(4294967296:Int)=2^s*2^(32-s):=by rw[←Int.pow_add,show s+(32-s)=32 by omega];rfl
  have e6:(2:Int)^s*(4294967296*(2^(32-s)*z))=4294967296*(2^s*2^(32-s)*z):=by grind
  rw[e6,←this];omega
 rw[e5,Int.add_mul_ediv_left _ _ (by omega),Int.add_mul_emod_self_left]
structure KR(u:List Int)(s i:Nat)(r:List Int):Prop where
 sum:val (r.take i)=(val u/2^s)%P32 i
theorem KR.step{u:List Int}{s i:Nat}{r:List Int}(h:KR u s i r)(ou:Ok u)(hs:s≤31)(hi:i<r.length){x:Int}(hx:x=((u.getD (i+1) 0*4294967296+u.getD i 0)/2^s)%4294967296):KR u s (i+1) (r.set i x):=by
 refine⟨?_⟩;rw[eE r i _ hi,aOv ou hs,h.sum,hx]
end
section
open Go.RowKit
theorem aIs{m x:Int}(hm:0≤m∧m<4294967296)(hx:0≤x∧x<4294967296):bits BinOp.or IntKind.u64 (m*4294967296) x=m*4294967296+x:=by
 rw[u64_or _ _ (by omega) (by omega) (by omega) (by omega),nat_join 32 _ _ (by omega) (by omega)];omega
theorem aVa{v:Value}{m m':Int}(h:m=m'):Ending.returned (.tuple #[v,U m])= .returned (.tuple #[v,U m']):=by rw[h]
structure SdI(w:World)(g:Nat)(a:List Int)(d:Int)(r:Nat)(m:Int)(o:List Int)(wr:World):Prop where
 wrd:Wrd w g a.length o wr
 hr:r≤a.length
 hm:0≤m∧m<d
 eq:val (a.drop r)=d*val (o.drop r)+m
theorem SdI.step{w:World}{g:Nat}{a:List Int}{d:Int}{k:Nat}{m:Int}{o:List Int}{wr:World}(h:SdI w g a d (k+1) m o wr)(_oa:Ok a)(hd:1≤d)(hg:w.heap.size≤g){s:Int}(hs:s=m*4294967296+a.getD k 0)(hs0:0≤s)(hs1:s<d*4294967296): SdI w g a d k (s%d) (o.set k (s/d)) (wr.setCell ⟨g,k,none⟩ (U (s/d))):=by
 have hr:=h.hr;have hq:0≤s/d∧s/d<4294967296:=⟨Int.ediv_nonneg hs0 (by omega),Int.ediv_lt_of_lt_mul (by omega) (by rw[Int.mul_comm];exact hs1)⟩;refine⟨h.wrd.set k hq hg,by omega,⟨Int.emod_nonneg _ (by omega),Int.emod_lt_of_pos _ (by omega)⟩,?_⟩;have hl:=h.wrd.len;have e1:a.drop k=a.getD k 0::a.drop (k+1):=by rw[List.drop_eq_getElem_cons (by omega),gD,gE (by omega)];rfl
 have e2:(o.set k (s/d)).drop k=(s/d)::o.drop (k+1):=by
  rw[List.drop_eq_getElem_cons (by simp;omega)];simp[List.drop_set_of_lt]
 rw[e1,e2];simp only[val];rw[h.eq];have h1:=Int.emod_add_mul_ediv s d;have e3:d*(s/d+4294967296*val (o.drop (k+1)))=d*(s/d)+4294967296*(d*val (o.drop (k+1))):=by rw[Int.mul_add,Int.mul_left_comm]
 rw[e3];omega
theorem qE(a:List Int)(A:Option Addr)(ca:Nat)(d:Int)(w:World)(hA:Reads w w.heap.size 1 A a.length (a.map U))(oa:Ok a)(hl:a.length≤1000000000)(hd0:1≤d)(hd1:d<4294967296): Calls Tryz.prog 201 #[.slice A a.length ca,U d] w fun e w'=>∃v o,e= .returned (.tuple #[v,U (val a%d)])∧Row w' w.heap.size 247 1 v o.length (o.map U)∧Ok o∧val o=val a/d∧o.length=a.length∧Below w.heap.size w w':=by
 have hmk:=iF a.length (by omega);have HW:=aH (Wrd.start w a.length);go_enter Tryz.func201,Tryz.ntmps201;go_wp2;go_loopg [7,8] a.length (fun r mv iv wr=>∃(m:Int) (o:List Int),mv= .int .u64 m∧iv=I ((r:Int)-1)∧SdI w w.heap.size a d r m o wr);case atStart=>exact⟨0,_,rfl,rfl,HW.out,by omega,by omega,by rw[List.drop_of_length_le lR,List.drop_of_length_le (by simp)];simp[val]⟩
 case round=>
  clear HW hmk;obtain⟨m,o,rfl,rfl,hI⟩:=hrel;obtain⟨hm0,hm1⟩:=hI.hm;have hr:=hI.hr;rcases gk with _|k
  ·have e0:(((0:Nat):Int)-1)=-1:=by omega
   rw[e0];have hE:=hI.eq;simp only[List.drop_zero]at hE;have hq:val o=val a/d∧m=val a%d:=by
    have h1:=Int.emod_add_mul_ediv (val a) d;have h2:=Int.emod_nonneg (val a) (show d≠0 by omega);have h3:=Int.emod_lt_of_pos (val a) (show 0<d by omega);have h4:val a/d=val o:=by
     rw[hE,Int.add_comm,Int.add_mul_ediv_left _ _ (by omega),Int.ediv_eq_zero_of_lt hm0 hm1];omega
    refine⟨h4.symm,?_⟩;rw[h4]at h1;omega
   obtain⟨hq1,hq2⟩:=hq;have HQ1:=aH hq1;have HQ2:=aH hq2;have HF:=aH hI.wrd;clear hq1 hq2 hI hE e0;go_wp2;go_ret2;exact⟨_,o,aVa HQ2.out,HF.out.row lR (by unfold maxLen;omega),HF.out.ok,HQ1.out,HF.out.len,HF.out.below⟩
  ·have e0:(((k+1:Nat):Int)-1)=k:=by omega
   rw[e0];clear e0;obtain⟨ba,offa,hAe,hba,hca⟩:=(hA.below hI.wrd.below).word (k:=k) (by omega);subst hAe;have hx:=oa.at_ k;obtain⟨x,hxe⟩:∃x,a.getD k 0=x:=⟨_,rfl⟩;rw[hxe]at hca hx;obtain⟨hx0,hx1⟩:=hx;have hs1:m*4294967296+x<d*4294967296:=by omega
   have hN:=hI.step oa hd0 lR (s:=m*4294967296+x) (by rw[hxe]) (by omega) hs1;have hq:0≤(m*4294967296+x)/d∧(m*4294967296+x)/d<4294967296:=⟨Int.ediv_nonneg (by omega) (by omega),Int.ediv_lt_of_lt_mul (by omega) (by omega)⟩;obtain⟨hq0,hq1⟩:=hq;have hor:=aIs (m:=m) (x:=x) (by omega) (by omega);have hf:wr.frozen? ⟨w.heap.size,k,none⟩=false:=hI.wrd.blk.frozen _;have hco:=hI.wrd.cell (i:=k) (by omega);have hlo:=hI.wrd.blk.lt;have HN:=aH hN;clear hN hI hxe;go_wp2;go_roundg k;case measure=>omega
   case rel=>exact⟨_,_,rfl,by go_num,HN.out⟩
structure ShI(w:World)(g:Nat)(a:List Int)(s:Nat)(i:Nat)(c:Int)(o:List Int)(wr:World):Prop where
 wrd:Wrd w g (a.length+1) o wr
 hi:i≤a.length
 hc:0≤c∧c<2^s
 sum:val (o.take i)+P32 i*c=val (a.take i)*2^s
theorem aOw{c x:Int}{s:Nat}(hs:s≤31)(hc:0≤c∧c<2^s)(hx:0≤x∧x<4294967296):bits BinOp.or IntKind.u64 c (IntKind.u64.wrap (x*2^s))=c+x*2^s∧0≤c+x*2^s∧c+x*2^s<4294967296*2^s∧(2:Int)^s≤2147483648:=by
 have hp:(2:Int)^s=((2^s:Nat):Int):=by simp
 have h1:(2:Nat)^s≤2^31:=Nat.pow_le_pow_right (by decide) hs;have h0:0<(2:Nat)^s:=Nat.two_pow_pos s;rw[hp]at hc⊢;have h2:x*((2^s:Nat):Int)≤4294967295*((2^s:Nat):Int):=Int.mul_le_mul_of_nonneg_right (by omega) (by omega);have h3:0≤x*((2^s:Nat):Int):=Int.mul_nonneg hx.1 (by omega);have hdvd:(x*((2^s:Nat):Int)).toNat%2^s=0:=by
  obtain⟨n,rfl⟩:=Int.eq_ofNat_of_zero_le hx.1;rw[←Int.natCast_mul,Int.toNat_natCast];exact Nat.mul_mod_left n _
 generalize hq:(2:Nat)^s=q at*;refine⟨?_,by omega,by omega,by omega⟩;rw[IntKind.wrap_u64,Int.emod_eq_of_lt h3 (by omega),u64_or _ _ (by omega) (by omega) (by omega) (by omega),Nat.or_comm,nat_join s _ _ (by rw[hq];exact hdvd) (by rw[hq];omega)];omega
theorem ShI.step{w:World}{g:Nat}{a:List Int}{s i:Nat}{c:Int}{o:List Int}{wr:World}(h:ShI w g a s i c o wr)(oa:Ok a)(hs:s≤31)(hlt:i<a.length)(hg:w.heap.size≤g){t:Int}(ht:t=c+a.getD i 0*2^s): ShI w g a s (i+1) (t/4294967296) (o.set i (t%4294967296)) (wr.setCell ⟨g,i,none⟩ (U (t%4294967296))):=by
 obtain⟨_,h1,h2,_⟩:=aOw hs h.hc (oa.at_ i);rw[←ht]at h1 h2;refine⟨h.wrd.set i (by omega) hg,by omega,by omega,?_⟩;have hl:=h.wrd.len;rw[eE o i _ (by omega),aR,bS,Int.add_mul];have h4:=h.sum;have h5:=eW (P32 i) t;have e:P32 i*t=P32 i*c+P32 i*a.getD i 0*2^s:=by rw[ht,Int.mul_add,Int.mul_assoc]
 omega
theorem sY(a:List Int)(A:Option Addr)(ca:Nat)(s:Nat)(w:World)(hA:Reads w w.heap.size 1 A a.length (a.map U))(oa:Ok a)(hl:a.length≤1000000000)(hs:s≤31): Calls Tryz.prog 206 #[.slice A a.length ca,I s] w fun e w'=>∃o,e= .returned (.slice (some ⟨w.heap.size,0,none⟩) (a.length+1) (a.length+1))∧Wrd w w.heap.size (a.length+1) o w'∧val o=val a*2^s:=by
 have hmk:=iF (a.length+1) (by omega);have e1:((a.length+1:Nat):Int)=(a.length:Int)+1:=by omega
 rw[e1]at hmk;clear e1;have HW:=aH (Wrd.start w (a.length+1));go_enter Tryz.func206,Tryz.ntmps206;go_wp2;go_loopg [6,15] (a.length-0) (fun r cv iv wr=>∃(i:Nat) (c:Int) (o:List Int),r=a.length-i∧cv= .int .u64 c∧iv=I i∧ShI w w.heap.size a s i c o wr);case atStart=>exact⟨0,0,_,rfl,rfl,rfl,HW.out,by omega,⟨by omega,by have:=Nat.two_pow_pos s;exact_mod_cast this⟩,by simp[val]⟩
 case round=>
  clear HW hmk;obtain⟨i,c,o,rfl,rfl,rfl,hI⟩:=hrel;obtain⟨hc0,hc1⟩:=hI.hc;have hi:=hI.hi;by_cases hlt:i<a.length
  ·obtain⟨ba,offa,hAe,hba,hca⟩:=(hA.below hI.wrd.below).word hlt;subst hAe;have hx:=oa.at_ i;obtain⟨x,hxe⟩:∃x,a.getD i 0=x:=⟨_,rfl⟩;rw[hxe]at hca hx;have HXE:=aH hxe;clear hxe;obtain⟨hx0,hx1⟩:=hx;have hf:wr.frozen? ⟨w.heap.size,i,none⟩=false:=hI.wrd.blk.frozen _;have hco:=hI.wrd.cell (i:=i) (by omega);have hlo:=hI.wrd.blk.lt;obtain⟨hor,ht0,ht1,hp⟩:=aOw hs ⟨hc0,hc1⟩ ⟨hx0,hx1⟩;have hN:=hI.step oa hs hlt lR (t:=c+x*2^s) (by rw[HXE.out]);have HN:=aH hN;have ht2:c+x*2^s<18446744073709551616:=by omega
   clear hN hI hc1 ht1 hp;go_wp2;go_roundg (a.length-(i+1));case measure=>omega
   case rel=>exact⟨i+1,_,_,rfl,rfl,by go_num,HN.out⟩
  ·obtain rfl:i=a.length:=by omega
   have hp:(2:Int)^s≤2147483648:=(aOw (x:=0) hs ⟨hc0,hc1⟩ (by omega)).2.2.2;have hcb:c<4294967296:=by omega
   have hf:wr.frozen? ⟨w.heap.size,a.length,none⟩=false:=hI.wrd.blk.frozen _;have hco:=hI.wrd.cell (i:=a.length) (by omega);have hlo:=hI.wrd.blk.lt;have hF:=hI.wrd.set a.length (x:=c) (by omega) lR;have hV:val (o.set a.length c)=val a*2^s:=by
    have h1:=eE o a.length c (by rw[hI.wrd.len];omega);rw[List.take_of_length_le (by rw[List.length_set,hI.wrd.len];omega)]at h1;rw[h1,hI.sum,List.take_of_length_le lR]
   have HF:=aH hF;have HV:=aH hV;clear hF hV hI hc1 hp;go_wp2;go_ret;exact⟨_,rfl,HF.out,HV.out⟩
theorem aLg(x:Int)(w:World)(h0:0≤x)(h1:x<4294967296):Calls Tryz.prog 213 #[U x] w fun e w'=>e= .returned (I (Lib.bitLen x.toNat))∧w'=w:=by
 by_cases h2:65536≤x
 ·by_cases h3:256≤x/65536
  ·have a0:0≤x/65536/256:=by omega
   have a1:x/65536/256≤255:=by omega
   go_enter Tryz.func213,Tryz.ntmps213;go_wp2;go_ret;refine⟨aE ?_,rfl⟩;have e:(x/65536/256).toNat=x.toNat/16777216:=by omega
   have l:=Lib.bitLen_le8' (x/65536/256) a0 a1;have s:=Lib.bitLen_shift24 x.toNat (by omega) (by omega);rw[Lib.len8_of _ a0 a1]at*;rw[e]at l⊢;unfold wrap64;omega
  ·have a0:0≤x/65536:=by omega
   have a1:x/65536≤255:=by omega
   go_enter Tryz.func213,Tryz.ntmps213;go_wp2;go_ret;refine⟨aE ?_,rfl⟩;have e:(x/65536).toNat=x.toNat/65536:=by omega
   have l:=Lib.bitLen_le8' (x/65536) a0 a1;have s:=Lib.bitLen_shift16 x.toNat (by omega) (by omega);rw[Lib.len8_of _ a0 a1]at*;rw[e]at l⊢;unfold wrap64;omega
 ·by_cases h3:256≤x
  ·have a0:0≤x/256:=by omega
   have a1:x/256≤255:=by omega
   go_enter Tryz.func213,Tryz.ntmps213;go_wp2;go_ret;refine⟨aE ?_,rfl⟩;have e:(x/256).toNat=x.toNat/256:=by omega
   have l:=Lib.bitLen_le8' (x/256) a0 a1;have s:=Lib.bitLen_shift8 x.toNat (by omega) (by omega);rw[Lib.len8_of _ a0 a1]at*;rw[e]at l⊢;unfold wrap64;omega
  ·have a1:x≤255:=by omega
   go_enter Tryz.func213,Tryz.ntmps213;go_wp2;go_ret;refine⟨aE ?_,rfl⟩;have l:=Lib.bitLen_le8' x h0 a1;rw[Lib.len8_of _ h0 a1]at*;unfold wrap64;omega
theorem oX:∀(k:Nat),k≤64→∀x:Nat,x<2^k→x<2^Lib.bitLen x∧(x≠0→2^Lib.bitLen x≤2*x)
 |0,_,x,h=>by
  have:x=0:=by simpa using h
  subst this;decide
 |k+1,hk,x,h=>by
  by_cases h0:x=0
  ·subst h0;decide
  ·have h64:x<2^64:=Nat.lt_of_lt_of_le h (Nat.pow_le_pow_right (by decide) hk);have e:=Lib.bitLen_half x h0 h64;obtain⟨i1,i2⟩:=oX k (by omega) (x/2) (by rw[Nat.pow_succ]at h;omega);rw[e,Nat.add_comm,Nat.pow_succ];refine⟨by omega,fun _=>?_⟩;by_cases h1:x/2=0
   ·rw[h1];have:Lib.bitLen 0=0:=by decide
    rw[this];omega
   ·have:=i2 h1;omega
theorem aYf(x:Int)(w:World)(h0:1≤x)(h1:x<4294967296):Calls Tryz.prog 205 #[U x] w fun e w'=>∃s:Nat,e= .returned (I s)∧s≤31∧2147483648≤x*2^s∧x*2^s<4294967296∧w'=w:=by
 have HC:=aH (aLg x w (by omega) h1);have hb:=oX 32 (by decide) x.toNat (by omega);have hle:=Lib.bitLen_le x.toNat 32 (by decide) (by omega);have h2:=hb.2 (by omega);have hge:1≤Lib.bitLen x.toNat:=by
  rcases Nat.eq_zero_or_pos (Lib.bitLen x.toNat)with e|e
  ·rw[e]at hb;have:=hb.1;omega
  ·exact e
 have H1:Hid (2147483648≤x*2^(32-Lib.bitLen x.toNat)∧x*2^(32-Lib.bitLen x.toNat)<4294967296):=aH (by
  have hb1:=hb.1;generalize Lib.bitLen x.toNat=k at*;obtain⟨n,rfl⟩:=Int.eq_ofNat_of_zero_le (show 0≤x by omega);simp only[Int.toNat_natCast]at*;have e:2^k*2^(32-k)=4294967296:=by rw[←Nat.pow_add,show k+(32-k)=32 by omega]
  have hp:0<2^(32-k):=Nat.two_pow_pos _;have a1:=Nat.mul_lt_mul_of_pos_right hb1 hp;have a2:=Nat.mul_le_mul_right (2^(32-k)) h2;rw[e]at a1 a2;rw[Nat.mul_assoc]at a2;have c:((n*2^(32-k):Nat):Int)=(n:Int)*2^(32-k):=by simp
  rw[←c];omega)
 clear hb h2;go_enter Tryz.func205,Tryz.ntmps205;go_wp2_with fail;refine HC.out.mono ?_;rintro e w1 ⟨rfl,rfl⟩;clear HC;go_wp2;go_ret;exact⟨32-Lib.bitLen x.toNat,aE (by omega),by omega,H1.out.1,H1.out.2,rfl⟩
theorem aOx{b o:List Int}(ob:Ok b){k s:Nat}(hb:b.length=k+1)(hs:s≤31)(h1:2147483648≤b.getD k 0*2^s)(h2:b.getD k 0*2^s<4294967296)(oo:Ok o)(lo:o.length=k+2)(hv:val o=val b*2^s): ∃v,o=v++[0]∧v.length=k+1∧Ok v∧val v=val b*2^s∧2147483648≤v.getD k 0:=by
 have hp:(0:Int)<2^s:=by have:=Nat.two_pow_pos s;exact_mod_cast this
 have b1:=aR b k;rw[List.take_of_length_le (by omega)]at b1;have b2:=bD (ob.take k);have b3:=dN (ob.take k);rw[List.length_take,Nat.min_eq_left (by omega)]at b3;have pk:=cY k;have e32:(4294967296:Int)=2^s*2^(32-s):=by rw[←Int.pow_add,show s+(32-s)=32 by omega];rfl
 have hlt:val b*2^s<P32 (k+1):=by
  generalize b.getD k 0=bt at*;have a1:bt+1≤2^(32-s):=by
   have:bt*2^s<2^(32-s)*2^s:=by rw[Int.mul_comm (2^(32-s)),←e32];exact h2
   have:=Int.lt_of_mul_lt_mul_right this (by omega);omega
  have a2:(bt+1)*2^s≤4294967296:=by
   have:=Int.mul_le_mul_of_nonneg_right a1 (show(0:Int)≤2^s by omega);rw[Int.mul_comm (2^(32-s)),←e32]at this;exact this
  have a3:val b<P32 k*(bt+1):=by rw[b1];grind
  have a4:=Int.mul_lt_mul_of_pos_right a3 hp;have a5:P32 k*(bt+1)*2^s≤P32 k*4294967296:=by
   rw[Int.mul_assoc];exact Int.mul_le_mul_of_nonneg_left a2 (by omega)
  rw[bS];omega
 have hz:=pH oo (K:=k+1) (by rw[hv];exact hlt) (k:=k+1) lR;have e1:=mT o (k+1) (by omega);rw[List.take_of_length_le (by omega),hz]at e1;have hvv:val (o.take (k+1))=val b*2^s:=by
  have:=aR o (k+1);rw[List.take_of_length_le (by omega),hz]at this;omega
 have hlen:(o.take (k+1)).length=k+1:=by rw[List.length_take];omega
 refine⟨o.take (k+1),e1,hlen,oo.take _,hvv,?_⟩;have v1:=aR (o.take (k+1)) k;rw[List.take_of_length_le (l:=o.take (k+1)) (by omega)]at v1;have v3:=dN ((oo.take (k+1)).take k);rw[List.length_take,hlen,Nat.min_eq_left (by omega)]at v3;generalize(o.take (k+1)).getD k 0=vt at*;generalize b.getD k 0=bt at*;have c1:P32 k*2147483648≤P32 k*(bt*2^s):=Int.mul_le_mul_of_nonneg_left h1 (by omega);have c2:P32 k*(bt*2^s)≤val b*2^s:=by
  rw[b1,Int.add_mul,Int.mul_assoc];have:=Int.mul_nonneg b2 (show(0:Int)≤2^s by omega);omega
 have c3:P32 k*2147483648<P32 k*(vt+1):=by rw[Int.mul_add];omega
 have:=Int.lt_of_mul_lt_mul_left c3 (by omega);omega
section
variable {w w1:World} {g n:Nat} {o:List Int} {wr w2:World}
theorem Wrd.far(h:Wrd w g n o wr){p:Addr}(hp:g≠p.block)(hb:w.heap.size≤p.block)(u:Value):Wrd w g n o (wr.setCell p u):=⟨h.len,h.ok,h.blk.far hp u,h.below.setCell hb u⟩
theorem Wrd.base(h:Wrd w1 g n o wr)(hb:Below w.heap.size w w1):Wrd w g n o wr:=⟨h.len,h.ok,h.blk,hb.trans (h.below.mono hb.size)⟩
theorem Wrd.ext(h:Wrd w g n o wr)(hb:Below wr.heap.size wr w2):Wrd w g n o w2:=⟨h.len,h.ok,h.blk.below hb h.blk.lt,h.below.trans (hb.mono h.below.size)⟩
end
theorem Wrd.drew{w:World}{g n:Nat}{o:List Int}{wr:World}(h:Wrd w g n o wr):Wrd w g n o wr.drew:=⟨h.len,h.ok,h.blk,below_drewN h.below 1⟩
structure M3(w:World)(gu gv gq la n:Nat)(v u q:List Int)(wr:World):Prop where
 mu:Wrd w gu (la+1) u wr
 mv:Blk wr gv 247 ((v++[0]).map U).toArray
 mq:Wrd w gq (la-n+1) q wr
 lv:v.length=n
structure Apart(w:World)(gu gv gq:Nat):Prop where
 hu:w.heap.size≤gu
 hv:w.heap.size≤gv
 hq:w.heap.size≤gq
 uv:gu≠gv
 uq:gu≠gq
 vq:gv≠gq
section
variable {w wr:World} {gu gv gq la n:Nat} {v u q:List Int}
theorem M3.setU(h:M3 w gu gv gq la n v u q wr)(ha:Apart w gu gv gq)(i:Nat){x:Int}(hx:0≤x∧x<4294967296):M3 w gu gv gq la n v (u.set i x) q (wr.setCell ⟨gu,i,none⟩ (U x)):=⟨h.mu.set i hx ha.hu,h.mv.far (fun e=>ha.uv e.symm) _,h.mq.far (fun e=>ha.uq e.symm) ha.hu _,h.lv⟩
theorem M3.setQ(h:M3 w gu gv gq la n v u q wr)(ha:Apart w gu gv gq)(i:Nat){x:Int}(hx:0≤x∧x<4294967296):M3 w gu gv gq la n v u (q.set i x) (wr.setCell ⟨gq,i,none⟩ (U x)):=⟨h.mu.far ha.uq ha.hq _,h.mv.far ha.vq _,h.mq.set i hx ha.hq,h.lv⟩
theorem M3.cv(h:M3 w gu gv gq la n v u q wr){i:Nat}(hi:i<n):wr.cell? ⟨gv,i,none⟩=some (U (v.getD i 0)):=by
 have:=h.lv;rw[h.mv.cell];simp[List.getElem?_append,this,hi]
end
theorem M3.drewN{w wr:World}{gu gv gq la n:Nat}{v u q:List Int}(h:M3 w gu gv gq la n v u q wr)(k:Nat):M3 w gu gv gq la n v u q (wr.drewN k):=⟨⟨h.mu.len,h.mu.ok,h.mu.blk,below_drewN h.mu.below k⟩,h.mv,⟨h.mq.len,h.mq.ok,h.mq.blk,below_drewN h.mq.below k⟩,h.lv⟩
structure GI(uh um vt dq g rest:Int):Prop where
 g0:0≤g
 g1:g≤4294967297
 r0:0≤rest
 r1:rest<4294967296
 eq:g*vt+rest=uh*4294967296+um
 le:dq≤g
section
variable {X Vj uh um ul vt vs q:Int}
theorem Tops.first(h:Tops X Vj uh um ul vt vs)(h0:0≤uh)(hd:Dig X Vj q):GI uh um vt q ((uh*4294967296+um)/vt) ((uh*4294967296+um)%vt):=by
 obtain⟨D,vl,xl,hD,eV,v0,v1,eX,x0,x1⟩:=h.ex;obtain⟨m0,m1⟩:=h.hum;obtain⟨l0,l1⟩:=h.hul;obtain⟨t0,t1⟩:=h.hvt;obtain⟨s0,s1⟩:=h.hvs;have hh:=h.huh;have e:=Int.emod_add_mul_ediv (uh*4294967296+um) vt;have e0:=Int.emod_nonneg (uh*4294967296+um) (show vt≠0 by omega);have e1:=Int.emod_lt_of_pos (uh*4294967296+um) (show 0<vt by omega);have lo:=hd.lo;rw[eV,eX]at lo;have h1:=est_low hD hd.q0 v0 x1 lo;have h2:0≤q*vs:=Int.mul_nonneg hd.q0 s0;have h3:q*vt≤uh*4294967296+um:=by
  have:q*(vt*4294967296+vs)=q*vt*4294967296+q*vs:=by grind
  omega
 have hb:(uh*4294967296+um)/vt<4294967298:=Int.ediv_lt_of_lt_mul (by omega) (by omega);refine⟨Int.ediv_nonneg (by omega) (by omega),by omega,e0,by omega,by rw[Int.mul_comm];omega,(Int.le_ediv_iff_mul_le (by omega)).2 h3⟩
end
def CutG(wa:World)(X Vj dq:Int)(gv:Value)(wx:World):Prop:=∃(g:Int) (q:Nat),gv= .int .u64 g∧wx=wa.drewN q∧(0≤g∧g<4294967296)∧dq≤g∧(g-1)*Vj≤X
theorem CutG.any{wa:World}{X Vj dq:Int}{gv:Value}{k:Nat}(h:CutG wa X Vj dq gv (wa.drewN k))(m:Nat):CutG wa X Vj dq gv (wa.drewN m):=by
 obtain⟨g,q,h1,_,h2⟩:=h;exact⟨g,_,h1,rfl,h2⟩
theorem aOy{u v:List Int}{j n:Nat}(ou:Ok u)(ov:Ok v)(lv:v.length=n)(h:val u<val v*P32 (j+1)):∀k,n+j<k→u.getD k 0=0:=by
 intro k hk;refine pH ou (K:=n+(j+1)) ?_ (by omega);have h1:=dN ov;rw[lv]at h1;have h2:val v*P32 (j+1)≤P32 n*P32 (j+1):=Int.mul_le_mul_of_nonneg_right (by omega) (by have:=cY (j+1);omega);rw[←iQ]at h2;omega
theorem aVb{c:Int}(h0:0≤c)(h1:c<18446744073709551616):bits BinOp.and IntKind.u64 c 4294967295=c%4294967296:=by
 rw[u64_and _ _ h0 h1 (by omega) (by omega)];have e:(4294967295:Int).toNat=2^32-1:=by decide
 rw[e,Nat.and_two_pow_sub_one_eq_mod];omega
def aAq(w:World)(a b:Int)(e:Ending)(w':World):Prop:=∃Aq cq Ar cr q r,e= .returned (.tuple #[.slice Aq (q:List Int).length cq,.slice Ar (r:List Int).length cr])∧Reads w' w'.heap.size 1 Aq q.length (q.map U)∧Reads w' w'.heap.size 1 Ar r.length (r.map U)∧Ok q∧Ok r∧val q=a/b∧val r=a%b∧(q.length≤1000000000∧r.length≤1000000000)∧Below w.heap.size w w'
theorem aVc{A B:Option Addr}{n m:Nat}{q r:List Int}(h1:q.length=n)(h2:r.length=m):Ending.returned (.tuple #[.slice A n n,.slice B m m])= .returned (.tuple #[.slice A q.length n,.slice B r.length m]):=by rw[h1,h2]
def Two(w:World)(a b:List Int)(s:Nat)(uv vv:Value)(wx:World):Prop:=∃gu gv u v,uv= .slice (some ⟨gu,0,none⟩) (a.length+1) (a.length+1)∧vv= .slice (some ⟨gv,0,none⟩) b.length (b.length+1)∧gu≠gv∧w.heap.size≤gu∧w.heap.size≤gv∧Wrd w gu (a.length+1) u wx∧Blk wx gv 247 (((v++[0]:List Int)).map U).toArray∧v.length=b.length∧Ok v∧val v=val b*2^s∧2147483648≤v.getD (b.length-1) 0∧val u=val a*2^s
theorem aOz{w wx:World}{a b u o:List Int}{s gu gv:Nat}(ob:Ok b)(hb2:2≤b.length)(hs:s≤31)(h1:2147483648≤b.getD (b.length-1) 0*2^s)(h2:b.getD (b.length-1) 0*2^s<4294967296)(hne:gu≠gv)(hgv:w.heap.size≤gv)(hgu:w.heap.size≤gu) (hu:Wrd w gu (a.length+1) u wx)(hv:Wrd w gv (b.length+1) o wx)(eu:val u=val a*2^s)(ev:val o=val b*2^s):Two w a b s (.slice (some ⟨gu,0,none⟩) (a.length+1) (a.length+1)) (.slice (some ⟨gv,0,none⟩) b.length (b.length+1)) wx:=by
 obtain⟨v,rfl,lv,ov,evv,htop⟩:=aOx (k:=b.length-1) ob (by omega) hs h1 h2 hv.ok (by rw[hv.len];omega) ev;exact⟨gu,gv,u,v,rfl,rfl,hne,hgu,hgv,hu,hv.blk,by omega,ov,evv,htop,eu⟩
end
end Go.Proofs.YtenbglfkdldheaaGreatDoor
