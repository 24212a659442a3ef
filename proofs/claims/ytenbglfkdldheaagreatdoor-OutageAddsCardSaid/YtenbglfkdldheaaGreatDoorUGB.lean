/- station.edges. station.Buses, topology.Of's check; station.check. Ways in a graph; what the distances and the numbers of the components say. No program here. graph.path and graph.all. graph.all, graph.Path, graph.Cycles; slices.Contains at ints. fine, slices.Equal at ints, and graphFact: the examples of the document hold. GraphWays: its walk answers true. The tree of a graph: it connects what the graph connects, without cycles; cycles and bridges. No program here. What a valid network is: plain facts. No program here. topology.Get. Buses and islands: plain facts. flow: the plain functions of Check. -/
import Derived.Test.YtenbglfkdldheaaGreatDoorUH
import Derived.Test.YtenbglfkdldheaaGreatDoorUGA
set_option maxRecDepth 100000
set_option maxHeartbeats 2000000
namespace Go.Proofs.YtenbglfkdldheaaGreatDoor
section
open Go.RowKit
theorem kU{P:Program}{w:World}{ops:Array Oper}{o:Oper}{a:Act}{K:Act→World→Prop}{Q:Exit→Act→World→Prop}{E:Prop}(hgd:o.guard=none)(s x:Operand)(t:TypeId) (ho:o.op= .call {callee:= .builtin .append,args:=#[s,x],argTypes:=#[t,t]})
  (base:Nat)(e:TypeId)(i:TypeInfo)(z:Value)(sz bytes:Nat)(ht:P.underlying t=some (.slice e))(hi:P.info? e=some i)(hz:i.zero=some z)
  (hsize:i.size=sz)(hby:i.bytes=bytes)(hzs:z.cells.size=sz)(hsz:0<sz)
  (v:Value)(n:Nat)(xs:List Value)(hsv:a.eval s=v)(hr:Row w base e sz v n xs)
  (B:Nat)(A:Option Addr)(m c:Nat)(news:List Value)(hx:a.eval x= .slice A m c)(hs:Reads w B sz A m news)(h1:∀u∈news,u.oneCell'=true)
  (h63:n+m≤maxLen)(hbytes:(n+m)*bytes≤140737488355328)(hbase:base≤w.heap.size)
  (h:∀v' w',Row w' base e sz v' (n+m) (xs++news)→w.grownBy w' v.ownBlock→K (a.put o.dst v') w'):
  if Region.wanted o (yielded ops a.tmps)=true then Oper.wp P o a w K Q else E:=by
 have hw:Region.wanted o (yielded ops a.tmps)=true:=by simp[Region.wanted,hgd]
 rw[if_pos hw];obtain⟨v',w',hrun,h2,h3⟩:=mM (P:=P) w base t o.type e i z sz bytes ht hi hz hsize hby hzs hsz v n xs hr B A m c news hs h1 h63 hbytes hbase;unfold Oper.wp execOp;simp only[ho,resolve,invoke,builtin,Sem.run_bind,Sem.run_pure,Result.andThen_ok,List.map_toArray,List.map_cons,List.map_nil,hsv,hx,hrun];exact h v' w' h2 h3
theorem Tryz.info43:(Tryz.prog.info? 43).map (fun i=>(i.zero,i.size,i.bytes))=some (some (.agg #[.int .i64 0,.int .i64 0]),2,16):=by kernel_rfl
theorem kV(l:List ByteArray)(n:Nat)(A:Option Addr)(c:Nat)(x:ByteArray)(w:World)(B:Nat)(hln:l.length=n)(hr:Reads w B 1 A n (l.map S))(hl:n≤1000000): Calls Tryz.prog 18 #[.slice A n c,.string x] w fun e w'=>e= .returned (I (Lib.idxOfS l x))∧w=w':=by
 subst hln;by_cases h0:l.length=0
 ·have:l=[]:=List.eq_nil_of_length_eq_zero h0;subst this;exact(Tryz.slices_Index_string_empty A c x w).mono fun e w' ⟨h1,h2⟩=>⟨h1,h2.symm⟩
 ·obtain⟨b,off,rfl,_,hc⟩:=hr.2 (by omega);refine(Tryz.slices_Index_string b off l.length c l x w lR (by omega) (fun j hj=>hc j _ (by simp[hj]))).mono fun e w' ⟨h1,h2⟩=>⟨by rw[h1,List.take_of_length_le lR],h2.symm⟩
def cK(nodes:List ByteArray)(o:Bool):Nat→List SwitchD→List ((Int×Int)×Int)
 |_,[]=>[]
 |i,s::r=>if(s.opn==o)=true then((Lib.idxOfS nodes s.a,Lib.idxOfS nodes s.b),(i:Int))::cK nodes o (i+1) r else cK nodes o (i+1) r
def gJ(n:NetD)(o:Bool):List ((Int×Int)×Int):=cK n.nodes o 0 n.switches
structure EdgesInv(wb:World)(nodes:List ByteArray)(o:Bool)(sws:List SwitchD)(res:List ((Int×Int)×Int))(j:Nat)(lv kv:Value)(es:List ((Int×Int)×Int))(wr:World):Prop where
 l:Row wr wb.heap.size 43 2 lv es.length (eD (es.map (·.1)))
 k:Row wr wb.heap.size 3 1 kv es.length ((es.map (·.2)).map I)
 below:Below wb.heap.size wb wr
 rest:es++cK nodes o j (sws.drop j)=res
 few:es.length≤j
theorem Row.own_block{w:World}{base:Nat}{e:TypeId}{sz n:Nat}{v:Value}{xs:List Value}(h:Row w base e sz v n xs){g:Nat}(hg:v.ownBlock=some g):base≤g∧g<w.heap.size:=by
 rcases h.2 with⟨rfl,_⟩|⟨g',off,cap,cur,rfl,hb,hh,_⟩
 ·simp[Value.ownBlock]at hg
 ·simp[Value.ownBlock]at hg;subst hg;exact⟨hb,hh.lt⟩
theorem Row.cell_far{w w' W:World}{base:Nat}{e:TypeId}{sz n:Nat}{v:Value}{xs:List Value}(h:Row w base e sz v n xs)(hg:W.grownBy w' v.ownBlock){g o:Nat}{u:Value}(hc:W.cell? ⟨g,o,none⟩=some u)(hne:g<base∨w.heap.size≤g):w'.cell? ⟨g,o,none⟩=some u:=hg.cell hc (fun e=>by have:=h.own_block (g:=g) (by simpa using e.symm);omega)
theorem tA(l:List (Int×Int))(x:Int×Int):eD l++[I x.1,I x.2]=eD (l++[x]):=by simp[eD]
theorem Row.drew{w:World}{base:Nat}{e:TypeId}{sz n:Nat}{v:Value}{xs:List Value}(h:Row w base e sz v n xs):Row w.drew base e sz v n xs:=h.keep fun _ _ _=>rfl
theorem tB(w:World)(t:TypeId)(x y:Value):Reads (w.alloc (.cells #[x,y] t)).drew (w.heap.size+1) 2 (some ⟨w.heap.size,0,none⟩) 1 [x,y]:=by
 refine⟨rfl,fun _=>⟨_,_,rfl,by omega,fun j u hu=>?_⟩⟩;have:=(Blk.new w t #[x,y]).cell (0+j);refine(show(w.alloc (.cells #[x,y] t)).drew.cell? ⟨w.heap.size,0+j,none⟩=_ from this).trans ?_;simpa using hu
theorem aGx{w W1 w2:World}{o:Obj}{base:Nat}{e:TypeId}{sz n:Nat}{v:Value}{xs:List Value}(h:Row w base e sz v n xs)(hg:(W1.alloc o).drew.grownBy w2 v.ownBlock){g1 o1 g2 o2 g3 o3:Nat}{u1 u2 u3:Value} (h1:W1.cell? ⟨g1,o1,none⟩=some u1)(h2:W1.cell? ⟨g2,o2,none⟩=some u2)(h3:W1.cell? ⟨g3,o3,none⟩=some u3)(k1:g1<base∨w.heap.size≤g1)(k2:g2<base∨w.heap.size≤g2)(k3:g3<base∨w.heap.size≤g3):
  w2.cell? ⟨g1,o1,none⟩=some u1∧w2.cell? ⟨g2,o2,none⟩=some u2∧w2.cell? ⟨g3,o3,none⟩=some u3:=by
 have al:∀{g o':Nat} {u:Value},W1.cell? ⟨g,o',none⟩=some u→(W1.alloc o).drew.cell? ⟨g,o',none⟩=some u:=by
  intro g o' u hc;exact(World.cell?_alloc_lt W1 o ⟨g,o',none⟩ (World.block_lt_of_cell? W1 _ hc)).trans hc
 exact⟨h.cell_far hg (al h1) k1,h.cell_far hg (al h2) k2,h.cell_far hg (al h3) k3⟩
def aQr(w:World)(es:List ((Int×Int)×Int))(e:Ending)(w':World):Prop:=∃lv kv,e= .returned (.tuple #[lv,kv])∧Row w' w.heap.size 43 2 lv es.length (eD (es.map (·.1)))∧Row w' w.heap.size 3 1 kv es.length ((es.map (·.2)).map I)∧Below w.heap.size w w'
theorem aMd(n:NetD)(v:NetV)(o:Bool)(w:World)(hN:NetIn w n v)(h1:n.nodes.length≤1000)(h2:n.switches.length≤1000):Calls Tryz.prog 163 #[v.val n,.bool o] w (aQr w (gJ n o)):=by
 have HN0:=aH hN;clear hN;unfold NetV.val NetV.parts;obtain⟨na,nc,sa,sc,ba,bc,ga,gc,la,lc,ta,tc⟩:=v;obtain⟨nodes,sws,brs,gens,loads,stores⟩:=n;simp only at h1 h2⊢;go_enter Tryz.func163,Tryz.ntmps163;go_wp2;obtain⟨nb,hnb⟩:∃nb,nb=#[Value.slice na nodes.length nc,Value.slice sa sws.length sc,Value.slice ba brs.length bc,Value.slice ga gens.length gc,Value.slice la loads.length lc,Value.slice ta stores.length tc]:=⟨_,rfl⟩;rw[←hnb];have hext:Below w.heap.size w (w.alloc (Obj.cells nb 29)):=(Below.refl _ w).alloc lR _;have HN:=aH (HN0.out.below hext);have HB1:=aH (Blk.new w 29 nb);have HEX:=aH hext;generalize w.alloc (Obj.cells nb 29)=wb at*;subst hnb;clear hext HN0;have HI:EdgesInv wb nodes o sws (gJ ⟨nodes,sws,brs,gens,loads,stores⟩ o) 0 (.slice none 0 0) (.slice none 0 0) [] wb:=⟨Row.nil _ _ _ _,Row.nil _ _ _ _,Below.refl _ _,rfl,by simp⟩
 obtain⟨res,hres⟩:∃res,gJ ⟨nodes,sws,brs,gens,loads,stores⟩ o=res:=⟨_,rfl⟩;rw[hres]at HI;have HRES:=aH hres;clear hres;go_loopg [6,7,13] (sws.length-0) (fun r lv kv iv wr=>∃(j:Nat) (es:List ((Int×Int)×Int)),r=sws.length-j∧iv=I j∧j≤sws.length∧EdgesInv wb nodes o sws res j lv kv es wr);case atStart=>exact⟨0,[],rfl,rfl,by omega,HI⟩
 case round=>
  clear HI;obtain⟨j,es,rfl,rfl,hj,hG⟩:=hrel;obtain⟨wa,rfl⟩:=wE wr;have hb0:wa.cell? ⟨w.heap.size,0,none⟩=some (.slice na nodes.length nc):=by rw[(HB1.out.below hG.below HB1.out.lt).cell];rfl
  have hlt00:w.heap.size<wa.heap.size:=Nat.lt_of_lt_of_le HB1.out.lt hG.below.size;have hlt01:w.heap.size<wb.heap.size:=HB1.out.lt;have hlt02:wb.heap.size≤wa.heap.size:=hG.below.size;have hIN:=HN.out.below hG.below;by_cases hlt:j<sws.length
  ·obtain⟨b,off,rfl,hbl',hcs⟩:=eQ (f:=SwitchD.cells) (sz:=5) (fun _=>rfl) (by omega) hIN.switches hlt;have hrest:sws.drop j=sws[j]::sws.drop (j+1):=List.drop_eq_getElem_cons hlt;have HR:=aH hG.rest;obtain⟨g,hg⟩:∃g,sws[j]=g:=⟨_,rfl⟩;rw[hrest,hg]at HR;rw[hg]at hcs;clear hg hrest;obtain⟨nm,xa,xb,br,op⟩:=g;have c0:=hcs 0 _ rfl;have c1:=hcs 1 _ rfl;have c2:=hcs 2 _ rfl;have c3:=hcs 3 _ rfl;have c4:=hcs 4 _ rfl;simp only[←Nat.add_assoc,Nat.add_zero]at c0 c1 c2 c3 c4;have HG:=aH hG;have HNO:=aH hIN.nodes;clear hcs hIN hG;by_cases ho:(op==o)=true
   ·have HR2:=aH (show(es++[((Lib.idxOfS nodes xa,Lib.idxOfS nodes xb),(j:Int))])++cK nodes o (j+1) (sws.drop (j+1))=res by rw[←HR.out,cK,if_pos ho];simp);clear HR;go_wp2;have hx0:(wa.alloc (Obj.cells #[Value.string nm,Value.string xa,Value.string xb,Value.bool br,Value.bool op] 134)).cell? ⟨w.heap.size,0,none⟩=some (.slice na nodes.length nc):=by rw[World.cell?_alloc_lt _ _ _ hlt00];exact hb0
    have hx1:(wa.alloc (Obj.cells #[Value.string nm,Value.string xa,Value.string xb,Value.bool br,Value.bool op] 134)).cell? ⟨wa.heap.size,1,none⟩=some (.string xa):=(Blk.new wa 134 _).cell 1;have hx2:(wa.alloc (Obj.cells #[Value.string nm,Value.string xa,Value.string xb,Value.bool br,Value.bool op] 134)).cell? ⟨wa.heap.size,2,none⟩=some (.string xb):=(Blk.new wa 134 _).cell 2;have HL:=aH (HG.out.l.alloc (Obj.cells #[Value.string nm,Value.string xa,Value.string xb,Value.bool br,Value.bool op] 134));have HK:=aH (HG.out.k.alloc (Obj.cells #[Value.string nm,Value.string xa,Value.string xb,Value.bool br,Value.bool op] 134));have HBE:=aH (HG.out.below.alloc HG.out.below.size (Obj.cells #[Value.string nm,Value.string xa,Value.string xb,Value.bool br,Value.bool op] 134));have HNO2:=aH (HNO.out.below (w':=(wa.alloc (Obj.cells #[Value.string nm,Value.string xa,Value.string xb,Value.bool br,Value.bool op] 134))) ((Below.refl _ wa).alloc lR _));have hsz:(wa.alloc (Obj.cells #[Value.string nm,Value.string xa,Value.string xb,Value.bool br,Value.bool op] 134)).heap.size=wa.heap.size+1:=World.size_alloc _ _;have HSZ:=aH hsz;have hsz1:wa.heap.size<(wa.alloc (Obj.cells #[Value.string nm,Value.string xa,Value.string xb,Value.bool br,Value.bool op] 134)).heap.size:=by omega
    have hsz2:w.heap.size<(wa.alloc (Obj.cells #[Value.string nm,Value.string xa,Value.string xb,Value.bool br,Value.bool op] 134)).heap.size:=by omega
    have HFEW:=aH HG.out.few;have HLA:=aH HG.out.l;generalize wa.alloc (Obj.cells #[Value.string nm,Value.string xa,Value.string xb,Value.bool br,Value.bool op] 134)=W1 at*;clear hsz HG HNO hb0 c0 c1 c2 c3 c4;obtain⟨i0,hi0,hz0,hz1,hz2⟩:=info_parts Tryz.info43;have HI0:=aH hi0;have HZ0:=aH hz0;have HZ1:=aH hz1;have HZ2:=aH hz2;clear hi0 hz0 hz1 hz2;have hfew:es.length≤1000:=by have:=HFEW.out;omega
    go_region_held3 (fun w'=>w'.cell? ⟨w.heap.size,0,none⟩=some (.slice na nodes.length nc)∧w'.cell? ⟨wa.heap.size,1,none⟩=some (.string xa)∧w'.cell? ⟨wa.heap.size,2,none⟩=some (.string xb)) (first|(with_reducible exact⟨hx0,hx1,hx2⟩)|(with_reducible exact⟨HX.out.1,HX.out.2.1,HX.out.2.2⟩)|go_keep)
     (first|(go_at_call 18;refine(kV nodes _ na nc _ _ _ rfl HNO2.out.drew (by omega)).mono ?_;rintro e w' ⟨rfl,rfl⟩)|(refine kU (by rfl) _ _ 39 (by rfl) wb.heap.size 43 i0 _ 2 16 Tryz.underlying39 HI0.out HZ0.out HZ1.out HZ2.out rfl (by decide) u6 es.length (eD (es.map (·.1))) (by rfl) (HL.out.alloc _).drew (W1.heap.size+1) (some ⟨W1.heap.size,0,none⟩) 1 1 [I (Lib.idxOfS nodes xa),I (Lib.idxOfS nodes xb)] (by rfl) (tB W1 43 _ _) (by simp[Value.oneCell']) (by unfold maxLen;omega) (by omega) (by simp;omega) ?_;intro v' w2 hr2 hg2;have HX:=aH (aGx HLA.out hg2 hx0 hx1 hx2 (by omega) (by omega) (by omega))))
    have hR1:=(HL.out.alloc (Obj.cells #[I (Lib.idxOfS nodes xa),I (Lib.idxOfS nodes xb)] 43)).drew;have HK2:=aH (((HK.out.alloc (Obj.cells #[I (Lib.idxOfS nodes xa),I (Lib.idxOfS nodes xb)] 43)).drew).apart hR1 (by decide) hg2);have HBE2:=aH (((HBE.out.alloc (by omega) (Obj.cells #[I (Lib.idxOfS nodes xa),I (Lib.idxOfS nodes xb)] 43)).drew).trans (hR1.belowG hg2 (by simp;omega)));have HL2:=aH hr2;have hz2:wb.heap.size≤w2.heap.size:=HBE2.out.size;clear hR1 hg2 hr2 HK HBE HL HLA HX hx0 hx1 hx2;obtain⟨j0,hj0,hy0,hy1,hy2⟩:=info_parts Tryz.info3;have HJ0:=aH hj0;have HY0:=aH hy0;have HY1:=aH hy1;have HY2:=aH hy2;clear hj0 hy0 hy1 hy2;go_wp2_with(at_builtin;refine dF rfl _ _ 31 rfl wb.heap.size 3 j0 _ 1 8 Tryz.underlying31 HJ0.out HY0.out HY1.out HY2.out rfl (by decide) u7 es.length ((es.map (·.2)).map I) rfl (HK2.out.alloc _) (w2.heap.size+1) (some ⟨w2.heap.size,0,none⟩) 1 1 [I j] rfl (kN w2 3 (I j)) (by simp[Value.oneCell']) ?c1 ?c2 ?c3 ?_);case c1=>unfold maxLen;omega
    case c2=>omega
    case c3=>simp;omega
    intro v3 w3 hr3 hg3;have HL3:=aH ((HL2.out.alloc (.cells #[I j] 3)).apart (HK2.out.alloc (.cells #[I j] 3)) (by decide) hg3);have HBE3:=aH ((HBE2.out.alloc hz2 (.cells #[I j] 3)).trans ((HK2.out.alloc (.cells #[I j] 3)).belowG hg3 (by simp;omega)));have HK3:=aH hr3;clear hr3 hg3 HL2 HK2 HBE2;go_wp2;go_roundg (sws.length-(j+1));case measure=>omega
    case rel=>
     refine⟨j+1,es++[((Lib.idxOfS nodes xa,Lib.idxOfS nodes xb),(j:Int))],rfl,by go_num,by omega,?_,?_,HBE3.out,HR2.out,by have:=HFEW.out;simp;omega⟩
     ·have:=HL3.out;rw[tA (es.map (·.1)) (Lib.idxOfS nodes xa,Lib.idxOfS nodes xb)]at this;simpa using this
     ·have:=HK3.out;simpa using this
   ·have HR2:=aH (show es++cK nodes o (j+1) (sws.drop (j+1))=res by rw[←HR.out,cK,if_neg ho]);have ho':(op==o)=false:=by simpa using ho
    clear ho HR;go_wp2;go_roundg (sws.length-(j+1));case measure=>omega
    case rel=>exact⟨j+1,es,rfl,by go_num,by omega,HG.out.l.alloc _,HG.out.k.alloc _,HG.out.below.alloc HG.out.below.size _,HR2.out,by have:=HG.out.few;omega⟩
  ·have HX:=aH (show es=res by have:=hG.rest;rwa [List.drop_of_length_le (by omega),cK,List.append_nil]at this);have HG:=aH hG;clear hG hIN;go_wp2;go_ret2;rw[HRES.out,←HX.out];exact⟨u6,u7,rfl,HG.out.l.less (base':=w.heap.size) (by omega),HG.out.k.less (base':=w.heap.size) (by omega),HEX.out.trans (HG.out.below.mono (by omega))⟩
def aQs(w:World)(r:List Int)(e:Ending)(w':World):Prop:=∃v,e= .returned v∧Row w' w.heap.size 3 1 v r.length (r.map I)∧Below w.heap.size w w'
def aI(n:NetD):List Int:=(iJ n.nodes.length ((gJ n false).map (·.1)) [] (parts n.nodes.length ((gJ n false).map (·.1)) (-1))).1
theorem oZ(nodes:List ByteArray)(o:Bool)(i:Nat)(s:List SwitchD):(cK nodes o i s).length≤s.length:=by
 induction s generalizing i with
 |nil=>simp[cK]
 |cons x s ih=>
  rw[cK];split
  ·have:=ih (i+1);simp;omega
  ·have:=ih (i+1);simp;omega
theorem aMe{w:World}{base n:Nat}{l:List (Int×Int)}{A:Option Addr}{c:Nat}(h:Row w base 43 2 (.slice A l.length c) l.length (eD l))(hl:l.length≤1000)(hn:n≤1000):GArgs w (n:Int) l A c:=⟨h.reads,by omega,by omega,by omega,by
  rcases h.2 with⟨hv,h0⟩|⟨g,off,cap,cur,hv,_,_,hnc,_⟩
  ·omega
  ·injection hv with _ _ h3;omega⟩
theorem aMf(n:NetD)(v:NetV)(w:World)(hN:NetIn w n v)(h1:n.nodes.length≤1000)(h2:n.switches.length≤1000):Calls Tryz.prog 128 #[v.val n] w (aQs w (aI n)):=by
 have hE:=aMd n v false (w.alloc (Obj.cells (v.parts n) 29)) (hN.below ((Below.refl _ w).alloc lR _)) h1 h2;have HE:=aH hE;have hel:=Nat.le_trans (oZ n.nodes false 0 n.switches) h2;have hel':(gJ n false).length≤1000:=hel;clear hE hel;unfold NetV.val NetV.parts at*;go_enter Tryz.func128,Tryz.ntmps128;go_wp2_with fail;refine HE.out.mono ?_;rintro e w1 ⟨lv,kv,rfl,hl,hk,hb⟩;obtain⟨A,c,rfl⟩:=hl.val;have HBU:=aH (show aI n=(iJ n.nodes.length ((gJ n false).map (·.1)) [] (parts n.nodes.length ((gJ n false).map (·.1)) (-1))).1 from rfl);have hll:((gJ n false).map (·.1)).length=(gJ n false).length:=by simp
 obtain⟨l1,hl1⟩:∃l1,(gJ n false).map (·.1)=l1:=⟨_,rfl⟩;rw[←hll]at hl hel'⊢;rw[hl1]at hl hel' HBU⊢;have HC:=aH (nD _ _ A c w1 (aMe hl hel' h1));have c0:=((Blk.new w 29 _).below hb (by simp)).cell 0;have hz:=hb.size;have HB:=aH hb;clear hl hk hb hll hl1 HE;go_wp2_with fail;refine HC.out.mono ?_;rintro e w2 ⟨v2,rfl,hr2,hb2⟩;have HF:Hid (aQs w (aI n) (.returned v2) w2):=by
  rw[HBU.out];exact⟨v2,rfl,hr2.less (by simp at hz;omega),cW (HB.out.trans (hb2.mono HB.out.size))⟩
 clear hr2 hb2 HC;go_wp2;go_ret;exact HF.out
end
section
inductive Walk(l:List (Int×Int))(S:Int→Prop):Nat→Int→Int→Prop
 |nil (u:Int):Walk l S 0 u u
 |cons {m:Nat} {u v:Int} (k:Int) (hk:S k) (hi:inc l u k=true) (h:Walk l S m (nxt l u k) v):Walk l S (m+1) u v
def Conn(l:List (Int×Int))(S:Int→Prop)(u v:Int):Prop:=∃m,Walk l S m u v
section
variable {l:List (Int×Int)} {S T:Int→Prop} {u v x:Int} {m j:Nat}
theorem Walk.trans(h:Walk l S m u v)(h2:Walk l S j v x):Walk l S (m+j) u x:=by
 induction h with
 |nil=>simpa using h2
 |cons k hk hi h ih=>rw[Nat.add_right_comm];exact .cons k hk hi (ih h2)
theorem Walk.one(k:Int)(hk:S k)(hi:inc l u k=true):Walk l S 1 u (nxt l u k):= .cons k hk hi (.nil _)
theorem Walk.back1(k:Int)(hk:S k)(hi:inc l u k=true):Walk l S 1 (nxt l u k) u:=by
 have:=Walk.one (l:=l) (S:=S) (u:=nxt l u k) k hk (aJj hi);rwa [aJk]at this
theorem Walk.symm(h:Walk l S m u v):Walk l S m v u:=by
 induction h with
 |nil=>exact .nil _
 |cons k hk hi h ih=>exact ih.trans (Walk.back1 k hk hi)
theorem Walk.mono(h:Walk l S m u v)(hS:∀k,S k→T k):Walk l T m u v:=by
 induction h with
 |nil=>exact .nil _
 |cons k hk hi h ih=>exact .cons k (hS k hk) hi ih
theorem Conn.refl(l:List (Int×Int))(S:Int→Prop)(u:Int):Conn l S u u:=⟨0,.nil u⟩
theorem Conn.symm(h:Conn l S u v):Conn l S v u:=h.imp fun _ h=>h.symm
theorem Conn.trans(h:Conn l S u v)(h2:Conn l S v x):Conn l S u x:=by
 obtain⟨m,h⟩:=h;obtain⟨j,h2⟩:=h2;exact⟨_,h.trans h2⟩
theorem Conn.edge(k:Int)(hk:S k)(hi:inc l u k=true):Conn l S u (nxt l u k):=⟨1,Walk.one k hk hi⟩
theorem Conn.mono(h:Conn l S u v)(hS:∀k,S k→T k):Conn l T u v:=h.imp fun _ h=>h.mono hS
theorem Conn.keep(h:Conn l S u v)(P:Int→Prop)(hP:∀a k,P a→S k→inc l a k=true→P (nxt l a k))(hu:P u):P v:=by
 obtain⟨m,h⟩:=h;induction h with
 |nil=>exact hu
 |cons k hk hi h ih=>exact ih (hP _ _ hu hk hi)
end
section
variable {n:Nat} {l:List (Int×Int)} {es:List Int} {tq:Int} {far:List Int}
end
def But(l:List (Int×Int))(wo:Int)(k:Int):Prop:=0≤k∧k<l.length∧k≠wo
structure NumO(n:Nat)(l:List (Int×Int))(wo:Int)(i:Nat)(m:Int)(o:List Int):Prop where
 len:o.length=n
 least:∀v:Int,0≤v→v<n→-1≤at_ o v
 le:∀v:Int,0≤v→v<n→at_ o v<m
 low:∀v:Int,0≤v→v<i→0≤at_ o v
 starts:∀c:Int,0≤c→c<m→∃u:Int,0≤u∧u<i∧at_ o u=c
 rg:∀v:Int,0≤v→v<n→∀c:Int,0≤c→c<at_ o v→∃u:Int,0≤u∧u<v∧at_ o u=c
 done:∀v:Int,0≤v→v<n→0≤at_ o v→∀k,But l wo k→inc l v k=true→at_ o (nxt l v k)=at_ o v
 conn:∀u v:Int,0≤u→u<n→0≤v→v<n→0≤at_ o u→at_ o u=at_ o v→Conn l (But l wo) u v
structure NumM(n:Nat)(l:List (Int×Int))(wo:Int)(i:Nat)(m:Int)(o q:List Int):Prop where
 len:o.length=n
 inq:∀x∈q,0≤x∧x<n∧at_ o x=m
 least:∀v:Int,0≤v→v<n→-1≤at_ o v
 le:∀v:Int,0≤v→v<n→at_ o v≤m
 low:∀v:Int,0≤v→v≤i→0≤at_ o v
 starts:∀c:Int,0≤c→c<m→∃u:Int,0≤u∧u<i∧at_ o u=c
 rg:∀v:Int,0≤v→v<n→∀c:Int,0≤c→c<at_ o v→∃u:Int,0≤u∧u<v∧at_ o u=c
 done:∀v:Int,0≤v→v<n→0≤at_ o v→v∉q→∀k,But l wo k→inc l v k=true→at_ o (nxt l v k)=at_ o v
 conn:∀u v:Int,0≤u→u<n→0≤v→v<n→0≤at_ o u→at_ o u=at_ o v→Conn l (But l wo) u v
structure NumA(n:Nat)(l:List (Int×Int))(wo:Int)(i:Nat)(m a:Int)(j:Nat)(o q:List Int):Prop where
 len:o.length=n
 ha:0≤a∧a<n∧at_ o a=m
 hm:0≤m
 inq:∀x∈q,0≤x∧x<n∧at_ o x=m
 least:∀v:Int,0≤v→v<n→-1≤at_ o v
 le:∀v:Int,0≤v→v<n→at_ o v≤m
 low:∀v:Int,0≤v→v≤i→0≤at_ o v
 starts:∀c:Int,0≤c→c<m→∃u:Int,0≤u∧u<i∧at_ o u=c
 rg:∀v:Int,0≤v→v<n→∀c:Int,0≤c→c<at_ o v→∃u:Int,0≤u∧u<v∧at_ o u=c
 done:∀v:Int,0≤v→v<n→0≤at_ o v→v∉q→v≠a→∀k,But l wo k→inc l v k=true→at_ o (nxt l v k)=at_ o v
 some:∀k:Int,But l wo k→k<j→inc l a k=true→at_ o (nxt l a k)=m
 conn:∀u v:Int,0≤u→u<n→0≤v→v<n→0≤at_ o u→at_ o u=at_ o v→Conn l (But l wo) u v
section
variable {n:Nat} {l:List (Int×Int)} {wo m a:Int} {i j:Nat} {o q:List Int}
theorem NumA.seen(h:NumA n l wo i m a j o q)(hv:Valid n l){k:Int}(hb:But l wo k)(hi:inc l a k=true)(h0:0≤at_ o (nxt l a k)):at_ o (nxt l a k)=m:=by
 obtain⟨t0,t1⟩:=vR hv hb.1 hb.2.1 hi;by_cases hq:nxt l a k∈q
 ·exact(h.inq _ hq).2.2
 ·by_cases ha:nxt l a k=a
  ·rw[ha];exact h.ha.2.2
  ·have:=h.done _ t0 t1 h0 hq ha k hb (aJj hi);rw[aJk,h.ha.2.2]at this;exact this.symm
theorem NumA.skip(h:NumA n l wo i m a j o q)(hs:∀k:Int,But l wo k→k=j→inc l a k=true→at_ o (nxt l a k)=m):NumA n l wo i m a (j+1) o q:=by
 refine⟨h.len,h.ha,h.hm,h.inq,h.least,h.le,h.low,h.starts,h.rg,h.done,?_,h.conn⟩;intro k hb hk hi;by_cases e:k=j
 ·exact hs k hb e hi
 ·exact h.some k hb (by omega) hi
theorem NumA.new(h:NumA n l wo i m a j o q)(hv:Valid n l)(hb:But l wo j)(hi:inc l a j=true)(hn:at_ o (nxt l a j)<0):NumA n l wo i m a (j+1) (o.set (nxt l a j).toNat m) (q++[nxt l a j]):=by
 obtain⟨t0,t1⟩:=vR hv hb.1 hb.2.1 hi;obtain⟨ha0,ha1,ha2⟩:=h.ha;have hm:=h.hm;have hlen:=h.len;have hS:∀v,0≤v→at_ (o.set (nxt l a j).toNat m) v=if v=nxt l a j then m else at_ o v:=fun v hv0=>aQp t0 (by omega) hv0;have hold:∀v,0≤v→0≤at_ o v→at_ (o.set (nxt l a j).toNat m) v=at_ o v:=fun v hv0 hv1=>by rw[hS v hv0,if_neg];rintro rfl;omega
 have hSa:=hold a ha0 (by omega);refine⟨by simpa using hlen,⟨ha0,ha1,by rw[hSa];exact ha2⟩,hm,?_,?_,?_,?_,?_,?_,?_,?_,?_⟩
 ·intro x hx;rcases List.mem_append.1 hx with hx|hx
  ·obtain⟨x0,x1,x2⟩:=h.inq x hx;exact⟨x0,x1,by rw[hold x x0 (by omega)];exact x2⟩
  ·simp at hx;subst hx;exact⟨t0,t1,by rw[hS _ t0,if_pos rfl]⟩
 ·intro v v0 v1;rw[hS v v0];split
  ·omega
  ·exact h.least v v0 v1
 ·intro v v0 v1;rw[hS v v0];split
  ·omega
  ·exact h.le v v0 v1
 ·intro v v0 v1;rw[hold v v0 (h.low v v0 v1)];exact h.low v v0 v1
 ·intro c c0 c1;obtain⟨u,u0,u1,u2⟩:=h.starts c c0 c1;exact⟨u,u0,u1,by rw[hold u u0 (by omega)];exact u2⟩
 ·intro v v0 v1 c c0 c1;rw[hS v v0]at c1;split at c1
  ·rename_i e;subst e;obtain⟨u,u0,u1,u2⟩:=h.starts c c0 c1;have hlow:=fun hle=>h.low (nxt l a j) t0 hle;refine⟨u,u0,?_,by rw[hold u u0 (by omega)];exact u2⟩;by_cases hle:nxt l a j≤i
   ·have:=hlow hle;omega
   ·omega
  ·obtain⟨u,u0,u1,u2⟩:=h.rg v v0 v1 c c0 c1;exact⟨u,u0,u1,by rw[hold u u0 (by omega)];exact u2⟩
 ·intro v v0 v1 v2 v3 v4 k hk hik;have hvt:v≠nxt l a j:=fun e=>v3 (by simp[e]);rw[hS v v0,if_neg hvt]at v2⊢;have:=h.done v v0 v1 v2 (fun hm=>v3 (by simp[hm])) v4 k hk hik;rw[hold _ (vR hv hk.1 hk.2.1 hik).1 (by omega)];exact this
 ·intro k hk hkj hik;by_cases e:k=j
  ·subst e;rw[hS _ t0,if_pos rfl]
  ·have:=h.some k hk (by omega) hik;rw[hold _ (vR hv hk.1 hk.2.1 hik).1 (by omega)];exact this
 ·have hta:Conn l (But l wo) a (nxt l a j):=Conn.edge j hb hi;have key:∀x:Int,0≤x→x<n→at_ (o.set (nxt l a j).toNat m) x=m→Conn l (But l wo) a x:=by
   intro x x0 x1 x2;rw[hS x x0]at x2;split at x2
   ·rename_i e;subst e;exact hta
   ·exact h.conn a x ha0 ha1 x0 x1 (by omega) (by omega)
  intro u v u0 u1 v0 v1 h0 huv;by_cases hu:at_ (o.set (nxt l a j).toNat m) u=m
  ·exact(key u u0 u1 hu).symm.trans (key v v0 v1 (by omega))
  ·have hut:u≠nxt l a j:=fun e=>hu (by rw[e,hS _ t0,if_pos rfl]);have hvt:v≠nxt l a j:=fun e=>hu (by rw[huv,e,hS _ t0,if_pos rfl]);rw[hS u u0,if_neg hut]at h0 huv;rw[hS v v0,if_neg hvt]at huv;exact h.conn u v u0 u1 v0 v1 h0 huv
theorem aVv{j:Nat}(hj:j<l.length):bM l j=l[j]:=by simp[bM,hj]
theorem qO(hv:Valid n l):∀(r j:Nat) (o q:List Int),j+r=l.length→NumA n l wo i m a j o q→NumA n l wo i m a l.length (gC wo m a j (l.drop j) o q).1 (gC wo m a j (l.drop j) o q).2
 |0,j,o,q,hj,h=>by
  rw[List.drop_of_length_le (by omega),gC];simp at hj;rw[hj]at h;exact h
 |r+1,j,o,q,hj,h=>by
  have hlt:j<l.length:=by omega
  have he:=aVv hlt;have hinc:inc l a j=true↔(l[j].1=a∨l[j].2=a):=by rw[oE,he]
  have hnx:nxt l a j=l[j].1+l[j].2-a:=by rw[nxt,he]
  rw[List.drop_eq_getElem_cons hlt];by_cases hs:(j:Int)=wo∨(l[j].1≠a∧l[j].2≠a)
  ·rw[sD hs];exact qO hv r (j+1) o q (by omega) (h.skip (by
    intro k hb hk hi;subst hk;rw[hinc]at hi;have:=hb.2.2;omega))
  ·have hb:But l wo j:=⟨by omega,by omega,by omega⟩;have hi:inc l a j=true:=by rw[hinc];omega
   by_cases hn:o.getD (l[j].1+l[j].2-a).toNat 0<0
   ·rw[vP hs hn,←hnx];rw[←hnx]at hn;exact qO hv r (j+1) _ _ (by omega) (h.new hv hb hi hn)
   ·rw[vQ hs hn];rw[←hnx]at hn;exact qO hv r (j+1) o q (by omega) (h.skip (by
     intro k hb' hk hi';subst hk;exact h.seen hv hb' hi' (by unfold at_;omega)))
theorem uI(hv:Valid n l)(hm:0≤m)(ha:0≤a∧a<n):∀(r j:Nat) (o q:List Int),j+r=l.length→o.length=n→(gC wo m a j (l.drop j) o q).2.length+neg (gC wo m a j (l.drop j) o q).1=q.length+neg o
 |0,j,o,q,hj,h=>by rw[List.drop_of_length_le (by omega),gC]
 |r+1,j,o,q,hj,h=>by
  have hlt:j<l.length:=by omega
  have hval:=hv l[j] (List.getElem_mem hlt);rw[List.drop_eq_getElem_cons hlt];by_cases hs:(j:Int)=wo∨(l[j].1≠a∧l[j].2≠a)
  ·rw[sD hs];exact uI hv hm ha r (j+1) o q (by omega) h
  ·by_cases hn:o.getD (l[j].1+l[j].2-a).toNat 0<0
   ·rw[vP hs hn];have h1:=uI hv hm ha r (j+1) (o.set (l[j].1+l[j].2-a).toNat m) (q++[l[j].1+l[j].2-a]) (by omega) (by simpa using h);have h2:=uH (o:=o) (i:=(l[j].1+l[j].2-a).toNat) (m:=m) (by omega) hm hn;simp at h1 h2⊢;omega
   ·rw[vQ hs hn];exact uI hv hm ha r (j+1) o q (by omega) h
theorem NumM.open_(h:NumM n l wo i m o (a::q))(hm:0≤m):NumA n l wo i m a 0 o q:=by
 refine⟨h.len,h.inq a (by simp),hm,fun x hx=>h.inq x (by simp[hx]),h.least,h.le,h.low,h.starts,h.rg,?_,fun k hb hk=>by have:=hb.1;omega,h.conn⟩;intro v v0 v1 v2 v3 v4;exact h.done v v0 v1 v2 (by simp[v3,v4])
theorem NumA.close(h:NumA n l wo i m a l.length o q):NumM n l wo i m o q:=by
 refine⟨h.len,h.inq,h.least,h.le,h.low,h.starts,h.rg,?_,h.conn⟩;intro v v0 v1 v2 v3 k hb hi;by_cases e:v=a
 ·subst e;rw[h.some k hb hb.2.1 hi,h.ha.2.2]
 ·exact h.done v v0 v1 v2 v3 e k hb hi
theorem aJl(hv:Valid n l)(hm:0≤m):∀(f:Nat) (o q:List Int),q.length+neg o<f→NumM n l wo i m o q→NumM n l wo i m (bfs l wo m f o q) []
 |0,_,_,h,_=>by omega
 |f+1,o,[],_,h=>h
 |f+1,o,a::q,hf,h=>by
  rw[bfs];have h1:=qO hv l.length 0 o q (by omega) (h.open_ hm);have h2:=uI (wo:=wo) hv hm ⟨(h.inq a (by simp)).1,(h.inq a (by simp)).2.1⟩ l.length 0 o q (by omega) h.len;simp only[List.drop_zero,Int.natCast_zero]at h1 h2;exact aJl hv hm f _ _ (by simp at hf;omega) h1.close
theorem NumO.begin(h:NumO n l wo i m o)(hi:i<n)(hm:0≤m)(hneg:at_ o i<0):NumM n l wo i m (o.set i m) [(i:Int)]:=by
 have hlen:=h.len;have hS:∀v:Int,0≤v→at_ (o.set i m) v=if v=i then m else at_ o v:=fun v hv0=>by
  have:=aQp (o:=o) (t:=(i:Int)) (v:=v) (m:=m) (by omega) (by omega) hv0;simpa using this
 have hold:∀v:Int,0≤v→0≤at_ o v→at_ (o.set i m) v=at_ o v:=fun v hv0 hv1=>by rw[hS v hv0,if_neg];rintro rfl;omega
 refine⟨by simpa using hlen,?_,?_,?_,?_,?_,?_,?_,?_⟩
 ·intro x hx;simp at hx;subst hx;exact⟨by omega,by omega,by rw[hS _ (by omega),if_pos rfl]⟩
 ·intro v v0 v1;rw[hS v v0];split
  ·omega
  ·exact h.least v v0 v1
 ·intro v v0 v1;rw[hS v v0];split
  ·omega
  ·have:=h.le v v0 v1;omega
 ·intro v v0 v1;rw[hS v v0];split
  ·omega
  ·exact h.low v v0 (by omega)
 ·intro c c0 c1;obtain⟨u,u0,u1,u2⟩:=h.starts c c0 c1;exact⟨u,u0,u1,by rw[hold u u0 (by omega)];exact u2⟩
 ·intro v v0 v1 c c0 c1;rw[hS v v0]at c1;split at c1
  ·obtain⟨u,u0,u1,u2⟩:=h.starts c c0 c1;exact⟨u,u0,by omega,by rw[hold u u0 (by omega)];exact u2⟩
  ·obtain⟨u,u0,u1,u2⟩:=h.rg v v0 v1 c c0 c1;exact⟨u,u0,u1,by rw[hold u u0 (by omega)];exact u2⟩
 ·intro v v0 v1 v2 v3 k hk hik;have hvi:v≠i:=by simpa using v3
  rw[hS v v0,if_neg hvi]at v2⊢;have:=h.done v v0 v1 v2 k hk hik;by_cases hx:0≤nxt l v k
  ·rw[hold _ hx (by omega)];exact this
  ·have e0:(nxt l v k).toNat=0:=by omega
   have hva:at_ (o.set i m) (nxt l v k)=at_ (o.set i m) 0:=by unfold at_;rw[e0];rfl
   have hvb:at_ o (nxt l v k)=at_ o 0:=by unfold at_;rw[e0];rfl
   rw[hva,hold 0 (by omega) (by omega),←hvb];exact this
 ·intro u v u0 u1 v0 v1 h0 huv;rw[hS u u0]at h0 huv;rw[hS v v0]at huv;split at huv
  ·rename_i e1;split at huv
   ·rename_i e2;subst e1;subst e2;exact Conn.refl _ _ _
   ·have:=h.le v v0 v1;omega
  ·rename_i e1;rw[if_neg e1]at h0;split at huv
   ·have:=h.le u u0 u1;omega
   ·exact h.conn u v u0 u1 v0 v1 h0 huv
theorem NumM.finish(h:NumM n l wo i m o [])(hm:0≤m)(_hi:i<n)(hmi:at_ o i=m):NumO n l wo (i+1) (m+1) o:=by
 refine⟨h.len,h.least,fun v v0 v1=>by have:=h.le v v0 v1;omega,fun v v0 v1=>h.low v v0 (by omega),?_,h.rg,fun v v0 v1 v2=>h.done v v0 v1 v2 (by simp),h.conn⟩;intro c c0 c1;by_cases e:c=m
 ·subst e;exact⟨i,by omega,by omega,hmi⟩
 ·obtain⟨u,u0,u1,u2⟩:=h.starts c c0 (by omega);exact⟨u,u0,by omega,u2⟩
theorem oF(m':Int)(x:Int)(hx:0≤m'):∀(k:Int) (l':List (Int×Int)) (o q:List Int),at_ o x=m'→0≤at_ o x→(∀y:Int,y.toNat=x.toNat→at_ o y=at_ o x)→at_ (gC wo m a k l' o q).1 x=m'
 |k,[],o,q,h,_,_=>h
 |k,e::l',o,q,h,h0,hy=>by
  rw[gC];split
  ·exact oF m' x hx _ l' o q h h0 hy
  ·split
   ·rename_i hn;have hne:(e.1+e.2-a).toNat≠x.toNat:=fun e1=>by
     have:=hy _ e1;unfold at_ at this h0;omega
    have hset:∀y:Int,y.toNat=x.toNat→at_ (o.set (e.1+e.2-a).toNat m) y=at_ o y:=fun y e1=>by
     unfold at_;rw[e1];simp[List.getElem?_set_ne hne]
    exact oF m' x hx _ l' _ _ (by rw[hset x rfl];exact h) (by rw[hset x rfl];exact h0) (fun y e1=>by rw[hset y e1,hset x rfl];exact hy y e1)
   ·exact oF m' x hx _ l' o q h h0 hy
theorem aDs(m':Int)(x:Int)(hx:0≤m'):∀(f:Nat) (o q:List Int),at_ o x=m'→at_ (bfs l wo m f o q) x=m'
 |0,_,_,h=>h
 |f+1,o,[],h=>h
 |f+1,o,a::q,h=>by
  rw[bfs];exact aDs m' x hx f _ _ (oF m' x hx 0 l o q h (by omega) (fun y e=>by unfold at_;rw[e]))
theorem sE(hv:Valid n l):∀(r i:Nat) (m:Int) (o:List Int),i+r=n→0≤m→NumO n l wo i m o→∃m',NumO n l wo n m' (outer l wo n r i m o)
 |0,i,m,o,hi,hm,h=>by
  have hin:i=n:=by omega
  subst hin;exact⟨m,by rw[outer];exact h⟩
 |r+1,i,m,o,hi,hm,h=>by
  rw[outer];split
  ·rename_i hn;have hn':at_ o i<0:=by unfold at_;simpa using hn
   have h1:=h.begin (by omega) hm hn';have hneg:=uH (o:=o) (i:=i) (m:=m) (by rw[h.len];omega) hm hn;have hle:=aQn o;rw[h.len]at hle;have h2:=aJl hv hm (n+1) _ _ (by simp;omega) h1;have h3:at_ (bfs l wo m (n+1) (o.set i m) [(i:Int)]) i=m:=aDs m i hm (n+1) _ _ (h1.inq i (by simp)).2.2;exact sE hv r (i+1) (m+1) _ (by omega) (by omega) (h2.finish hm (by omega) h3)
  ·rename_i hn;have hn':0≤at_ o i:=by unfold at_;simp at hn⊢;omega
   exact sE hv r (i+1) m o (by omega) hm ⟨h.len,h.least,h.le,fun v v0 v1=>by
    by_cases e:v=i
    ·subst e;exact hn'
    ·exact h.low v v0 (by omega),fun c c0 c1=>by
    obtain⟨u,u0,u1,u2⟩:=h.starts c c0 c1;exact⟨u,u0,by omega,u2⟩,h.rg,h.done,h.conn⟩
theorem oG(hv:Valid n l):∃m',NumO n l wo n m' (parts n l wo):=by
 refine sE hv n 0 0 _ (by omega) (by omega) ⟨by simp,fun v v0 v1=>by rw[gI v0 v1];omega,fun v v0 v1=>by rw[gI v0 v1];omega,fun v v0 v1=>by omega,fun c c0 c1=>by omega,fun v v0 v1 c c0 c1=>by rw[gI v0 v1]at c1;omega,fun v v0 v1 v2=>by rw[gI v0 v1]at v2;omega,fun u v u0 u1 v0 v1 h0=>by rw[gI u0 u1]at h0;omega⟩
theorem lU(hv:Valid n l){u v:Int}(hu:0≤u∧u<n)(hv':0≤v∧v<n):at_ (parts n l wo) u=at_ (parts n l wo) v↔Conn l (But l wo) u v:=by
 obtain⟨m',h⟩:=oG (wo:=wo) hv;constructor
 ·intro e;exact h.conn u v hu.1 hu.2 hv'.1 hv'.2 (h.low u hu.1 hu.2) e
 ·intro hc;have:=hc.keep (fun x=>0≤x∧x<n∧at_ (parts n l wo) x=at_ (parts n l wo) u) (fun b k ⟨b0,b1,b2⟩ hk hi=>by
   obtain⟨t0,t1⟩:=vR hv hk.1 hk.2.1 hi;exact⟨t0,t1,(h.done b b0 b1 (h.low b b0 b1) k hk hi).trans b2⟩) ⟨hu.1,hu.2,rfl⟩
  exact this.2.2.symm
end
end
section
open Go.RowKit
section
variable {w:World} {g n:Nat} {l:List (Int×Int)} {es:List Int} {tq a:Int} {res:List Int×List Int} {mu j:Nat} {o q:List Int} {v:Value} {wr:World}
end
section
variable {w:World} {g n:Nat} {l:List (Int×Int)} {es far:List Int} {tq a:Int} {res out:List Int} {v:Value} {wr:World}
end
end
section
section
variable {l l':List (Int×Int)} {S T:Int→Prop} {u v:Int}
theorem aMg{k k':Int}(h:bM l k=bM l' k')(a:Int):inc l a k=inc l' a k':=by unfold inc;rw[h]
theorem aMh{k k':Int}(h:bM l k=bM l' k')(a:Int):nxt l a k=nxt l' a k':=by unfold nxt;rw[h]
theorem Conn.carry(hc:Conn l S u v)(hS:∀k,S k→∃k',T k'∧bM l k=bM l' k'):Conn l' T u v:=by
 obtain⟨m,hw⟩:=hc;induction hw with
 |nil=>exact Conn.refl _ _ _
 |cons k hk hi h ih=>
  obtain⟨k',h1,h2⟩:=hS k hk;refine Conn.trans ?_ ih;rw[aMh h2];exact Conn.edge k' h1 (by rw[←aMg h2];exact hi)
theorem Conn.lift(hc:Conn l S u v)(hS:∀k,S k→Conn l T (bM l k).1 (bM l k).2):Conn l T u v:=by
 obtain⟨m,hw⟩:=hc;induction hw with
 |nil=>exact Conn.refl _ _ _
 |@cons m u v k hk hi h ih=>
  refine Conn.trans ?_ ih;have:=hS k hk;rw[oE]at hi;rcases hi with hi|hi
  ·have e:nxt l u k=(bM l k).2:=by unfold nxt;omega
   rw[e,←hi];exact this
  ·have e:nxt l u k=(bM l k).1:=by unfold nxt;omega
   rw[e,←hi];exact this.symm
theorem Conn.ends{k:Int}(hk:S k):Conn l S (bM l k).1 (bM l k).2:=by
 have h:=Conn.edge (l:=l) (S:=S) (u:=(bM l k).1) k hk (by rw[oE];exact .inl rfl);have e:nxt l (bM l k).1 k=(bM l k).2:=by unfold nxt;omega
 rwa [e]at h
end
section
variable {n:Nat} {l:List (Int×Int)}
end
theorem num_unique{n:Nat}{l l':List (Int×Int)}{wo wo':Int}{m m':Int}{o o':List Int}(h:NumO n l wo n m o)(h':NumO n l' wo' n m' o')(_hv:Valid n l)(_hv':Valid n l') (hc:∀u v:Int,0≤u→u<n→0≤v→v<n→(at_ o u=at_ o v↔at_ o' u=at_ o' v)):o=o':=by
 have key:∀(v:Nat),v<n→at_ o v=at_ o' v:=by
  intro v;induction v using Nat.strongRecOn with
  |_ v ih=>
   intro hvn;have hlo:=h.low v (by omega) (by omega);have hlo':=h'.low v (by omega) (by omega);rcases Int.lt_trichotomy (at_ o v) (at_ o' v)with hlt|heq|hgt
   ·obtain⟨u,u0,u1,u2⟩:=h'.rg v (by omega) (by omega) _ hlo hlt;have hu:=ih u.toNat (by omega) (by omega);rw[Int.toNat_of_nonneg u0]at hu;have:=(hc u v u0 (by omega) (by omega) (by omega)).1 (by omega);omega
   ·exact heq
   ·obtain⟨u,u0,u1,u2⟩:=h.rg v (by omega) (by omega) _ hlo' hgt;have hu:=ih u.toNat (by omega) (by omega);rw[Int.toNat_of_nonneg u0]at hu;have:=(hc u v u0 (by omega) (by omega) (by omega)).2 (by omega);omega
 apply List.ext_getElem
 ·rw[h.len,h'.len]
 ·intro i h1 h2;have:=key i (by rw[←h.len];exact h1);unfold at_ at this;simpa[h1,h2]using this
theorem vT{n:Nat}{l l':List (Int×Int)}{wo wo':Int}(hv:Valid n l)(hv':Valid n l')(hc:∀u v:Int,Conn l (But l wo) u v↔Conn l' (But l' wo') u v):parts n l wo=parts n l' wo':=by
 obtain⟨m,h⟩:=oG (wo:=wo) hv;obtain⟨m',h'⟩:=oG (wo:=wo') hv';refine num_unique h h' hv hv' fun u v u0 u1 v0 v1=>?_;rw[lU hv ⟨u0,u1⟩ ⟨v0,v1⟩,lU hv' ⟨u0,u1⟩ ⟨v0,v1⟩];exact hc u v
section
variable {n:Nat} {l:List (Int×Int)}
end
section
variable {n:Nat} {l:List (Int×Int)} {es far:List Int} {tq:Int}
end
section
variable {n:Nat} {l:List (Int×Int)}
def way(n:Nat)(l:List (Int×Int))(k:Nat):List Int:=(bBb n l (bAy n l) (bM l k).2 (bM l k).1).1
end
theorem idxFromS_ge(x:ByteArray):∀(zs:List ByteArray) (i:Nat),Lib.idxFromS zs x i=-1∨((i:Int)≤Lib.idxFromS zs x i∧Lib.idxFromS zs x i<i+zs.length)
 |[],_=> .inl rfl
 |z::zs,i=>by
  rw[Lib.idxFromS];split
  ·right;simp;omega
  ·rcases idxFromS_ge x zs (i+1)with h|h
   ·left;exact h
   ·right;simp;omega
theorem aMi(zs:List ByteArray)(x:ByteArray):Lib.idxOfS zs x=-1∨(0≤Lib.idxOfS zs x∧Lib.idxOfS zs x<zs.length):=by
 have:=idxFromS_ge x zs 0;simpa[Lib.idxOfS]using this
theorem iC{zs:List ByteArray}{x:ByteArray}(h:x∈zs):0≤Lib.idxOfS zs x∧Lib.idxOfS zs x<zs.length:=by
 have h1:=(Lib.containsS_iff zs x).2 h;rw[Lib.containsS,decide_eq_true_eq]at h1;rcases aMi zs x with h2|h2
 ·omega
 ·exact h2
theorem pA{nodes:List ByteArray}{o:Bool}:∀{s:List SwitchD} {i:Nat} {e:(Int×Int)×Int},e∈cK nodes o i s→∃j,∃hj:j<s.length,s[j].opn=o∧e=((Lib.idxOfS nodes s[j].a,Lib.idxOfS nodes s[j].b),((i+j:Nat):Int))
 |[],_,_,h=>by simp[cK]at h
 |x::s,i,e,h=>by
  rw[cK]at h;have more:e∈cK nodes o (i+1) s→∃j,∃hj:j<(x::s).length,(x::s)[j].opn=o∧e=((Lib.idxOfS nodes (x::s)[j].a,Lib.idxOfS nodes (x::s)[j].b),((i+j:Nat):Int)):=by
   intro h;obtain⟨j,hj,h1,h2⟩:=pA h;refine⟨j+1,by simp;omega,by simpa using h1,?_⟩;rw[h2];simp;omega
  split at h
  ·rename_i ho;rcases List.mem_cons.1 h with h|h
   ·exact⟨0,by simp,by simpa using ho,by simpa using h⟩
   ·exact more h
  ·exact more h
theorem tC{n:NetD}(h:VNet n)(o:Bool):Valid n.nodes.length ((gJ n o).map (·.1)):=by
 intro x hx;obtain⟨e,he,rfl⟩:=List.mem_map.1 hx;obtain⟨j,hj,_,rfl⟩:=pA he;obtain⟨ha,hb,_,_⟩:=h.sw _ (List.getElem_mem hj);have h1:=iC ha;have h2:=iC hb;exact⟨h1.1,h1.2,h2.1,h2.2⟩
theorem qP{n:Nat}{l:List (Int×Int)}(hn:n≤24)(hl:l.length≤64)(hv:Valid n l):kH n l=0:=by
 rw[kH,if_neg (by omega),if_pos];rw[List.all_eq_true];intro x hx;have:=hv x hx;simp[okEdge];omega
theorem aMj(n:NetD)(o:Bool):((gJ n o).map (·.1)).length≤n.switches.length:=by
 rw[List.length_map];exact oZ _ _ _ _
theorem aDt{n:NetD}(h:VNet n):aI n=parts n.nodes.length ((gJ n false).map (·.1)) (-1):=by
 have hw:=h.hw;rw[aI,iJ,if_pos (qP h.hn (by have:=aMj n false;omega) (tC h false))]
theorem cE{n:NetD}(h:VNet n):(aI n).length=n.nodes.length:=by rw[aDt h,oD]
theorem tD{n:Nat}{l:List (Int×Int)}(hv:Valid n l)(v:Int)(h0:0≤v)(h1:v<n):0≤at_ (parts n l (-1)) v∧at_ (parts n l (-1)) v<n:=by
 obtain⟨m,hm⟩:=oG (wo:=-1) hv;have a:=hm.low v h0 h1;refine⟨a,?_⟩;have key:∀(k:Nat) (v:Int),0≤v→v≤k→v<n→at_ (parts n l (-1)) v≤v:=by
  intro k;induction k with
  |zero=>
   intro v v0 v1 v2;have:v=0:=by omega
   subst this;rcases Int.lt_or_le 0 (at_ (parts n l (-1)) 0)with h|h
   ·obtain⟨u,u0,u1,_⟩:=hm.rg 0 (by omega) v2 0 (by omega) h;omega
   ·exact h
  |succ k ih=>
   intro v v0 v1 v2;rcases Int.lt_or_le v (at_ (parts n l (-1)) v)with h|h
   ·obtain⟨u,u0,u1,u2⟩:=hm.rg v v0 v2 v v0 h;have:=ih u u0 (by omega) (by omega);omega
   ·exact h
 have:=key v.toNat v h0 (by omega) h1;omega
theorem iY{n:NetD}(h:VNet n)(v:Int)(h0:0≤v)(h1:v<n.nodes.length):0≤at_ (aI n) v∧at_ (aI n) v<n.nodes.length:=by
 rw[aDt h];exact tD (tC h false) v h0 h1
end
section
open Go.RowKit
def fL(l:List Int):Int:=l.foldl (fun m b=>max m (b+1)) 0
def aS(n:NetD):List (Int×Int):=n.branches.map fun b=>(at_ (aI n) (Lib.idxOfS n.nodes b.src),at_ (aI n) (Lib.idxOfS n.nodes b.dst))
def aC(n:NetD):List Int:=(iJ (fL (aI n)) (aS n) [] (parts (fL (aI n)).toNat (aS n) (-1))).1
def aVw(w:World)(bus isl:List Int)(e:Ending)(w':World):Prop:=∃bv iv,e= .returned (.agg #[bv,iv])∧Row w' w.heap.size 3 1 bv bus.length (bus.map I)∧Row w' w.heap.size 3 1 iv isl.length (isl.map I)∧Below w.heap.size w w'
theorem aDu(l:List Int)(N:Int)(_h0:0≤N)(h:∀x∈l,0≤x∧x<N):∀m,0≤m→m≤N→0≤l.foldl (fun m b=>max m (b+1)) m∧l.foldl (fun m b=>max m (b+1)) m≤N:=by
 induction l with
 |nil=>intro m a b;exact⟨a,b⟩
 |cons x l ih=>
  intro m a b;have:=h x (by simp);exact ih (fun y hy=>h y (List.mem_cons_of_mem _ hy)) _ (show 0≤max m (x+1) by omega) (show max m (x+1)≤N by omega)
theorem aMk(l:List Int)(x:Int):fL (l++[x])=max (fL l) (x+1):=by simp[fL]
theorem jK{l:List Int}{N:Int}(h0:0≤N)(h:∀x∈l,0≤x∧x<N):0≤fL l∧fL l≤N:=aDu l N h0 h 0 (by omega) h0
theorem kW{w W1 w2:World}{o:Obj}{base:Nat}{e:TypeId}{sz n:Nat}{v:Value}{xs:List Value}(h:Row w base e sz v n xs)(hg:(W1.alloc o).drew.grownBy w2 v.ownBlock){g o1:Nat}{u:Value} (hc:W1.cell? ⟨g,o1,none⟩=some u)(k:g<base∨w.heap.size≤g):w2.cell? ⟨g,o1,none⟩=some u:=h.cell_far hg ((World.cell?_alloc_lt W1 o ⟨g,o1,none⟩ (World.block_lt_of_cell? W1 _ hc)).trans hc) k
theorem Row.set_away{w:World}{base:Nat}{e:TypeId}{sz n:Nat}{v:Value}{xs:List Value}(h:Row w base e sz v n xs){p:Addr}(hne:∀g,v.ownBlock=some g→g≠p.block)(u:Value):Row (w.setCell p u) base e sz v n xs:=by
 obtain⟨h1,h2⟩:=h;refine⟨h1,h2.imp id ?_⟩;rintro⟨g,off,cap,cur,rfl,hb,hh,r⟩;exact⟨g,off,cap,cur,rfl,hb,hh.far (hne g (by simp[Value.ownBlock])) u,r⟩
structure GetInv(w2:World)(es:List (Int×Int))(k:Nat)(lv:Value)(wr:World):Prop where
 row:Row wr w2.heap.size 43 2 lv (es.take k).length (eD (es.take k))
 below:Below w2.heap.size w2 wr
theorem aJm(n:NetD)(v:NetV)(w:World)(hN:NetIn w n v)(hV:VNet n):Calls Tryz.prog 56 #[v.val n] w (aVw w (aI n) (aC n)):=by
 have hb0:=gX w (Obj.cells (v.parts n) 29) (Obj.cells #[Value.slice none 0 0,Value.slice none 0 0] 33);have hn:=hV.hn;have hw:=hV.hw;have hbr:=hV.hb;have HE:=aH (aMf n v _ (hN.below hb0) (by omega) (by omega));have HB0:=aH hb0;have HN:=aH hN;have HV:=aH hV;have HBX:=aH ((Blk.new w 29 (v.parts n)).alloc (Obj.cells #[Value.slice none 0 0,Value.slice none 0 0] 33));have HRX:Hid (Blk ((w.alloc (Obj.cells (v.parts n) 29)).alloc (Obj.cells #[Value.slice none 0 0,Value.slice none 0 0] 33)) (w.heap.size+1) 33 #[Value.slice none 0 0,Value.slice none 0 0]):=by
  have:=Blk.new (w.alloc (Obj.cells (v.parts n) 29)) 33 #[Value.slice none 0 0,Value.slice none 0 0];rw[World.size_alloc w]at this;exact this
 clear hb0 hN hV;unfold NetV.val NetV.parts at*;obtain⟨ba,hvba⟩:∃ba,v.ba=ba:=⟨_,rfl⟩;rw[hvba]at HE HBX HRX HB0⊢;have HVBA:=aH hvba;clear hvba;go_enter Tryz.func56,Tryz.ntmps56;go_wp2_with fail;refine HE.out.mono ?_;rintro e w1 ⟨bv,rfl,hr1,hb1⟩;have hz1:w.heap.size+1+1≤w1.heap.size:=by have:=hb1.size;simpa using this
 have HBX1:=aH (HBX.out.below hb1 (by simp;omega));have HRX1:=aH (HRX.out.below hb1 (by simp));have HBE:=aH (HB0.out.trans (hb1.mono HB0.out.size));have HR1:=aH (hr1.less (base':=w.heap.size+1+1) (by simp));obtain⟨bA,bc,rfl⟩:=hr1.val;have HBUS:=aH (cE HV.out);have HRG:=aH (iY HV.out);obtain⟨bus,hbus⟩:∃bus,aI n=bus:=⟨_,rfl⟩;have HEQ:=aH hbus;rw[hbus]at HR1 HBUS HRG⊢;clear hbus hr1 hb1 HBX HRX HE;have hbl:bus.length≤24:=by have:=HBUS.out;omega
 go_wp2;have hb2:Below w1.heap.size w1 (w1.alloc (Obj.cells #[Value.slice bA bus.length bc,Value.slice none 0 0] 33)):=(Below.refl _ w1).alloc lR _;have HBX2:=aH (HBX1.out.below hb2 HBX1.out.lt);have HRX2:=aH (HRX1.out.below hb2 HRX1.out.lt);have HBE2:=aH (HBE.out.trans (hb2.mono HBE.out.size));have HR2:=aH (HR1.out.call hb2);have HT2:=aH (Blk.new w1 33 #[Value.slice bA bus.length bc,Value.slice none 0 0]);have HLT:=aH (show bA=none∧bus.length=0∨∃g off,bA=some ⟨g,off,none⟩∧w.heap.size+1+1≤g∧g<w1.heap.size by
  rcases HR1.out.2 with⟨hv,h0⟩|⟨g,off,cap,cur,hv,hb,hh,_⟩
  ·injection hv with hv;exact .inl ⟨hv,h0⟩
  ·injection hv with hv;exact .inr ⟨g,off,hv,hb,hh.lt⟩)
 have hz2:(w1.alloc (Obj.cells #[Value.slice bA bus.length bc,Value.slice none 0 0] 33)).heap.size=w1.heap.size+1:=World.size_alloc _ _;have HZ2:=aH hz2;generalize w1.alloc (Obj.cells #[Value.slice bA bus.length bc,Value.slice none 0 0] 33)=w2 at*;clear hb2 hz2 HBX1 HRX1 HBE HR1 HB0;have HMEM:=aH (show∀x∈bus,0≤x∧x<24 by
  intro x hx;obtain⟨i,hi,rfl⟩:=List.getElem_of_mem hx;have:=HRG.out i (by omega) (by rw[←HBUS.out];omega);simp only[at_,Int.toNat_natCast,gD,gE hi,Option.getD_some]at this;omega)
 go_loopg [4,16] (bus.length-0) (fun r mv iv wr=>∃k:Nat,r=bus.length-k∧iv=I k∧k≤bus.length∧w2=wr∧mv=I (fL (bus.take k)));case atStart=>exact⟨0,rfl,rfl,by omega,rfl,rfl⟩
 case round=>
  obtain⟨k,rfl,rfl,hk,rfl,rfl⟩:=hrel;have hmr:=jK (l:=bus.take k) (N:=24) (by omega) (fun x hx=>HMEM.out x (List.mem_of_mem_take hx));by_cases hlt:k<bus.length
  ·obtain⟨b,off,cap,hv,hbl',hnc,hcs⟩:=HR2.out.ints (by omega);injection hv with hv _ hvc;subst hv hvc;have hc:=hcs k hlt;have hx:=HMEM.out (bus.getD k 0) (by rw[gD,gE hlt];exact List.getElem_mem hlt);have HS:=aH (show fL (bus.take (k+1))=max (fL (bus.take k)) (bus.getD k 0+1) by
    rw[List.take_succ_eq_append_getElem hlt,aMk,gD,gE hlt];rfl)
   obtain⟨hx0,hx1⟩:=hx;obtain⟨hm0,hm1⟩:=hmr;generalize bus.getD k 0=x at*;generalize fL (bus.take k)=m at*;clear hcs;go_wp2;go_roundg (bus.length-(k+1));case measure=>omega
   case rel=>exact⟨k+1,rfl,by go_num,by omega,rfl,by rw[HS.out]⟩
  ·obtain rfl:k=bus.length:=by omega
   rw[List.take_of_length_le lR]at hmr⊢;obtain⟨hm0,hm1⟩:=hmr;have HM:=aH (show fL (aI n)=fL bus by rw[HEQ.out]);generalize fL bus=m at*;have hx2:w2.cell? ⟨w.heap.size,2,none⟩=some (.slice ba n.branches.length v.bc):=HBX2.out.cell 2;go_wp2;have HES:=aH (show(aS n).length=n.branches.length by simp[aS]);have HED:=aH (show∀j (hj:j<n.branches.length),(aS n)[j]?=some (at_ bus (Lib.idxOfS n.nodes n.branches[j].src),at_ bus (Lib.idxOfS n.nodes n.branches[j].dst)) by
    intro j hj;simp[aS,HEQ.out,hj])
   have HISL:=aH (show aC n=(iJ m (aS n) [] (parts m.toNat (aS n) (-1))).1 by rw[aC,HM.out]);obtain⟨es,hes⟩:∃es,aS n=es:=⟨_,rfl⟩;rw[hes]at HES HED HISL;clear hes;go_loopg [7,28] (n.branches.length-0) (fun r lv iv wr=>∃j:Nat,r=n.branches.length-j∧iv=I j∧j≤n.branches.length∧GetInv w2 es j lv wr);case atStart=>exact⟨0,rfl,rfl,by omega,Row.nil _ _ _ _,Below.refl _ _⟩
   case round=>
    obtain⟨j,rfl,rfl,hj,hG⟩:=hrel;obtain⟨wa,rfl⟩:=wE wr;have hza:w2.heap.size≤wa.heap.size:=hG.below.size;have hz2:=HZ2.out;have hlt2:w1.heap.size<w2.heap.size:=by omega
    have hlt3:w1.heap.size<wa.heap.size:=by omega
    have hlt4:w.heap.size<wa.heap.size:=by omega
    clear hz2;have y0:wa.cell? ⟨w.heap.size,0,none⟩=some (.slice v.na n.nodes.length v.nc):=(HBX2.out.below hG.below HBX2.out.lt).cell 0;have y1:wa.cell? ⟨w1.heap.size,0,none⟩=some (.slice bA bus.length bc):=(HT2.out.below hG.below HT2.out.lt).cell 0;by_cases hlt:j<n.branches.length
    ·have hIN:=(HN.out.below HBE2.out).below hG.below;obtain⟨b,off,hba,hbl',hcs⟩:=eQ (f:=BranchD.cells) (sz:=9) (fun _=>rfl) (by omega) hIN.branches hlt;have hmem:=HV.out.br _ (List.getElem_mem hlt);have hed:=HED.out j hlt;obtain⟨g,hg⟩:∃g,n.branches[j]=g:=⟨_,rfl⟩;rw[hg]at hcs hmem hed;clear hg;obtain⟨nm,xa,xb,fx,ft,fs,fl,fo,fh⟩:=g;obtain⟨ha,hb,_,_⟩:=hmem;have ia:=iC ha;have ib:=iC hb;simp only at ha hb ia ib hed;have c0:=hcs 0 _ rfl;have c1:=hcs 1 _ rfl;have c2:=hcs 2 _ rfl;have c3:=hcs 3 _ rfl;have c4:=hcs 4 _ rfl;have c5:=hcs 5 _ rfl;have c6:=hcs 6 _ rfl;have c7:=hcs 7 _ rfl;have c8:=hcs 8 _ rfl;simp only[←Nat.add_assoc,Nat.add_zero]at c0 c1 c2 c3 c4 c5 c6 c7 c8;obtain⟨bb,boff,bcap,hv,hbb,hnc,hbs⟩:=(HR2.out).ints (by have:=HBUS.out;omega);injection hv with hv _ hvc;subst hv hvc;have HNO:=aH hIN.nodes;have HG:=aH hG;have hbb1:bb<w1.heap.size:=by
      rcases HLT.out with⟨h,_⟩|⟨g,off,h,_,h2⟩
      ·cases h
      ·injection h with h;injection h with h;omega
     have hbln:=HBUS.out;have ia1:Lib.idxOfS n.nodes xa<bus.length:=by omega
     have ib1:Lib.idxOfS n.nodes xb<bus.length:=by omega
     have ia0:=ia.1;have ib0:=ib.1;have z0:wa.cell? ⟨bb,boff+(Lib.idxOfS n.nodes xa).toNat,none⟩=some (I (at_ bus (Lib.idxOfS n.nodes xa))):=by
      rw[hG.below.cell (p:=⟨bb,_,none⟩) (by simp;omega)];exact hbs _ (by omega)
     have z1:wa.cell? ⟨bb,boff+(Lib.idxOfS n.nodes xb).toNat,none⟩=some (I (at_ bus (Lib.idxOfS n.nodes xb))):=by
      rw[hG.below.cell (p:=⟨bb,_,none⟩) (by simp;omega)];exact hbs _ (by omega)
     have HED1:=aH hed;have hba2:=HVBA.out.symm.trans hba;subst hba2;clear hba hcs hIN hG hbs ia ib ha hb hed hbln;go_wp2;have al:∀{g o:Nat} {u:Value},wa.cell? ⟨g,o,none⟩=some u→(wa.alloc (Obj.cells #[Value.string nm,Value.string xa,Value.string xb,Value.int IntKind.i64 fx,Value.int IntKind.i64 ft,Value.int IntKind.i64 fs,Value.int IntKind.i64 fl,Value.int IntKind.i64 fo,Value.int IntKind.i64 fh] 41)).cell? ⟨g,o,none⟩=some u:=fun hc=>(World.cell?_alloc_lt wa _ _ (World.block_lt_of_cell? wa _ hc)).trans hc;have hx0:=al y0;have hx1:=al y1;have hx2:(wa.alloc (Obj.cells #[Value.string nm,Value.string xa,Value.string xb,Value.int IntKind.i64 fx,Value.int IntKind.i64 ft,Value.int IntKind.i64 fs,Value.int IntKind.i64 fl,Value.int IntKind.i64 fo,Value.int IntKind.i64 fh] 41)).cell? ⟨wa.heap.size,1,none⟩=some (.string xa):=(Blk.new wa 41 _).cell 1;have hx3:(wa.alloc (Obj.cells #[Value.string nm,Value.string xa,Value.string xb,Value.int IntKind.i64 fx,Value.int IntKind.i64 ft,Value.int IntKind.i64 fs,Value.int IntKind.i64 fl,Value.int IntKind.i64 fo,Value.int IntKind.i64 fh] 41)).cell? ⟨wa.heap.size,2,none⟩=some (.string xb):=(Blk.new wa 41 _).cell 2;have hx4:=al z0;have hx5:=al z1;have HL:=aH (HG.out.row.alloc (Obj.cells #[Value.string nm,Value.string xa,Value.string xb,Value.int IntKind.i64 fx,Value.int IntKind.i64 ft,Value.int IntKind.i64 fs,Value.int IntKind.i64 fl,Value.int IntKind.i64 fo,Value.int IntKind.i64 fh] 41));have HLA:=aH HG.out.row;have HBE3:=aH (HG.out.below.alloc hza (Obj.cells #[Value.string nm,Value.string xa,Value.string xb,Value.int IntKind.i64 fx,Value.int IntKind.i64 ft,Value.int IntKind.i64 fs,Value.int IntKind.i64 fl,Value.int IntKind.i64 fo,Value.int IntKind.i64 fh] 41));have HNO2:=aH (HNO.out.below (w':=wa.alloc (Obj.cells #[Value.string nm,Value.string xa,Value.string xb,Value.int IntKind.i64 fx,Value.int IntKind.i64 ft,Value.int IntKind.i64 fs,Value.int IntKind.i64 fl,Value.int IntKind.i64 fo,Value.int IntKind.i64 fh] 41)) ((Below.refl _ wa).alloc lR _));have hsz:(wa.alloc (Obj.cells #[Value.string nm,Value.string xa,Value.string xb,Value.int IntKind.i64 fx,Value.int IntKind.i64 ft,Value.int IntKind.i64 fs,Value.int IntKind.i64 fl,Value.int IntKind.i64 fo,Value.int IntKind.i64 fh] 41)).heap.size=wa.heap.size+1:=World.size_alloc _ _;have hsz1:wa.heap.size<(wa.alloc (Obj.cells #[Value.string nm,Value.string xa,Value.string xb,Value.int IntKind.i64 fx,Value.int IntKind.i64 ft,Value.int IntKind.i64 fs,Value.int IntKind.i64 fl,Value.int IntKind.i64 fo,Value.int IntKind.i64 fh] 41)).heap.size:=by omega
     have hsz2:w.heap.size<(wa.alloc (Obj.cells #[Value.string nm,Value.string xa,Value.string xb,Value.int IntKind.i64 fx,Value.int IntKind.i64 ft,Value.int IntKind.i64 fs,Value.int IntKind.i64 fl,Value.int IntKind.i64 fo,Value.int IntKind.i64 fh] 41)).heap.size:=by omega
     have hsz3:w1.heap.size<(wa.alloc (Obj.cells #[Value.string nm,Value.string xa,Value.string xb,Value.int IntKind.i64 fx,Value.int IntKind.i64 ft,Value.int IntKind.i64 fs,Value.int IntKind.i64 fl,Value.int IntKind.i64 fo,Value.int IntKind.i64 fh] 41)).heap.size:=by omega
     generalize wa.alloc (Obj.cells #[Value.string nm,Value.string xa,Value.string xb,Value.int IntKind.i64 fx,Value.int IntKind.i64 ft,Value.int IntKind.i64 fs,Value.int IntKind.i64 fl,Value.int IntKind.i64 fo,Value.int IntKind.i64 fh] 41)=W1 at*;clear al hsz HG HNO y0 y1 z0 z1 c0 c1 c2 c3 c4 c5 c6 c7 c8;obtain⟨i0,hi0,hz0,hz1',hz2'⟩:=info_parts Tryz.info43;have HI0:=aH hi0;have HZ0:=aH hz0;have HZ1:=aH hz1';have HZ2':=aH hz2';clear hi0 hz0 hz1' hz2';have htl:(es.take j).length≤24:=by have:=HES.out;simp;omega
     obtain⟨t,ht⟩:∃t,es.take j=t:=⟨_,rfl⟩;have HTK:=aH (show es.take (j+1)=t++[(at_ bus (Lib.idxOfS n.nodes xa),at_ bus (Lib.idxOfS n.nodes xb))] by
      rw[List.take_add_one,HED1.out,ht];rfl)
     rw[ht]at HL HLA htl;clear ht HED1;go_region_held3 (fun w'=>w'.cell? ⟨w.heap.size,0,none⟩=some (.slice v.na n.nodes.length v.nc)∧w'.cell? ⟨w1.heap.size,0,none⟩=some (.slice (some ⟨bb,boff,none⟩) bus.length bc)∧w'.cell? ⟨wa.heap.size,1,none⟩=some (.string xa)∧w'.cell? ⟨wa.heap.size,2,none⟩=some (.string xb)∧w'.cell? ⟨bb,boff+(Lib.idxOfS n.nodes xa).toNat,none⟩=some (I (at_ bus (Lib.idxOfS n.nodes xa)))∧w'.cell? ⟨bb,boff+(Lib.idxOfS n.nodes xb).toNat,none⟩=some (I (at_ bus (Lib.idxOfS n.nodes xb)))) (first|(with_reducible exact⟨hx0,hx1,hx2,hx3,hx4,hx5⟩)|(with_reducible exact HX.out)|go_keep)
      (first|(go_at_call 18;refine(kV n.nodes _ v.na v.nc _ _ _ rfl HNO2.out.drew (by omega)).mono ?_;rintro e w' ⟨rfl,rfl⟩)|(refine kU (by rfl) _ _ 39 (by rfl) w2.heap.size 43 i0 _ 2 16 Tryz.underlying39 HI0.out HZ0.out HZ1.out HZ2'.out rfl (by decide) u7 t.length (eD t) (by rfl) (HL.out.alloc _).drew (W1.heap.size+1) (some ⟨W1.heap.size,0,none⟩) 1 1 [I (at_ bus (Lib.idxOfS n.nodes xa)),I (at_ bus (Lib.idxOfS n.nodes xb))] (by rfl) (tB W1 43 _ _) (by simp[Value.oneCell']) (by unfold maxLen;omega) (by omega) (by simp;omega) ?_;intro v' w3 hr3 hg3;have HX:=aH (show _∧_∧_∧_∧_∧_ from⟨kW HLA.out hg3 hx0 (by omega),kW HLA.out hg3 hx1 (by omega),kW HLA.out hg3 hx2 (by omega),kW HLA.out hg3 hx3 (by omega),kW HLA.out hg3 hx4 (by omega),kW HLA.out hg3 hx5 (by omega)⟩)))
     have hR1:=(HL.out.alloc (Obj.cells #[I (at_ bus (Lib.idxOfS n.nodes xa)),I (at_ bus (Lib.idxOfS n.nodes xb))] 43)).drew;have HBE4:=aH (((HBE3.out.alloc (by omega) (Obj.cells #[I (at_ bus (Lib.idxOfS n.nodes xa)),I (at_ bus (Lib.idxOfS n.nodes xb))] 43)).drew).trans (hR1.belowG hg3 (by simp;omega)));have HRO:Hid (Row w3 w2.heap.size 43 2 v' (es.take (j+1)).length (eD (es.take (j+1)))):=by
      rw[HTK.out,List.length_append,←tA];exact hr3
     clear hR1 hg3 hr3 HX hx0 hx1 hx2 hx3 hx4 hx5 HL HLA HBE3;go_wp2;go_roundg (n.branches.length-(j+1));case measure=>omega
     case rel=>exact⟨j+1,rfl,by go_num,by omega,HRO.out,HBE4.out⟩
    ·obtain rfl:j=n.branches.length:=by omega
     have htk:es.take n.branches.length=es:=List.take_of_length_le (by rw[HES.out];exact Nat.le_refl _);have hrow:=hG.row;rw[htk]at hrow;obtain⟨A,c,rfl⟩:=hrow.val;have hel:es.length≤24:=by have:=HES.out;omega
     have hcap:es.length≤c:=by
      rcases hrow.2 with⟨hv,h0⟩|⟨g,off,cap,cur,hv,_,_,hnc,_⟩
      ·omega
      ·injection hv with _ _ h3;omega
     have HC:=aH (nD m es A c wa ⟨hrow.reads,by omega,by omega,by omega,hcap⟩);have HBW:=aH hG.below;clear htk hrow hG y0 y1 hcap;go_wp2_with fail;refine HC.out.mono ?_;rintro e w3 ⟨iv,rfl,hr3,hb3⟩;obtain⟨iA,ic,rfl⟩:=hr3.val;have hbt:=HBW.out.trans (hb3.mono HBW.out.size);have hT3:=HT2.out.below hbt HT2.out.lt;have hR3:=HRX2.out.below hbt HRX2.out.lt;have t0:=hT3.cell 0;have t1:=hT3.cell 1;have f0:=hT3.frozen 0;have f1:=hT3.frozen 1;have r0:=hR3.cell 0;have r1:=hR3.cell 1;have g0:=hR3.frozen 0;have g1:=hR3.frozen 1;have hs3:=hb3.size;have hne:w.heap.size+1≠w1.heap.size:=by omega
     have HBUS3:=aH ((HR2.out.keep (w':=w3) fun g hg hg2=>(hbt.block g hg2)));have HISL3:=aH hr3;have HBE5:=aH (HBE2.out.trans (hbt.mono HBE2.out.size));have hs0:(w.heap.size==w1.heap.size)=false:=beq_eq_false_iff_ne.2 (by omega);clear hbt hT3 hR3 hr3 hb3 HC;go_wp2;obtain⟨isl,hisl⟩:∃isl,(iJ m es [] (parts m.toNat es (-1))).1=isl:=⟨_,rfl⟩;rw[hisl]at HISL HISL3⊢;have hbo:∀g,(Value.slice bA bus.length bc).ownBlock=some g→w.heap.size+1+1≤g∧g<w1.heap.size:=by
      intro g hg;rcases HLT.out with⟨h,_⟩|⟨g',off,h,h1,h2⟩
      ·subst h;simp[Value.ownBlock]at hg
      ·subst h;simp[Value.ownBlock]at hg;omega
     have hio:∀g,(Value.slice iA isl.length ic).ownBlock=some g→wa.heap.size≤g:=fun g hg=>(HISL3.out.own_block hg).1;have hin:=HISL3.out.less (base':=w.heap.size) (by omega);refine bodyPost_ret (v:= .agg #[Value.slice bA bus.length bc,Value.slice iA isl.length ic]) (by simp[results,go_sem,r0,r1]) rfl ?_;rw[HEQ.out,HISL.out];refine⟨_,_,rfl,?_,?_,?_⟩
     ·exact(((HBUS3.out.set_away (fun g hg=>by have:=hbo g hg;simp;omega) _).set_away (fun g hg=>by have:=hbo g hg;simp;omega) _).set_away (fun g hg=>by have:=hbo g hg;simp;omega) _).less (by omega)
     ·exact((hin.set_away (fun g hg=>by have:=hio g hg;simp;omega) _).set_away (fun g hg=>by have:=hio g hg;simp;omega) _).set_away (fun g hg=>by have:=hio g hg;simp;omega) _
     ·exact((HBE5.out.setCell (by simp;omega) _).setCell (by simp) _).setCell (by simp) _
theorem Reads.int_at{w:World}{B n:Nat}{A:Option Addr}{xs:List Int}(h:Reads w B 1 A n (xs.map I)){k:Nat}(hk:k<n):∃b off,A=some ⟨b,off,none⟩∧b<B∧w.cell? ⟨b,off+k,none⟩=some (I (xs.getD k 0)):=by
 obtain⟨b,off,u,e,hb,hu,hc⟩:=h.at1 hk;refine⟨b,off,e,hb,?_⟩;have hl:xs.length=n:=by have:=h.1;simpa using this
 rw[hc,gD];rw[List.getElem?_map]at hu;have:xs[k]?=some (xs[k]'(by omega)):=gE (by omega);rw[this]at hu⊢;simp at hu;rw[←hu];rfl
theorem aBj:∀(l:List Int) (m:Int),m≤l.foldl (fun m b=>max m (b+1)) m∧∀x∈l,x+1≤l.foldl (fun m b=>max m (b+1)) m
 |[],m=>⟨Int.le_refl _,by simp⟩
 |y::l,m=>by
  obtain⟨h1,h2⟩:=aBj l (max m (y+1));refine⟨?_,fun x hx=>?_⟩
  ·show m≤l.foldl (fun m b=>max m (b+1)) (max m (y+1));omega
  ·show x+1≤l.foldl (fun m b=>max m (b+1)) (max m (y+1));rcases List.mem_cons.1 hx with rfl|hx
   ·omega
   ·exact h2 x hx
theorem aBk{l:List Int}{x:Int}(h:x∈l):x+1≤fL l:=(aBj l 0).2 x h
theorem nE(l:List Int):0≤fL l:=(aBj l 0).1
theorem aBl{l:List Int}{v:Int}(h0:0≤v)(h1:v<l.length):at_ l v∈l:=by
 have hv:v.toNat<l.length:=by omega
 rw[at_,gD,gE hv];exact List.getElem_mem hv
theorem fA{n:NetD}(h:VNet n):Valid (fL (aI n)).toNat (aS n):=by
 have hl:=cE h;intro x hx;obtain⟨b,hb,rfl⟩:=List.mem_map.1 hx;obtain⟨ha,hd,_,_⟩:=h.br b hb;have ia:=iC ha;have ib:=iC hd;have ra:=iY h _ ia.1 ia.2;have rb:=iY h _ ib.1 ib.2;have ma:=aBk (aBl (l:=aI n) ia.1 (by omega));have mb:=aBk (aBl (l:=aI n) ib.1 (by omega));have:=nE (aI n);simp only;omega
theorem sF{n:NetD}(h:VNet n):∀x∈aI n,0≤x∧x<24:=by
 intro x hx;obtain⟨i,hi,rfl⟩:=List.getElem_of_mem hx;have hl:=cE h;have:=iY h i (by omega) (by omega);have hn:=h.hn;simp only[at_,Int.toNat_natCast,gD,gE hi,Option.getD_some]at this;omega
theorem vU{n:NetD}(h:VNet n):aC n=parts (fL (aI n)).toNat (aS n) (-1):=by
 have hm:=jK (l:=aI n) (N:=24) (by omega) (sF h);have hb:=h.hb;have hc:=qP (n:=(fL (aI n)).toNat) (l:=aS n) (by omega) (by simp[aS];omega) (fA h);rw[Int.toNat_of_nonneg hm.1]at hc;rw[aC,iJ,if_pos hc]
theorem aBm{n:NetD}(h:VNet n):((aC n).length:Int)=fL (aI n):=by
 rw[vU h,oD];have:=nE (aI n);omega
theorem zG{n:NetD}(h:VNet n):∀x∈aC n,0≤x∧x<24:=by
 have hm:=jK (l:=aI n) (N:=24) (by omega) (sF h);intro x hx;obtain⟨i,hi,rfl⟩:=List.getElem_of_mem hx;have hl:=aBm h;have hr:=tD (fA h) i (by omega) (by omega);rw[←vU h]at hr;simp only[at_,Int.toNat_natCast,gD,gE hi,Option.getD_some]at hr;omega
theorem iK{n:NetD}(h:VNet n):(aC n).length≤24:=by
 have hm:=jK (l:=aI n) (N:=24) (by omega) (by
  intro x hx;obtain⟨i,hi,rfl⟩:=List.getElem_of_mem hx;have hl:=cE h;have:=iY h i (by omega) (by omega);have hn:=h.hn;simp only[at_,Int.toNat_natCast,gD,gE hi,Option.getD_some]at this;omega)
 rw[aC,iJ];split
 ·simp only[oD];omega
 ·simp
def gN:List Int→List Int→Int→Int
 |k::ks,v::vs,x=>(if k=x then v else 0)+gN ks vs x
 |_,_,_=>0
theorem zH:∀(ks vs:List Int) (k v x:Int),ks.length=vs.length→gN (ks++[k]) (vs++[v]) x=gN ks vs x+if k=x then v else 0
 |[],[],k,v,x,_=>by simp[gN]
 |[],_::_,_,_,_,h=>by simp at h
 |_::_,[],_,_,_,h=>by simp at h
 |a::ks,b::vs,k,v,x,h=>by
  have ih:=zH ks vs k v x (by simpa using h);simp only[List.cons_append,gN,ih];omega
theorem zI:∀(ks vs:List Int) (x:Int),x∉ks→gN ks vs x=0
 |[],_,_,_=>by simp[gN]
 |_::_,[],_,_=>by simp[gN]
 |a::ks,b::vs,x,h=>by
  rw[gN,if_neg (fun e=>h (by rw[e];exact List.mem_cons_self)),zI ks vs x fun k=>h (List.mem_cons_of_mem _ k)];rfl
theorem vV:∀(ks vs:List Int) (x:Int),(∀v∈vs,-100000≤v∧v≤100000)→-(100000*(ks.length:Int))≤gN ks vs x∧gN ks vs x≤100000*(ks.length:Int)
 |[],_,_,_=>by simp[gN]
 |_::ks,[],_,_=>by
  rw[gN]
  ·simp only[List.length_cons];omega
  ·intros;contradiction
 |a::ks,b::vs,x,h=>by
  have ih:=vV ks vs x fun v hv=>h v (List.mem_cons_of_mem _ hv);have hb:=h b List.mem_cons_self;rw[gN];simp only[List.length_cons];split<;>omega
def vW(p:Int):Bool:=decide (p< -100000)||decide (100000<p)
def nF(n:NetD)(i:Nat):Int:=at_ (aC n) (at_ (aI n) i)
def dS(n:NetD):List Int:=(List.range n.nodes.length).map (nF n)
def aU(n:NetD)(inj:List Int):Int:=if aX n≠0 then aX n else if inj.length≠n.nodes.length then 3 else if inj.any vW=true then 4 else if(dS n).all (fun k=>gN (dS n) inj k==0)=true then 0 else 14
theorem sG(n:NetD):(dS n).length=n.nodes.length:=by simp[dS]
theorem aMl{n:NetD}{i:Nat}(h:i<n.nodes.length):(dS n)[i]?=some (nF n i):=by simp[dS,h]
theorem aGy{n:NetD}{i:Nat}(h:i<n.nodes.length):(dS n).take (i+1)=(dS n).take i++[nF n i]:=by
 rw[List.take_add_one,aMl h];rfl
theorem aBn{n:NetD}(h:VNet n){i:Nat}(hi:i<n.nodes.length):0≤at_ (aI n) i∧at_ (aI n) i<(aC n).length:=by
 have hl:=cE h;have h1:=aBl (l:=aI n) (v:=i) (by omega) (by omega);have h2:=sF h _ h1;have h3:=aBk h1;have h4:=aBm h;omega
theorem aYz{n:NetD}(h:VNet n){i:Nat}(hi:i<(aC n).length):0≤at_ (aC n) i∧at_ (aC n) i<24:=zG h _ (aBl (by omega) (by omega))
theorem aZa{n:NetD}(h:VNet n){i:Nat}(hi:i<n.nodes.length):0≤nF n i∧nF n i<24:=by
 have h1:=aBn h hi;have h2:=aYz h (i:=(at_ (aI n) i).toNat) (by omega);rw[Int.toNat_of_nonneg h1.1]at h2;exact h2
end
end Go.Proofs.YtenbglfkdldheaaGreatDoor
