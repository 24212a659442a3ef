/- Appends to rows of values that are no words, at any type. flow.Of: the lists of a model. Sizes in the eliminations of an inverse and of a solution: plain facts. flow: place, invert. -/
import Derived.Test.YtenbglfkdldheaaGreatDoorUFA
import Derived.Test.YtenbglfkdldheaaGreatDoorUSE
set_option maxRecDepth 100000
set_option maxHeartbeats 40000000
namespace Go.Proofs.YtenbglfkdldheaaGreatDoor
section
open Go.RowKit
structure AppT(t e:TypeId):Prop where
 und:Tryz.prog.underlying t=some (.slice e)
 inf:∃i z bytes,Tryz.prog.info? e=some i∧i.zero=some z∧i.size=1∧i.bytes=bytes∧bytes≤1000∧z.cells.size=1∧∀n,∀u∈(Builtin.zeroCells z.cells n).toList,noWord u
theorem aIv{t e:TypeId}(h:AppT t e)(w:World)(base:Nat)(ty:TypeId)(v:Value)(xs:List Value)(hr:NRow w base e v xs)(A:Option Addr)(m c:Nat)(news:List Value)(hs:Reads w w.heap.size 1 A m news)(hl:∀u∈news,noWord u∧u.oneCell'=true) (hlen:xs.length+m≤1000000)(hbase:base≤w.heap.size):∃v' w',(Builtin.append_ #[t,t] ty #[v,.slice A m c]).run Tryz.prog w= .ok v' w'∧NApd w base e v (xs++news) v' w':=by
 obtain⟨i,z,bytes,h1,h2,h3,h4,h5,h6,h7⟩:=h.inf;have hb:(xs.length+m)*bytes≤1000000*1000:=Nat.mul_le_mul hlen h5;exact pF (P:=Tryz.prog) w base t ty e i z bytes h.und h1 h2 h3 h4 h6 h7 v xs hr w.heap.size A m c news hs hl (by unfold maxLen;omega) (by omega) hbase
theorem sZ{w:World}{ops:Array Oper}{rest:List Oper}{o:Oper}{a:Act}{Q:Exit→Act→World→Prop}(hgd:o.guard=none)(s x:Operand){t e:TypeId}(h:AppT t e) (ho:o.op= .call {callee:= .builtin .append,args:=#[s,x],argTypes:=#[t,t]})(base:Nat)(v:Value)(xs:List Value)(hsv:a.eval s=v)(hr:NRow w base e v xs)
  (A:Option Addr)(m c:Nat)(hx:a.eval x= .slice A m c)(news:List Value)(hs:Reads w w.heap.size 1 A m news)(hl:∀u∈news,noWord u∧u.oneCell'=true)(hlen:xs.length+m≤1000000)(hbase:base≤w.heap.size)
  (hk:∀v' w',NApd w base e v (xs++news) v' w'→wpList Tryz.prog ops Q rest (a.put o.dst v') w'):wpList Tryz.prog ops Q (o::rest) a w:=by
 refine wpList_plain hgd fun K hK=>?_;obtain⟨v',w',hrun,hap⟩:=aIv h w base o.type v xs hr A m c news hs hl hlen hbase;unfold Oper.wp execOp;simp only[ho,resolve,invoke,builtin,Sem.run_bind,Sem.run_pure,Result.andThen_ok,List.map_toArray,List.map_cons,List.map_nil,hsv,hx,hrun];exact hK _ _ (hk v' w' hap)
theorem yY{w:World}{ops:Array Oper}{o:Oper}{a:Act}{K:Act→World→Prop}{Q:Exit→Act→World→Prop}{E:Prop}(hgd:o.guard=none)(s x:Operand){t e:TypeId}(h:AppT t e) (ho:o.op= .call {callee:= .builtin .append,args:=#[s,x],argTypes:=#[t,t]})(base:Nat)(v:Value)(xs:List Value)(hsv:a.eval s=v)(hr:NRow w base e v xs)
  (A:Option Addr)(m c:Nat)(hx:a.eval x= .slice A m c)(news:List Value)(hs:Reads w w.heap.size 1 A m news)(hl:∀u∈news,noWord u∧u.oneCell'=true)(hlen:xs.length+m≤1000000)(hbase:base≤w.heap.size)
  (hk:∀v' w',NApd w base e v (xs++news) v' w'→K (a.put o.dst v') w'):if Region.wanted o (yielded ops a.tmps)=true then Oper.wp Tryz.prog o a w K Q else E:=by
 have hw:Region.wanted o (yielded ops a.tmps)=true:=by simp[Region.wanted,hgd]
 rw[if_pos hw];obtain⟨v',w',hrun,hap⟩:=aIv h w base o.type v xs hr A m c news hs hl hlen hbase;unfold Oper.wp execOp;simp only[ho,resolve,invoke,builtin,Sem.run_bind,Sem.run_pure,Result.andThen_ok,List.map_toArray,List.map_cons,List.map_nil,hsv,hx,hrun];exact hk v' w' hap
theorem aAs{z:Value}(hz:z.cells=#[z])(hn:noWord z)(n:Nat):∀u∈(Builtin.zeroCells z.cells n).toList,noWord u:=by
 intro u hu;unfold Builtin.zeroCells at hu;rw[Array.toList_map,List.mem_map]at hu;obtain⟨i,_,rfl⟩:=hu;rw[hz];have h1:(#[z]:Array Value).size=1:=rfl;rw[h1,Nat.mod_one];exact hn
theorem NApd.below{w w':World}{base:Nat}{e:TypeId}{v v':Value}{xs ys:List Value}(h:NApd w base e v ys v' w')(hr:NRow w base e v xs)(hb:base≤w.heap.size):Below base w w':=hr.row.belowG h.grown hb
theorem oA(w:World)(t:TypeId)(u:Value):Reads (w.alloc (.cells #[u] t)) (w.alloc (.cells #[u] t)).heap.size 1 (some ⟨w.heap.size,0,none⟩) 1 [u]:=by
 have h:=wY w t [u];rw[World.size_alloc];exact h
end
section
open Go.RowKit Go.Maps
def aP(n:NetD)(x:ByteArray):Int:=at_ (aI n) (Lib.idxOfS n.nodes x)
def bB(n:NetD):List Int:=n.branches.map fun b=>aP n b.src
def toL(n:NetD):List Int:=n.branches.map fun b=>aP n b.dst
def bQ(b:BranchD):Rat:=Rat.divInt 1000000 (b.x*b.tap)
def cQ(b:BranchD):Rat:=bQ b*Rat.divInt (-b.shift) 1000
def bLQ(n:NetD):List Rat:=n.branches.map bQ
def cLQ(n:NetD):List Rat:=n.branches.map cQ
def fV(isl:List Int):Nat→List Int
 |0=>[]
 |k+1=>fV isl k++(if(isl.take k).contains (isl.getD k 0)=true then[(k:Int)]else[])
def aF(n:NetD):List Int:=fV (aC n) (aC n).length
def isO(bus isl frm tu free:List Int):Nat→List Int
 |0=>bus
 |1=>isl
 |2=>frm
 |3=>tu
 |4=>free
 |_=>[]
def tsO(b c:List Rat):Nat→List Rat
 |0=>b
 |1=>c
 |_=>[]
theorem bBv(bus isl frm tu free x:List Int):fJ (isO bus isl frm tu free) 2 x=isO bus isl x tu free:=by
 funext j;match j with
 |0=>rfl
 |1=>rfl
 |2=>rfl
 |3=>rfl
 |4=>rfl
 |j+5=>rfl
theorem bBw(bus isl frm tu free x:List Int):fJ (isO bus isl frm tu free) 3 x=isO bus isl frm x free:=by
 funext j;match j with
 |0=>rfl
 |1=>rfl
 |2=>rfl
 |3=>rfl
 |4=>rfl
 |j+5=>rfl
theorem bBx(bus isl frm tu free x:List Int):fJ (isO bus isl frm tu free) 4 x=isO bus isl frm tu x:=by
 funext j;match j with
 |0=>rfl
 |1=>rfl
 |2=>rfl
 |3=>rfl
 |4=>rfl
 |j+5=>rfl
theorem bBy(b c x:List Rat):fJ (tsO b c) 0 x=tsO x c:=by
 funext j;match j with
 |0=>rfl
 |1=>rfl
 |j+2=>rfl
theorem bBz(b c x:List Rat):fJ (tsO b c) 1 x=tsO b x:=by
 funext j;match j with
 |0=>rfl
 |1=>rfl
 |j+2=>rfl
theorem aLl:(Tryz.prog.info? kO).map (fun i=>(i.zero,i.size,i.bytes))=some (some (I 0),1,8):=by kernel_rfl
theorem tZ:AppT 31 kO:=⟨Tryz.underlying31,by
 obtain⟨i,hi,hz0,hz1,hz2⟩:=info_parts aLl;exact⟨i,_,_,hi,hz0,hz1,hz2,by omega,rfl,aAs rfl (fun m e=>by cases e)⟩⟩
def SeenI(w:World)(b:Nat)(ss:List Int):Prop:=∃D:DataW Unit,w.ownsMap Tryz.prog kO (plainElem Tryz.prog 4) b ss.length D∧IsMap D∧∀s:Int,D.atKey (.int .i64 s) (.lit (.bool false))= .lit (.bool (ss.contains s))
theorem aYj(w:World):(zeroValue 4).run Tryz.prog w= .ok (.bool false) w:=by kernel_rfl
theorem SeenI.made(w:World):SeenI (w.alloc (.map #[] 0)) w.heap.size []:=⟨.map [],World.ownsMap_made w _ _ _,⟨_,rfl⟩,fun _=>rfl⟩
theorem SeenI.lookup{w:World}{b:Nat}{ss:List Int}(h:SeenI w b ss)(s:Int)(h0:-9223372036854775808≤s)(h1:s≤9223372036854775807): (Instr.lookup 207 (.map (some b)) (I s) false).run Tryz.prog w= .ok (.bool (ss.contains s)) w:=by
 obtain⟨D,g1,g2,g3⟩:=h;obtain⟨v,ps,hrun,hv⟩:=g1.lookup rY Tryz.underlying207 (aYj w) (plainElem_bool Tryz.underlying4 false) (keyOf_int_mk Tryz.underlying3 (aPe h0 h1));obtain⟨x,rfl,hx⟩:=nK Tryz.underlying4 hv;rw[g3 s]at hx;have hx1:ss.contains s=x:=by
  simp at hx;simpa using hx.1
 rw[hrun,hx1]
theorem SeenI.update{w:World}{b:Nat}{ss:List Int}(h:SeenI w b ss)(s:Int)(h0:-9223372036854775808≤s)(h1:s≤9223372036854775807)(hn:ss.length<1000000): ∃w',(Instr.mapUpdate 207 (.map (some b)) (I s) (.bool true)).run Tryz.prog w= .ok () w'∧SeenI w' b (ss++[s])∧w.grownBy w' (some b):=by
 obtain⟨D,g1,g2,g3⟩:=h;obtain⟨w',hrun,k1,k2⟩:=g1.update rY Tryz.underlying207 (by unfold maxLen;omega) (keyOf_int_mk Tryz.underlying3 (aPe h0 h1)) (plainElem_bool Tryz.underlying4 true);refine⟨w',hrun,⟨_,by rw[List.length_append];exact k1,g2.put _ _,fun x=>?_⟩,k2⟩;by_cases e:s=x
 ·subst e;rw[atKey_put_same g2 (by simp[WideAt.IsKeyLit])];simp
 ·rw[atKey_put_other (fun k=>e (by injection k with _ k;exact k.symm)),g3 x];simp only[List.contains_append,List.contains_cons,List.contains_nil,Bool.or_false];rw[show(x==s)=false from beq_eq_false_iff_ne.2 fun k=>e k.symm,Bool.or_false]
theorem SeenI.below{w w':World}{b:Nat}{ss:List Int}(h:SeenI w b ss)(hb:Below w.heap.size w w'):SeenI w' b ss:=by
 obtain⟨D,⟨es,clock,e1,e2⟩,h2⟩:=h;exact⟨D,⟨es,clock,(hb.block b (Array.getElem?_eq_some_iff.1 e1).1).trans e1,e2⟩,h2⟩
theorem SeenI.ne{w:World}{b g:Nat}{ss:List Int}{t:TypeId}{cs:Array Value}(h:SeenI w b ss)(hB:Blk w g t cs):g≠b:=by
 rintro rfl;obtain⟨D,⟨es,clock,e1,_⟩,_⟩:=h;unfold Blk at hB;rw[hB]at e1;cases e1
theorem SeenI.keep{w w':World}{b:Nat}{ss:List Int}(h:SeenI w b ss)(hk:w'.heap[b]?=w.heap[b]?):SeenI w' b ss:=by
 obtain⟨D,⟨es,clock,e1,e2⟩,h2⟩:=h;exact⟨D,⟨es,clock,hk.trans e1,e2⟩,h2⟩
theorem MS.start{w:World}{base:Nat}{bA iA:Option Addr}{bc ic:Nat}{bus isl:List Int}(hb:base≤w.heap.size)(h1:Row w base kO 1 (.slice bA bus.length bc) bus.length (bus.map I))(h2:Row w base kO 1 (.slice iA isl.length ic) isl.length (isl.map I)): MS (w.alloc (.cells #[.slice bA bus.length bc,.slice iA isl.length ic,.slice none 0 0,.slice none 0 0,.slice none 0 0,.slice none 0 0,.slice none 0 0,.slice none 0 0] qH)) base w.heap.size (fun j=>match j with|0=> .slice bA bus.length bc|1=> .slice iA isl.length ic|_=> .slice none 0 0) (isO bus isl [] [] []) (fun _=> .slice none 0 0) (tsO [] []) (.slice none 0 0):=by
 refine⟨hb,Blk.new w qH _,fun j hj=>?_,fun j h2' hj b o x e=>?_,fun j hj=>?_,fun i j b hi hj hij h22 e=>?_,(fun i j b _ _ _ e=>by cases e)⟩
 ·match j,hj with
  |0,_=>exact h1.alloc _
  |1,_=>exact h2.alloc _
  |2,_=>exact Row.nil _ _ _ _
  |3,_=>exact Row.nil _ _ _ _
  |4,_=>exact Row.nil _ _ _ _
 ·match j,h2',hj with
  |2,_,_=>cases e
  |3,_,_=>cases e
  |4,_,_=>cases e
 ·match j,hj with
  |0,_=>exact RRow.nil _ _
  |1,_=>exact RRow.nil _ _
 ·match i,hi,j,hj with
  |0,_,1,_=>exact absurd h22 (by omega)
  |1,_,0,_=>exact absurd h22 (by omega)
  |0,_,0,_=>exact absurd rfl hij
  |1,_,1,_=>exact absurd rfl hij
  |0,_,2,_=>exact fun k=>by cases k
  |0,_,3,_=>exact fun k=>by cases k
  |0,_,4,_=>exact fun k=>by cases k
  |1,_,2,_=>exact fun k=>by cases k
  |1,_,3,_=>exact fun k=>by cases k
  |1,_,4,_=>exact fun k=>by cases k
  |2,_,_,_=>cases e
  |3,_,_,_=>cases e
  |4,_,_,_=>cases e
end
section
theorem aAt{N:Nat}{z:Int}(h1:1≤N)(h2:-4294967296<z)(h3:z<4294967296):FitR N (z:Rat):=⟨by rw[Rat.num_intCast];exact gF _ h1 _ h2 h3,by rw[Rat.den_intCast];exact gF _ h1 _ (by decide) (by decide)⟩
end
section
open Go.RowKit
theorem slI{A A':Option Addr}{n n' c c':Nat}(h:Value.slice A n c= .slice A' n' c'):A=A'∧c=c':=by
 injection h with h1 _ h2;exact⟨h1,h2⟩
theorem adI{b o b' o':Nat}(h:(some ⟨b,o,none⟩:Option Addr)=some ⟨b',o',none⟩):b=b'∧o=o':=by
 injection h with h;injection h with h1 h2;exact⟨h1,h2⟩
theorem aDb(l:List Int)(n:Nat)(A:Option Addr)(c:Nat)(x:Int)(w:World)(B:Nat)(hr:Reads w B 1 A n (l.map I))(hl:n≤1000000): Calls Tryz.prog 65 #[.slice A n c,I x] w fun e w'=>e= .returned (I (Lib.idxOf l x))∧w'=w:=by
 have hln:l.length=n:=by have:=hr.1;simpa using this
 subst hln;by_cases h0:l.length=0
 ·have:l=[]:=List.eq_nil_of_length_eq_zero h0;subst this;exact Tryz.slices_Index_int_empty A c x w
 ·obtain⟨b,off,rfl,_,hc⟩:=hr.2 (by omega);refine(Tryz.slices_Index_int b off l.length c l x w lR (by omega) (fun j hj=>hc j _ (by simp[hj]))).mono fun e w' ⟨h1,h2⟩=>⟨by rw[h1,List.take_of_length_le lR],h2⟩
theorem LM.rowsIn{w:World}{base:Nat}{v:Value}{vs:List Value}{m:MQ}(h:LM w base v vs m){i b o l c:Nat}(e:vs[i]?=some (.slice (some ⟨b,o,none⟩) l c)):base≤b∧b<w.heap.size:=by
 have hj:i<m.length:=by have:=(List.getElem?_eq_some_iff.1 e).1;have:=h.len;omega
 exact(h.inner i _ m[i] e (gE hj)).lt rfl
section
variable {w w':World} {base g:Nat} {rs:Nat→Value} {is:Nat→List Int} {qs:Nat→Value} {ts:Nat→List Rat} {iv:Value}
theorem MS.ints(h:MS w base g rs is qs ts iv){j:Nat}(hj:j<5):∃A c,rs j= .slice A (is j).length c∧Reads w w.heap.size 1 A (is j).length ((is j).map I):=by
 have hr:=h.ri j hj;obtain⟨A,c,e⟩:=hr.val;rw[e]at hr;exact⟨A,c,e,hr.reads⟩
theorem MS.ratAt(h:MS w base g rs is qs ts iv){j:Nat}(hj:j<2){k:Nat}{q:Rat}(hk:(ts j)[k]?=some q):∃b o c nb B1 l1 c1 B2 l2 c2,qs j= .slice (some ⟨b,o,none⟩) (ts j).length c∧b<w.heap.size∧C4 w b (o+k*4) (.bool nb) (.slice B1 l1 c1) (.bool false) (.slice B2 l2 c2)∧Rt w (.agg #[.bool nb,.slice B1 l1 c1,.bool false,.slice B2 l2 c2]) q:=by
 have hr:=h.rq j hj;obtain⟨A,c,e⟩:=hr.val;rw[e]at hr;obtain⟨b,o,nb,B1,l1,c1,B2,l2,c2,rfl,hb,hC,hrt⟩:=hr.rv.form (List.getElem?_eq_some_iff.1 hk).1 q hk;exact⟨b,o,c,nb,B1,l1,c1,B2,l2,c2,e,hb,hC,hrt⟩
theorem MS.setIv(h:MS w base g rs is qs ts iv)(hn:noWord iv)(v:Value):MS (w.setCell ⟨g,7,none⟩ v) base g rs is qs ts v∧Kw w (w.setCell ⟨g,7,none⟩ v):=by
 have hc:w.cell? ⟨g,7,none⟩=some iv:=by rw[h.blk.cell];rfl
 have k2:=sM hc hn v;have keep:∀b,b≠g→(w.setCell ⟨g,7,none⟩ v).heap[b]?=w.heap[b]?:=fun b hb=>Below.heap_setCell w _ v b hb;refine⟨⟨h.ge,h.blk.set_ 7 v,fun j hj=>(h.ri j hj).keepO fun b hb=>keep b fun k=>h.noG hj (by rw[←k];exact hb),fun i hi2 hi b o y e=>?_,fun j hj=>(h.rq j hj).keep k2 fun b hb=>keep b fun k=>h.noGq hj (by rw[←k];exact hb),h.si,h.sq⟩,k2⟩;rw[World.cell?_of_block (a:=⟨b,o,none⟩) (keep b (fun k=>h.noG hi (by rw[←k];exact e)))];exact h.nw i hi2 hi b o y e
theorem MS.qval(h:MS w base g rs is qs ts iv){j:Nat}(hj:j<2):∃A c,qs j= .slice A (ts j).length c:=(h.rq j hj).val
end
def FitM(N:Nat)(m:MQ):Prop:=∀r∈m,∀x∈r,FitR N x
theorem aYk{M:MQ}{n:Nat}(h:Rect M n n)(hn:n≤24)(hf:FitM 300 M):Bnd (dQ M n) n:=fun k i j hi=>by
 obtain⟨π,δ,ε,hI⟩:=(gM (fZ h) k).inv;have hf2:∀r∈dQ M n,∀x∈r,FitR 300 x:=fun r hr x hx=>by
  obtain⟨a,ha,rfl⟩:=List.mem_mapIdx.1 hr;rcases List.mem_append.1 hx with h1|h1
  ·exact hf _ (List.getElem_mem ha) x h1
  ·rcases List.mem_or_eq_of_mem_set h1 with h2|h2
   ·rw[(List.mem_replicate.1 h2).2];exact eN.mono (by omega)
   ·rw[h2];exact aAt (z:=1) (by omega) (by omega) (by omega)
 have hZ:300*(n+n)+1≤14401:=by omega
 refine(aKj hI (aTc (fZ h) hf2) i j hi).mono ?_;have h1:n*(300*(n+n)+1+n+1)≤24*(14401+24+1):=Nat.mul_le_mul hn (by omega);omega
theorem yZ(x:Int)(base g:Nat)(rs:Nat→Value)(is:Nat→List Int)(qs:Nat→Value)(ts:Nat→List Rat)(iv:Value)(w:World)(h:MS w base g rs is qs ts iv)(hf:(is 4).length≤1000): Calls Tryz.prog 165 #[.pointer (some ⟨g,0,none⟩),I x] w fun e w'=>e= .returned (I (Lib.idxOf (is 4) x))∧w'=w:=by
 obtain⟨A,c,e4,hr⟩:=h.ints (j:=4) (by decide);have c6:=h.cellI (j:=4) (by decide);change w.cell? ⟨g,6,none⟩=some (rs 4)at c6;rw[e4]at c6;have HI:=aH (aDb (is 4) (is 4).length A c x w _ hr (by omega));clear h e4 hr;generalize(is 4).length=n4 at*;go_enter Tryz.func165,Tryz.ntmps165;go_wp2_with fail;refine HI.out.mono ?_;rintro e w1 ⟨rfl,rfl⟩;clear HI;go_wp2;go_ret;exact⟨rfl,rfl⟩
def mN(m:MQ)(i j:Nat)(x:Rat):MQ:=m.set i ((m.getD i []).set j x)
def dI(m:MQ)(i:Int)(b:Rat):MQ:=if 0≤i then mN m i.toNat i.toNat (at2 m i.toNat i.toNat+b)else m
def vF(m:MQ)(i j:Int)(b:Rat):MQ:=if 0≤i∧0≤j then mN (mN m i.toNat j.toNat (at2 m i.toNat j.toNat-b)) j.toNat i.toNat (at2 m j.toNat i.toNat-b)else m
def kG(free:List Int)(u v:Int)(b:Rat)(m:MQ):MQ:=if u=v then m else vF (dI (dI m (Lib.idxOf free u) b) (Lib.idxOf free v) b) (Lib.idxOf free u) (Lib.idxOf free v) b
def iM(n:Nat):MQ:=List.replicate n (List.replicate n 0)
def gR(free frm tu:List Int)(B:List Rat)(n:Nat):Nat→MQ
 |0=>iM n
 |k+1=>kG free (frm.getD k 0) (tu.getD k 0) (B.getD k 0) (gR free frm tu B n k)
theorem FitM.mono{N M:Nat}{m:MQ}(h:FitM N m)(hN:N≤M):FitM M m:=fun r hr x hx=>(h r hr x hx).mono hN
theorem FitM.at_{N n:Nat}{m:MQ}(h:FitM N m)(hr:Rect m n n){i j:Nat}(hi:i<n)(hj:j<n):FitR N (at2 m i j):=by
 have h1:i<m.length:=by rw[hr.1];exact hi
 have h2:j<(m[i]).length:=by rw[hr.2 _ (List.getElem_mem h1)];exact hj
 have e:at2 m i j=m[i][j]:=by unfold at2;simp only[gD,gE h1,Option.getD_some,gE h2]
 rw[e];exact h _ (List.getElem_mem h1) _ (List.getElem_mem h2)
theorem dJ{m:MQ}{n:Nat}(h:Rect m n n){i:Nat}(hi:i<n)(j:Nat)(x:Rat):Rect (mN m i j x) n n:=by
 refine⟨by rw[mN,List.length_set,h.1],fun r hr=>?_⟩;rcases List.mem_or_eq_of_mem_set hr with hr|rfl
 ·exact h.2 r hr
 ·rw[List.length_set];exact h.rowlen hi
theorem iG{m:MQ}{n N:Nat}(hf:FitM N m)(h:Rect m n n){i j:Nat}(hi:i<n){x:Rat}(hx:FitR N x):FitM N (mN m i j x):=by
 intro r hr y hy;rcases List.mem_or_eq_of_mem_set hr with hr|rfl
 ·exact hf r hr y hy
 ·rcases List.mem_or_eq_of_mem_set hy with hy|rfl
  ·have h1:i<m.length:=by rw[h.1];exact hi
   have e:m.getD i []=m[i]:=by rw[gD,gE h1];rfl
   rw[e]at hy;exact hf _ (List.getElem_mem h1) y hy
  ·exact hx
theorem vG{m:MQ}{n:Nat}(h:Rect m n n){i j a b:Nat}(hi:i<n)(hj:j<n)(x:Rat):at2 (mN m i j x) a b=if a=i∧b=j then x else at2 m a b:=by
 have h1:i<m.length:=by rw[h.1];exact hi
 have h2:j<(m.getD i []).length:=by rw[h.rowlen hi];exact hj
 unfold at2 mN;by_cases e:a=i
 ·subst e;rw[fO h1];by_cases e2:b=j
  ·subst e2;rw[if_pos ⟨rfl,rfl⟩,gD (l:=(m.getD a []).set b x),List.getElem?_set_self h2];rfl
  ·rw[if_neg (fun k=>e2 k.2),gD (l:=(m.getD a []).set j x),List.getElem?_set_ne (fun k=>e2 k.symm),←gD]
 ·rw[if_neg (fun k=>e k.1),gD (l:=m.set i ((m.getD i []).set j x)),List.getElem?_set_ne (fun k=>e k.symm),←gD]
theorem vH(n:Nat):Rect (iM n) n n:=⟨by simp[iM],fun r hr=>by rw[(List.mem_replicate.1 hr).2];simp⟩
theorem aLm(n:Nat):FitM 1 (iM n):=fun r hr x hx=>by
 rw[(List.mem_replicate.1 hr).2]at hx;rw[(List.mem_replicate.1 hx).2];exact eN
theorem pI(x:Int):∀(zs:List Int) (i:Nat),Lib.idxFrom zs x i=-1∨((i:Int)≤Lib.idxFrom zs x i∧Lib.idxFrom zs x i<i+zs.length)
 |[],i=> .inl rfl
 |z::zs,i=>by
  rw[Lib.idxFrom];split
  ·right;simp;omega
  ·rcases pI x zs (i+1)with h|h
   ·left;exact h
   ·right;simp;omega
theorem gS(x:Int):∀(zs:List Int) (i:Nat),0≤Lib.idxFrom zs x i→zs.getD ((Lib.idxFrom zs x i).toNat-i) 0=x
 |[],i,h=>by simp[Lib.idxFrom]at h
 |z::zs,i,h=>by
  rw[Lib.idxFrom]at h⊢;split
  ·rename_i e;simpa using e
  ·rename_i e;rw[if_neg e]at h;have ih:=gS x zs (i+1) h;have hg:=pI x zs (i+1);have e2:(Lib.idxFrom zs x (i+1)).toNat-i=((Lib.idxFrom zs x (i+1)).toNat-(i+1))+1:=by omega
   rw[e2,List.getD_cons_succ];exact ih
theorem eZ(zs:List Int)(x:Int):Lib.idxOf zs x=-1∨(0≤Lib.idxOf zs x∧Lib.idxOf zs x<zs.length):=by
 have:=pI x zs 0;simpa[Lib.idxOf]using this
theorem aPh{N:Nat}{x:Rat}(h:FitR N x):FitR N (-x):=⟨by have:=h.1;unfold Fits at*;rw[Rat.neg_num,Int.natAbs_neg];exact this,by have:=h.2;unfold Fits at*;rw[Rat.neg_den];exact this⟩
theorem pJ{free:List Int}{n:Nat}(hn:free.length=n)(u v:Int):(Lib.idxOf free u=-1∨(0≤Lib.idxOf free u∧Lib.idxOf free u<n))∧(Lib.idxOf free v=-1∨(0≤Lib.idxOf free v∧Lib.idxOf free v<n))∧(u≠v→0≤Lib.idxOf free u→Lib.idxOf free u≠Lib.idxOf free v):=by
 subst hn;refine⟨eZ free u,eZ free v,fun h h0 e=>h ?_⟩;have h1:=gS u free 0 (by simpa[Lib.idxOf]using h0);have h2:=gS v free 0 (by rw[e]at h0;simpa[Lib.idxOf]using h0);unfold Lib.idxOf at e;rw[e]at h1;exact h1.symm.trans h2
theorem bH{l:List Int}{k:Nat}(h:k<l.length):l.getD k 0∈l:=by rw[gD,gE h];exact List.getElem_mem h
theorem aDc{m:MQ}{n N:Nat}{free:List Int}(hl:free.length=n)(u:Int){b:Rat}(hr:Rect m n n)(hf:FitM N m)(hb:FitR 2 b):Rect (dI m (Lib.idxOf free u) b) n n∧FitM (N+3) (dI m (Lib.idxOf free u) b):=by
 rw[dI];split
 ·rename_i h;have h2:(Lib.idxOf free u).toNat<n:=by rcases eZ free u with k|k<;>omega
  exact⟨dJ hr h2 _ _,iG (hf.mono (by omega)) hr h2 (eK (hf.at_ hr h2 h2) hb)⟩
 ·exact⟨hr,hf.mono (by omega)⟩
theorem fK{N M:Nat}{x y:Rat}(hx:FitR N x)(hy:FitR M y):FitR (N+M+1) (x-y):=by
 rw[Rat.sub_eq_add_neg];exact eK hx (aPh hy)
theorem aLn{m:MQ}{n N:Nat}{free:List Int}(hl:free.length=n)(u v:Int){b:Rat}(hr:Rect m n n)(hf:FitM N m)(hb:FitR 2 b):Rect (kG free u v b m) n n∧FitM (N+9) (kG free u v b m):=by
 rw[kG];split
 ·exact⟨hr,hf.mono (by omega)⟩
 ·obtain⟨h1,h2⟩:=aDc hl u hr hf hb;obtain⟨h3,h4⟩:=aDc hl v h1 h2 hb;rw[vF];split
  ·rename_i h;have hi:(Lib.idxOf free u).toNat<n:=by rcases eZ free u with k|k<;>omega
   have hj:(Lib.idxOf free v).toNat<n:=by rcases eZ free v with k|k<;>omega
   have f1:=fK (h4.at_ h3 hi hj) hb;have f2:=fK (h4.at_ h3 hj hi) hb;have r5:=dJ h3 hi (Lib.idxOf free v).toNat (at2 (dI (dI m (Lib.idxOf free u) b) (Lib.idxOf free v) b) (Lib.idxOf free u).toNat (Lib.idxOf free v).toNat-b);exact⟨dJ r5 hj _ _,iG (iG (h4.mono (by omega)) h3 hi (f1.mono (by omega))) r5 hj (f2.mono (by omega))⟩
  ·exact⟨h3,h4.mono (by omega)⟩
theorem aAu{free frm tu:List Int}{B:List Rat}{n:Nat}(hl:free.length=n)(hB:∀k,FitR 2 (B.getD k 0)):∀k,Rect (gR free frm tu B n k) n n∧FitM (1+9*k) (gR free frm tu B n k)
 |0=>⟨vH n,aLm n⟩
 |k+1=>by
  obtain⟨h1,h2⟩:=aAu hl hB k;obtain⟨h3,h4⟩:=aLn hl (frm.getD k 0) (tu.getD k 0) h1 h2 (hB k);exact⟨h3,h4.mono (by omega)⟩
def aLo(w:World)(base g:Nat)(rs:Nat→Value)(bus isl frm tu free:List Int)(B C:List Rat)(qs:Nat→Value)(m:MQ)(n:Nat)(e:Ending)(w':World):Prop:=e= .returned (.tuple #[])∧∃v vs,MS w' base g rs (isO bus isl frm tu free) qs (tsO B C) v∧LM w' base v vs (tR m n).1∧Below base w w'
theorem aLp(n k:Nat)(hk:k<n):(cF (iM n) [] k n).set k (List.replicate n 0)=cF (iM n) [] (k+1) n:=lG _ (by simp[iM]) hk (by simp[iM,hk])
theorem aGn(base g:Nat)(rs:Nat→Value)(bus isl frm tu free:List Int)(B C:List Rat)(qs:Nat→Value)(w:World)(h:MS w base g rs (isO bus isl frm tu free) qs (tsO B C) (.slice none 0 0))(hbw:base≤w.heap.size)(n nb:Nat)(hn:free.length=n)(hn4:n≤24)(hnb:B.length=nb)(hnb4:nb≤24)(h2:frm.length=nb)(h3:tu.length=nb)(hB:∀k,FitR 2 (B.getD k 0)) (hfr:∀x∈frm,0≤x∧x≤1000)(hto:∀x∈tu,0≤x∧x≤1000):
  Calls Tryz.prog 131 #[.pointer (some ⟨g,0,none⟩)] w (aLo w base g rs bus isl frm tu free B C qs (gR free frm tu B n nb) n):=by
 have HM:=aH h;have c6:=h.cellI (j:=4) (by decide);change w.cell? ⟨g,6,none⟩=some (rs 4)at c6;obtain⟨A6,k6,e6,-⟩:=h.ints (j:=4) (by decide);rw[e6,show(isO bus isl frm tu free 4).length=n from hn]at c6;clear e6 h;have hmk:=nP n (by omega);unfold bW at hmk;have HP:=aH (show∃vs,LM (w.alloc (.cells (Array.replicate n (Value.slice none 0 0)) bW)) w.heap.size (.slice (some ⟨w.heap.size,0,none⟩) n n) vs (cF (iM n) [] 0 n)from⟨_,by rw[jR];exact LM.start w n (by unfold maxLen;omega)⟩);have HB:=aH (aD w (.cells (Array.replicate n (Value.slice none 0 0)) bW));go_enter Tryz.func131,Tryz.ntmps131;go_wp2;clear hmk c6;go_loopg [18] (n-0) (fun r v wr=>∃k:Nat,r=n-k∧v=I k∧k≤n∧Hid (∃vs,LM wr w.heap.size (.slice (some ⟨w.heap.size,0,none⟩) n n) vs (cF (iM n) [] k n))∧Hid (Below w.heap.size w wr));case atStart=>exact⟨0,rfl,rfl,by omega,HP,HB⟩
 case round=>
  clear HP HB;obtain⟨k,rfl,rfl,hk,HP,HB⟩:=hrel;obtain⟨wa,rfl⟩:=wE wr;by_cases hlt:k<n
  ·have HZ:=aH (lK n wa (by omega));go_wp2_with fail;refine HZ.out.mono ?_;rintro e w4 ⟨v4,rfl,hr4,hb⟩;obtain⟨A4,c4,rfl⟩:=hr4.val;rw[List.length_replicate]at hr4⊢;obtain⟨vs,hLM⟩:=HP.out;have h1:=hLM.call hb;have hap:=hLM.newer (u:= .slice A4 n c4) (fun g hg=>(hr4.lt hg).1);have hfl:(cF (iM n) [] k n).length=n:=lF _ (by simp[iM]) hk;obtain⟨g9,o9,cap,B9,c9,e9,hg1,hg2,-,hcell,hfz,-⟩:=h1.at_ (i:=k) (by omega);obtain⟨rfl,rfl⟩:=mE e9;clear e9;have h2:=h1.put (i:=k) hfl hlt (hr4.less HB.out.size) (fun j u' g' _=>hap j u' g');rw[Nat.zero_add]at h2 hcell hfz;rw[aLp n k hlt]at h2;have HP2:=aH (show∃vs,LM (w4.setCell ⟨w.heap.size,k,none⟩ (.slice A4 n c4)) w.heap.size (.slice (some ⟨w.heap.size,0,none⟩) n n) vs (cF (iM n) [] (k+1) n)from⟨_,h2.1⟩);have HB2:=aH ((HB.out.trans (hb.mono HB.out.size)).setCell (p:=⟨w.heap.size,k,none⟩) lR (.slice A4 n c4));clear HZ hr4 hb hLM h1 hap hfl hg1 hg2 h2 HP HB;go_wp2;clear hcell hfz;go_roundg (n-(k+1));case measure=>omega
   case rel=>exact⟨k+1,rfl,by go_num,by omega,HP2,HB2⟩
  ·have hin:k=n:=by omega
   subst hin;have HP0:=aH (show∃vs,LM wa w.heap.size (.slice (some ⟨w.heap.size,0,none⟩) k k) vs (gR free frm tu B k 0) by have h:=HP.out;rw[lE _ (by simp[iM])]at h;exact h);clear HP;generalize hga:w.heap.size=ga at*;have hw0:base≤ga:=hbw;obtain⟨n,rfl⟩:∃n:Nat,n=k:=⟨_,rfl⟩;clear hk hlt;have HBA:Hid (Below w.heap.size w wa):=by rw[hga];exact HB
   have c4:=(HM.out.call HBA.out).cellQ (j:=0) (by decide);change wa.cell? ⟨g,4,none⟩=some (qs 0)at c4;obtain⟨Aq,cq,eq0⟩:=HM.out.qval (j:=0) (by decide);rw[show(tsO B C 0).length=nb from hnb]at eq0;rw[eq0]at c4;have HEQ:=aH eq0;clear eq0;go_wp2;clear c4 HBA;go_loopg [32] (nb-0) (fun r v wr=>∃k:Nat,r=nb-k∧v=I k∧k≤nb∧Hid (∃vs,LM wr ga (.slice (some ⟨ga,0,none⟩) n n) vs (gR free frm tu B n k))∧Hid (Below ga w wr));case atStart=>exact⟨0,rfl,rfl,by omega,HP0,HB⟩
   case round=>
    clear HP0 HB;obtain⟨k,rfl,rfl,hk,HP,HB⟩:=hrel;obtain⟨wb,rfl⟩:=wE wr;have HBSZ:=aH HB.out.size;have HMW:Hid (MS wb base g rs (isO bus isl frm tu free) qs (tsO B C) (.slice none 0 0)):=HM.out.call (by rw[hga];exact HB.out);by_cases hlt:k<nb
    ·obtain⟨b,hb⟩:∃b,B[k]?=some b:=⟨_,gE (by omega)⟩;have hbg:B.getD k 0=b:=by rw[gD,hb];rfl
     have HBF:=aH (show FitR 2 b from hbg▸hB k);obtain⟨hrect,hfit⟩:=aAu (frm:=frm) (tu:=tu) hn hB k;have HRC:=aH hrect;have HFT:=aH (hfit.mono (show 1+9*k≤250 by omega));have HNX:=aH (show gR free frm tu B n (k+1)=kG free (frm.getD k 0) (tu.getD k 0) b (gR free frm tu B n k) by rw[gR,hbg]);obtain⟨b2,o2,k2,e2,_,hc2⟩:=HMW.out.intAt (j:=2) (by decide) (k:=k) (by show k<frm.length;omega);obtain⟨b3,o3,k3,e3,_,hc3⟩:=HMW.out.intAt (j:=3) (by decide) (k:=k) (by show k<tu.length;omega);change rs 2= .slice (some ⟨b2,o2,none⟩) frm.length k2 at e2;change rs 3= .slice (some ⟨b3,o3,none⟩) tu.length k3 at e3;change wb.cell? ⟨b2,o2+k,none⟩=some (I (frm.getD k 0))at hc2;change wb.cell? ⟨b3,o3+k,none⟩=some (I (tu.getD k 0))at hc3;rw[h2]at e2;rw[h3]at e3;have HE2:=aH e2;have HE3:=aH e3;have HC2:=aH hc2;have HC3:=aH hc3;have hfk:=hfr (frm.getD k 0) (bH (by omega));have htk:=hto (tu.getD k 0) (bH (by omega));obtain⟨bq,oq,kq,nb0,Q1,l1,j1,Q2,l2,j2,eq0,hbq,hCq,hrtq⟩:=HMW.out.ratAt (j:=0) (by decide) (k:=k) hb;rw[show(tsO B C 0).length=nb from hnb]at eq0;have u0:=hCq.c0;have u1:=hCq.c1;have u2:=hCq.c2;have u3:=hCq.c3;have HRB:=aH hrtq;clear e2 e3 hc2 hc3 hb hbg hrect hfit hCq hrtq;have q0:=HEQ.out.symm.trans eq0;replace q0:=slI q0;obtain⟨q0,q1⟩:=q0;subst q0 q1;clear eq0;obtain⟨vs,hLM⟩:=HP.out;have HL:=aH hLM;have HGZ:=aH (show ga≤wb.heap.size from Nat.le_trans (by rw[←hga];exact Nat.le_refl _) HBSZ.out);clear hLM HP;generalize hu:frm.getD k 0=u at*;generalize hv:tu.getD k 0=v at*;clear hu hv;generalize hM:gR free frm tu B n k=M at*;clear hM;go_upto_region 10 with(fail)
     clear u0 u1 u2 u3;have hb:=aD wb (Obj.cells #[.bool nb0,.slice Q1 l1 j1,.bool false,.slice Q2 l2 j2] aM);have HBX:=aH (Blk.new wb aM #[.bool nb0,.slice Q1 l1 j1,.bool false,.slice Q2 l2 j2]);have HGS:=aH (show∀i b o l c:Nat,vs[i]?=some (Value.slice (some ⟨b,o,none⟩) l c)→b<wb.heap.size from fun i b o l c e=>(HL.out.rowsIn e).2);have HMX:=aH (HMW.out.call hb);replace HRB:=aH (HRB.out.ext hb);replace HC2:=aH (aA HC2.out hb);replace HC3:=aH (aA HC3.out hb);replace HB:=aH (HB.out.trans (hb.mono HGZ.out));replace HGZ:=aH (Nat.le_trans HGZ.out hb.size);replace HL:=aH (HL.out.call hb);clear hb;unfold aM at*;generalize wb.alloc (Obj.cells #[.bool nb0,.slice Q1 l1 j1,.bool false,.slice Q2 l2 j2] 122)=W1 at*;generalize wb.heap.size=gs at*;clear HMW;have hb:=aT W1;replace HMX:=aH (HMX.out.call hb);replace HC2:=aH (aA HC2.out hb);replace HC3:=aH (aA HC3.out hb);replace HB:=aH (HB.out.trans (hb.mono HGZ.out));replace HGZ:=aH (Nat.le_trans HGZ.out hb.size);replace HL:=aH (HL.out.call hb);replace HBX:=bL HBX hb;replace HRB:=aH (HRB.out.ext hb);clear hb;have C2:=aH (show W1.drew.cell? ⟨g,2,none⟩=some (.slice (some ⟨b2,o2,none⟩) nb k2) by rw[←HE2.out];exact HMX.out.cellI (j:=2) (by decide));have C3:=aH (show W1.drew.cell? ⟨g,3,none⟩=some (.slice (some ⟨b3,o3,none⟩) nb k3) by rw[←HE3.out];exact HMX.out.cellI (j:=3) (by decide));refine aJ (fun w'=>w'.cell? ⟨g,2,none⟩=some (.slice (some ⟨b2,o2,none⟩) nb k2)∧w'.cell? ⟨g,3,none⟩=some (.slice (some ⟨b3,o3,none⟩) nb k3)∧w'.cell? ⟨b2,o2+k,none⟩=some (I u)∧w'.cell? ⟨b3,o3+k,none⟩=some (I v)) 17 (by kernel_rfl) ?_;generalize W1.drew=W2 at*;refine tkS ⟨C2.out,C3.out,HC2.out,HC3.out⟩ fun hSS=>?_;refine aZ 0 (.pointer (some ⟨g,0,none⟩)) rfl hSS ?_;refine aZ 1 (.pointer (some ⟨g,0,none⟩)) rfl hSS ?_;refine aZ 2 (.pointer (some ⟨g,0,none⟩)) rfl hSS ?_;refine aZ 3 (.pointer (some ⟨g,2,none⟩)) rfl hSS ?_;refine aZ 4 (.slice (some ⟨b2,o2,none⟩) nb k2) rfl hSS ?_;refine aZ 5 (I k) rfl hSS ?_;refine aZ 6 (.pointer (some ⟨b2,o2+k,none⟩)) rfl hSS ?_;refine aZ 7 (I u) rfl hSS ?_;refine aZ 9 (.pointer (some ⟨g,0,none⟩)) rfl hSS ?_;refine aZ 10 (.pointer (some ⟨g,0,none⟩)) rfl hSS ?_;refine aZ 11 (.pointer (some ⟨g,0,none⟩)) rfl hSS ?_;refine aZ 12 (.pointer (some ⟨g,3,none⟩)) rfl hSS ?_;refine aZ 13 (.slice (some ⟨b3,o3,none⟩) nb k3) rfl hSS ?_;refine aZ 14 (I k) rfl hSS ?_;refine aZ 15 (.pointer (some ⟨b3,o3+k,none⟩)) rfl hSS ?_;refine aZ 16 (I v) rfl hSS ?_;refine on1 8 fun K hK=>?_;go_simp;go_at_call 165;refine(yZ u base g rs (isO bus isl frm tu free) qs (tsO B C) _ W2 HMX.out (by show free.length≤1000;omega)).mono ?_;rintro e W3 ⟨rfl,rfl⟩;refine hK.out _ _ (fun _=>⟨C2.out,C3.out,HC2.out,HC3.out⟩) ?_;clear hK K;obtain⟨W2,rfl⟩:∃z:World,z=W3:=⟨_,rfl⟩;refine on1 17 fun K hK=>?_;go_simp;go_at_call 165;refine(yZ v base g rs (isO bus isl frm tu free) qs (tsO B C) _ W2 HMX.out (by show free.length≤1000;omega)).mono ?_;rintro e W4 ⟨rfl,rfl⟩;refine hK.out _ _ (fun _=>⟨C2.out,C3.out,HC2.out,HC3.out⟩) ?_;clear hK K;obtain⟨W2,rfl⟩:∃z:World,z=W4:=⟨_,rfl⟩;refine on1 18 fun K hK=>?_;go_simp;refine hK.out _ _ (fun h=>absurd h (by decide)) ?_;clear hK K;refine on1 19 fun K hK=>?_;go_simp;refine hK.out _ _ (fun h=>absurd h (by decide)) ?_;clear hK K;refine aG (by kernel_rfl) ?_ _;go_upto_region 11 with(fail)
     have hb:=aT W2;replace HMX:=aH (HMX.out.call hb);replace HC2:=aH (aA HC2.out hb);replace HC3:=aH (aA HC3.out hb);replace C2:=aH (aA C2.out hb);replace C3:=aH (aA C3.out hb);replace HB:=aH (HB.out.trans (hb.mono HGZ.out));replace HGZ:=aH (Nat.le_trans HGZ.out hb.size);replace HL:=aH (HL.out.call hb);replace HBX:=bL HBX hb;replace HRB:=aH (HRB.out.ext hb);clear hb;refine aJ (fun w'=>w'.cell? ⟨g,2,none⟩=some (.slice (some ⟨b2,o2,none⟩) nb k2)∧w'.cell? ⟨g,3,none⟩=some (.slice (some ⟨b3,o3,none⟩) nb k3)∧w'.cell? ⟨b2,o2+k,none⟩=some (I u)∧w'.cell? ⟨b3,o3+k,none⟩=some (I v)) 14 (by kernel_rfl) ?_;generalize W2.drew=W5 at*;refine tkS ⟨C2.out,C3.out,HC2.out,HC3.out⟩ fun hSS=>?_;refine aZ 0 (.pointer (some ⟨g,0,none⟩)) rfl hSS ?_;refine aZ 1 (.pointer (some ⟨g,0,none⟩)) rfl hSS ?_;refine aZ 2 (.pointer (some ⟨g,2,none⟩)) rfl hSS ?_;refine aZ 3 (.slice (some ⟨b2,o2,none⟩) nb k2) rfl hSS ?_;refine aZ 4 (I k) rfl hSS ?_;refine aZ 5 (.pointer (some ⟨b2,o2+k,none⟩)) rfl hSS ?_;refine aZ 6 (I u) rfl hSS ?_;refine aZ 7 (.pointer (some ⟨g,0,none⟩)) rfl hSS ?_;refine aZ 8 (.pointer (some ⟨g,0,none⟩)) rfl hSS ?_;refine aZ 9 (.pointer (some ⟨g,3,none⟩)) rfl hSS ?_;refine aZ 10 (.slice (some ⟨b3,o3,none⟩) nb k3) rfl hSS ?_;refine aZ 11 (I k) rfl hSS ?_;refine aZ 12 (.pointer (some ⟨b3,o3+k,none⟩)) rfl hSS ?_;refine aZ 13 (I v) rfl hSS ?_;clear C2 C3 HC2 HC3 HMX HE2 HE3;by_cases huv:u=v
     ·have tuv:(u==v)=true:=beq_iff_eq.2 huv;refine on1 14 fun K hK=>?_;go_simp;refine hK.out _ _ (fun h=>absurd h (by decide)) ?_;clear hK K;refine aG (by kernel_rfl) ?_ _;have HP2:=aH (show∃vs,LM W5 ga (.slice (some ⟨ga,0,none⟩) n n) vs (gR free frm tu B n (k+1))from⟨_,by rw[HNX.out,kG,if_pos huv];exact HL.out⟩);clear HL HBX HRB HGZ HNX HRC HFT;go_wp2;go_roundg (nb-(k+1));case measure=>omega
      case rel=>exact⟨k+1,rfl,by go_num,by omega,HP2,HB⟩
     ·have tuv:(u==v)=false:=beq_eq_false_iff_ne.2 huv;have HUV:=aH huv;clear huv;refine on1 14 fun K hK=>?_;go_simp;refine hK.out _ _ (fun h=>absurd h (by decide)) ?_;clear hK K;refine aG (by kernel_rfl) ?_ _;have HPN:=aH (pJ hn u v);rw[show isO bus isl frm tu free 4=free from rfl];replace HNX:=aH (show gR free frm tu B n (k+1)=vF (dI (dI M (Lib.idxOf free u) b) (Lib.idxOf free v) b) (Lib.idxOf free u) (Lib.idxOf free v) b by rw[HNX.out,kG,if_neg HUV.out]);generalize Lib.idxOf free u=pu at*;generalize Lib.idxOf free v=pv at*;obtain⟨hpu,hpv,hpne⟩:=HPN.out;have HNE:=aH (hpne HUV.out);clear HUV HPN hpne;by_cases hu0:0≤pu
      ·obtain⟨i,rfl⟩:∃i:Nat,pu=i:=⟨pu.toNat,by omega⟩;have hi:i<n:=by omega
       go_upto_region 13 with(fail)
       have hb:=aT W5;replace HB:=aH (HB.out.trans (hb.mono HGZ.out));replace HGZ:=aH (Nat.le_trans HGZ.out hb.size);replace HL:=aH (HL.out.call hb);replace HBX:=bL HBX hb;replace HRB:=aH (HRB.out.ext hb);clear hb;have hrl:(M.getD i []).length=n:=HRC.out.rowlen hi;obtain⟨br,or,cr,nr,E1,m1,d1,E2,m2,d2,hu,hc,hE,hrt,hfz,_,_,hbr,hbrl,hne⟩:=HL.out.elem HRC.out.1 hi (k:=i) (by rw[hrl];exact hi);rw[hrl]at hu hc;rw[Nat.zero_add]at hc;have HU:=aH hu;have CO:=aH hc;have EL:=aH (show El W5.drew br (or+i*4) (.bool nr) (.slice E1 m1 d1) (.bool false) (.slice E2 m2 d2)from⟨hE.c0,hE.c1,hE.c2,hE.c3,hfz _,hfz _,hfz _,hfz _⟩);have HRE:=aH (show Rt W5.drew (.agg #[.bool nr,.slice E1 m1 d1,.bool false,.slice E2 m2 d2]) (at2 M i i)from hrt);have HFE:=aH (HFT.out.at_ HRC.out hi hi);have HBR:=aH hbr;clear hu hc hE hrt hfz hne hrl hbr hbrl;refine aJ (fun w'=>w'.cell? ⟨ga,i,none⟩=some (.slice (some ⟨br,or,none⟩) n cr)∧w'.cell? ⟨br,or+i*4,none⟩=some (.bool nr)∧w'.cell? ⟨br,or+i*4+1,none⟩=some (.slice E1 m1 d1)∧w'.cell? ⟨br,or+i*4+2,none⟩=some (.bool false)∧w'.cell? ⟨br,or+i*4+3,none⟩=some (.slice E2 m2 d2)∧w'.cell? ⟨gs,0,none⟩=some (.bool nb0)∧w'.cell? ⟨gs,1,none⟩=some (.slice Q1 l1 j1)∧w'.cell? ⟨gs,2,none⟩=some (.bool false)∧w'.cell? ⟨gs,3,none⟩=some (.slice Q2 l2 j2)) 15 (by kernel_rfl) ?_;generalize W5.drew=X1 at*;refine tkS ⟨CO.out,EL.out.c0,EL.out.c1,EL.out.c2,EL.out.c3,HBX.out.cell 0,HBX.out.cell 1,HBX.out.cell 2,HBX.out.cell 3⟩ fun hSS=>?_;refine aZ 0 (.slice (some ⟨ga,0,none⟩) n n) rfl hSS ?_;refine aZ 1 (I i) rfl hSS ?_;refine aZ 2 (.pointer (some ⟨ga,i,none⟩)) rfl hSS ?_;refine aZ 3 (.slice (some ⟨br,or,none⟩) n cr) rfl hSS ?_;refine aZ 4 (I i) rfl hSS ?_;refine aZ 5 (.slice (some ⟨ga,0,none⟩) n n) rfl hSS ?_;refine aZ 6 (I i) rfl hSS ?_;refine aZ 7 (.pointer (some ⟨ga,i,none⟩)) rfl hSS ?_;refine aZ 8 (.slice (some ⟨br,or,none⟩) n cr) rfl hSS ?_;refine aZ 9 (I i) rfl hSS ?_;refine aZ 10 (.pointer (some ⟨br,or+i*4,none⟩)) rfl hSS ?_;refine aZ 11 (.agg #[.bool nr,.slice E1 m1 d1,.bool false,.slice E2 m2 d2]) rfl hSS ?_;refine aZ 12 (.agg #[.bool nb0,.slice Q1 l1 j1,.bool false,.slice Q2 l2 j2]) rfl hSS ?_;refine on1 13 fun K hK=>?_;go_simp;go_at_call 99;refine(gK _ _ _ _ X1 HRE.out HRB.out (N:=600) (by decide) (HFE.out.mono (by decide)) (HBF.out.mono (by decide))).mono ?_;rintro e Y1 ⟨vv,rfl,hvv,hb⟩;replace HB:=aH (HB.out.trans (hb.mono HGZ.out));replace HGZ:=aH (Nat.le_trans HGZ.out hb.size);replace HL:=aH (HL.out.call hb);replace HBX:=bL HBX hb;replace HRB:=aH (HRB.out.ext hb);replace CO:=aH (aA CO.out hb);replace EL:=aH (EL.out.below hb);clear hb;clear HRE;refine hK.out _ _ (fun _=>⟨CO.out,EL.out.c0,EL.out.c1,EL.out.c2,EL.out.c3,HBX.out.cell 0,HBX.out.cell 1,HBX.out.cell 2,HBX.out.cell 3⟩) ?_;clear hK K;refine aZ 14 (.pointer (some ⟨br,or+i*4,none⟩)) rfl ⟨CO.out,EL.out.c0,EL.out.c1,EL.out.c2,EL.out.c3,HBX.out.cell 0,HBX.out.cell 1,HBX.out.cell 2,HBX.out.cell 3⟩ ?_;obtain⟨tb,T1,t1,u1,T2,t2,u2,rfl⟩:=hvv.bools;obtain⟨hl,hkw2⟩:=HL.out.putEl (k:=i) HRC.out.1 hi HU.out hi hvv;have HL2:=aH (show LM (put4 Y1 br (or+i*4) (.bool tb) (.slice T1 t1 u1) (.bool false) (.slice T2 t2 u2)) ga (.slice (some ⟨ga,0,none⟩) n n) vs (mN M i i (at2 M i i+b))from hl);have HB2:=aH (cD (o:=or+i*4) HB.out HBR.out (.bool tb) (.slice T1 t1 u1) (.bool false) (.slice T2 t2 u2));have hnq:gs≠br:=fun e=>Nat.lt_irrefl _ (e▸HGS.out i br or n cr HU.out);have HBX2:=aH (show Blk (put4 Y1 br (or+i*4) (.bool tb) (.slice T1 t1 u1) (.bool false) (.slice T2 t2 u2)) gs 122 #[.bool nb0,.slice Q1 l1 j1,.bool false,.slice Q2 l2 j2]from(cR Y1 _ _ _ _ _ hnq).trans HBX.out);have HRB2:=aH (HRB.out.kw hkw2);have HGZ2:=aH (show ga≤(put4 Y1 br (or+i*4) (.bool tb) (.slice T1 t1 u1) (.bool false) (.slice T2 t2 u2)).heap.size by rw[jC];exact HGZ.out);have HRC2:=aH (dJ HRC.out hi i (at2 M i i+b));have HFT2:=aH (iG (HFT.out.mono (show 250≤253 by omega)) HRC.out hi (j:=i) ((eK HFE.out HBF.out).mono (by omega)));have z0:=EL.out.c0;have y0:=EL.out.f0;have z1:=EL.out.c1;have y1:=EL.out.f1;have z2:=EL.out.c2;have y2:=EL.out.f2;have z3:=EL.out.c3;have y3:=EL.out.f3;clear HL HB HBX HRB HGZ hl hkw2 hvv hnq CO EL HU HFE HBR HRC HFT;refine on1 15 fun K hK=>?_;go_simp;clear z0 z1 z2 z3 y0 y1 y2 y3;rw[iS];generalize(put4 Y1 br (or+i*4) (.bool tb) (.slice T1 t1 u1) (.bool false) (.slice T2 t2 u2))=Z1 at*;generalize hM:mN M i i (at2 M i i+b)=M2 at*;refine hK.out _ _ (fun h=>absurd h (by decide)) ?_;clear hK K;refine aG (by kernel_rfl) ?_ _;have HL:=HL2;have HB:=HB2;have HBX:=HBX2;have HRB:=HRB2;have HGZ:=HGZ2;have HRC:=HRC2;have HFT:=HFT2;clear HL2 HB2 HBX2 HRB2 HGZ2 HRC2 HFT2;replace hM:dI M (i:Int) b=M2:=by rw[dI,if_pos (by omega),Int.toNat_natCast,hM]
       rw[hM]at HNX;clear hM;clear M;obtain⟨M,rfl⟩:∃z:MQ,z=M2:=⟨_,rfl⟩;by_cases hv0:0≤pv
       ·obtain⟨j,rfl⟩:∃j:Nat,pv=j:=⟨pv.toNat,by omega⟩;have hj:j<n:=by omega
        go_upto_region 15 with(fail)
        have hb:=aT Z1;replace HB:=aH (HB.out.trans (hb.mono HGZ.out));replace HGZ:=aH (Nat.le_trans HGZ.out hb.size);replace HL:=aH (HL.out.call hb);replace HBX:=bL HBX hb;replace HRB:=aH (HRB.out.ext hb);clear hb;have hrl:(M.getD j []).length=n:=HRC.out.rowlen hj;obtain⟨br,or,cr,nr,E1,m1,d1,E2,m2,d2,hu,hc,hE,hrt,hfz,_,_,hbr,hbrl,hne⟩:=HL.out.elem HRC.out.1 hj (k:=j) (by rw[hrl];exact hj);rw[hrl]at hu hc;rw[Nat.zero_add]at hc;have HU:=aH hu;have CO:=aH hc;have EL:=aH (show El Z1.drew br (or+j*4) (.bool nr) (.slice E1 m1 d1) (.bool false) (.slice E2 m2 d2)from⟨hE.c0,hE.c1,hE.c2,hE.c3,hfz _,hfz _,hfz _,hfz _⟩);have HRE:=aH (show Rt Z1.drew (.agg #[.bool nr,.slice E1 m1 d1,.bool false,.slice E2 m2 d2]) (at2 M j j)from hrt);have HFE:=aH (HFT.out.at_ HRC.out hj hj);have HBR:=aH hbr;clear hu hc hE hrt hfz hne hrl hbr hbrl;refine aJ (fun w'=>w'.cell? ⟨ga,j,none⟩=some (.slice (some ⟨br,or,none⟩) n cr)∧w'.cell? ⟨br,or+j*4,none⟩=some (.bool nr)∧w'.cell? ⟨br,or+j*4+1,none⟩=some (.slice E1 m1 d1)∧w'.cell? ⟨br,or+j*4+2,none⟩=some (.bool false)∧w'.cell? ⟨br,or+j*4+3,none⟩=some (.slice E2 m2 d2)∧w'.cell? ⟨gs,0,none⟩=some (.bool nb0)∧w'.cell? ⟨gs,1,none⟩=some (.slice Q1 l1 j1)∧w'.cell? ⟨gs,2,none⟩=some (.bool false)∧w'.cell? ⟨gs,3,none⟩=some (.slice Q2 l2 j2)) 15 (by kernel_rfl) ?_;generalize Z1.drew=X2 at*;refine tkS ⟨CO.out,EL.out.c0,EL.out.c1,EL.out.c2,EL.out.c3,HBX.out.cell 0,HBX.out.cell 1,HBX.out.cell 2,HBX.out.cell 3⟩ fun hSS=>?_;refine aZ 0 (.slice (some ⟨ga,0,none⟩) n n) rfl hSS ?_;refine aZ 1 (I j) rfl hSS ?_;refine aZ 2 (.pointer (some ⟨ga,j,none⟩)) rfl hSS ?_;refine aZ 3 (.slice (some ⟨br,or,none⟩) n cr) rfl hSS ?_;refine aZ 4 (I j) rfl hSS ?_;refine aZ 5 (.slice (some ⟨ga,0,none⟩) n n) rfl hSS ?_;refine aZ 6 (I j) rfl hSS ?_;refine aZ 7 (.pointer (some ⟨ga,j,none⟩)) rfl hSS ?_;refine aZ 8 (.slice (some ⟨br,or,none⟩) n cr) rfl hSS ?_;refine aZ 9 (I j) rfl hSS ?_;refine aZ 10 (.pointer (some ⟨br,or+j*4,none⟩)) rfl hSS ?_;refine aZ 11 (.agg #[.bool nr,.slice E1 m1 d1,.bool false,.slice E2 m2 d2]) rfl hSS ?_;refine aZ 12 (.agg #[.bool nb0,.slice Q1 l1 j1,.bool false,.slice Q2 l2 j2]) rfl hSS ?_;refine on1 13 fun K hK=>?_;go_simp;go_at_call 99;refine(gK _ _ _ _ X2 HRE.out HRB.out (N:=600) (by decide) (HFE.out.mono (by decide)) (HBF.out.mono (by decide))).mono ?_;rintro e Y2 ⟨vv,rfl,hvv,hb⟩;replace HB:=aH (HB.out.trans (hb.mono HGZ.out));replace HGZ:=aH (Nat.le_trans HGZ.out hb.size);replace HL:=aH (HL.out.call hb);replace HBX:=bL HBX hb;replace HRB:=aH (HRB.out.ext hb);replace CO:=aH (aA CO.out hb);replace EL:=aH (EL.out.below hb);clear hb;clear HRE;refine hK.out _ _ (fun _=>⟨CO.out,EL.out.c0,EL.out.c1,EL.out.c2,EL.out.c3,HBX.out.cell 0,HBX.out.cell 1,HBX.out.cell 2,HBX.out.cell 3⟩) ?_;clear hK K;refine aZ 14 (.pointer (some ⟨br,or+j*4,none⟩)) rfl ⟨CO.out,EL.out.c0,EL.out.c1,EL.out.c2,EL.out.c3,HBX.out.cell 0,HBX.out.cell 1,HBX.out.cell 2,HBX.out.cell 3⟩ ?_;obtain⟨tb,T1,t1,u1,T2,t2,u2,rfl⟩:=hvv.bools;obtain⟨hl,hkw2⟩:=HL.out.putEl (k:=j) HRC.out.1 hj HU.out hj hvv;have HL2:=aH (show LM (put4 Y2 br (or+j*4) (.bool tb) (.slice T1 t1 u1) (.bool false) (.slice T2 t2 u2)) ga (.slice (some ⟨ga,0,none⟩) n n) vs (mN M j j (at2 M j j+b))from hl);have HB2:=aH (cD (o:=or+j*4) HB.out HBR.out (.bool tb) (.slice T1 t1 u1) (.bool false) (.slice T2 t2 u2));have hnq:gs≠br:=fun e=>Nat.lt_irrefl _ (e▸HGS.out j br or n cr HU.out);have HBX2:=aH (show Blk (put4 Y2 br (or+j*4) (.bool tb) (.slice T1 t1 u1) (.bool false) (.slice T2 t2 u2)) gs 122 #[.bool nb0,.slice Q1 l1 j1,.bool false,.slice Q2 l2 j2]from(cR Y2 _ _ _ _ _ hnq).trans HBX.out);have HRB2:=aH (HRB.out.kw hkw2);have HGZ2:=aH (show ga≤(put4 Y2 br (or+j*4) (.bool tb) (.slice T1 t1 u1) (.bool false) (.slice T2 t2 u2)).heap.size by rw[jC];exact HGZ.out);have HRC2:=aH (dJ HRC.out hj j (at2 M j j+b));have HFT2:=aH (iG (HFT.out.mono (show 253≤256 by omega)) HRC.out hj (j:=j) ((eK HFE.out HBF.out).mono (by omega)));have z0:=EL.out.c0;have y0:=EL.out.f0;have z1:=EL.out.c1;have y1:=EL.out.f1;have z2:=EL.out.c2;have y2:=EL.out.f2;have z3:=EL.out.c3;have y3:=EL.out.f3;clear HL HB HBX HRB HGZ hl hkw2 hvv hnq CO EL HU HFE HBR HRC HFT;refine on1 15 fun K hK=>?_;go_simp;clear z0 z1 z2 z3 y0 y1 y2 y3;rw[iS];generalize(put4 Y2 br (or+j*4) (.bool tb) (.slice T1 t1 u1) (.bool false) (.slice T2 t2 u2))=Z2 at*;generalize hM:mN M j j (at2 M j j+b)=M2 at*;refine hK.out _ _ (fun h=>absurd h (by decide)) ?_;clear hK K;refine aG (by kernel_rfl) ?_ _;have HL:=HL2;have HB:=HB2;have HBX:=HBX2;have HRB:=HRB2;have HGZ:=HGZ2;have HRC:=HRC2;have HFT:=HFT2;clear HL2 HB2 HBX2 HRB2 HGZ2 HRC2 HFT2;replace hM:dI M (j:Int) b=M2:=by rw[dI,if_pos (by omega),Int.toNat_natCast,hM]
        rw[hM]at HNX;clear hM;clear M;obtain⟨M,rfl⟩:∃z:MQ,z=M2:=⟨_,rfl⟩;skip;go_upto_region 17 with(fail)
        have hb:=aT Z2;replace HB:=aH (HB.out.trans (hb.mono HGZ.out));replace HGZ:=aH (Nat.le_trans HGZ.out hb.size);replace HL:=aH (HL.out.call hb);replace HBX:=bL HBX hb;replace HRB:=aH (HRB.out.ext hb);clear hb;have hrl:(M.getD i []).length=n:=HRC.out.rowlen hi;obtain⟨br,or,cr,nr,Er1,mr1,dr1,Er2,mr2,dr2,hu,hc,hE,hrt,hfz,_,_,hbr,hbrl,hne⟩:=HL.out.elem HRC.out.1 hi (k:=j) (by rw[hrl];exact hj);rw[hrl]at hu hc;rw[Nat.zero_add]at hc;have HUr:=aH hu;have COr:=aH hc;have ELr:=aH (show El Z2.drew br (or+j*4) (.bool nr) (.slice Er1 mr1 dr1) (.bool false) (.slice Er2 mr2 dr2)from⟨hE.c0,hE.c1,hE.c2,hE.c3,hfz _,hfz _,hfz _,hfz _⟩);have HREr:=aH (show Rt Z2.drew (.agg #[.bool nr,.slice Er1 mr1 dr1,.bool false,.slice Er2 mr2 dr2]) (at2 M i j)from hrt);have HFEr:=aH (HFT.out.at_ HRC.out hi hj);have HBRr:=aH hbr;clear hu hc hE hrt hfz hne hrl hbr hbrl;have hrl:(M.getD j []).length=n:=HRC.out.rowlen hj;obtain⟨bs,os,cs,ns,Es1,ms1,ds1,Es2,ms2,ds2,hu,hc,hE,hrt,hfz,_,_,hbr,hbrl,hne⟩:=HL.out.elem HRC.out.1 hj (k:=i) (by rw[hrl];exact hi);rw[hrl]at hu hc;rw[Nat.zero_add]at hc;have HUs:=aH hu;have COs:=aH hc;have ELs:=aH (show El Z2.drew bs (os+i*4) (.bool ns) (.slice Es1 ms1 ds1) (.bool false) (.slice Es2 ms2 ds2)from⟨hE.c0,hE.c1,hE.c2,hE.c3,hfz _,hfz _,hfz _,hfz _⟩);have HREs:=aH (show Rt Z2.drew (.agg #[.bool ns,.slice Es1 ms1 ds1,.bool false,.slice Es2 ms2 ds2]) (at2 M j i)from hrt);have HFEs:=aH (HFT.out.at_ HRC.out hj hi);have HBRs:=aH hbr;clear hu hc hE hrt hfz hne hrl hbr hbrl;refine aJ (fun w'=>w'.cell? ⟨ga,i,none⟩=some (.slice (some ⟨br,or,none⟩) n cr)∧w'.cell? ⟨br,or+j*4,none⟩=some (.bool nr)∧w'.cell? ⟨br,or+j*4+1,none⟩=some (.slice Er1 mr1 dr1)∧w'.cell? ⟨br,or+j*4+2,none⟩=some (.bool false)∧w'.cell? ⟨br,or+j*4+3,none⟩=some (.slice Er2 mr2 dr2)∧w'.cell? ⟨ga,j,none⟩=some (.slice (some ⟨bs,os,none⟩) n cs)∧w'.cell? ⟨bs,os+i*4,none⟩=some (.bool ns)∧w'.cell? ⟨bs,os+i*4+1,none⟩=some (.slice Es1 ms1 ds1)∧w'.cell? ⟨bs,os+i*4+2,none⟩=some (.bool false)∧w'.cell? ⟨bs,os+i*4+3,none⟩=some (.slice Es2 ms2 ds2)∧w'.cell? ⟨gs,0,none⟩=some (.bool nb0)∧w'.cell? ⟨gs,1,none⟩=some (.slice Q1 l1 j1)∧w'.cell? ⟨gs,2,none⟩=some (.bool false)∧w'.cell? ⟨gs,3,none⟩=some (.slice Q2 l2 j2)) 29 (by kernel_rfl) ?_;generalize Z2.drew=X3 at*;refine tkS ⟨COr.out,ELr.out.c0,ELr.out.c1,ELr.out.c2,ELr.out.c3,COs.out,ELs.out.c0,ELs.out.c1,ELs.out.c2,ELs.out.c3,HBX.out.cell 0,HBX.out.cell 1,HBX.out.cell 2,HBX.out.cell 3⟩ fun hSS=>?_;refine aZ 0 (.slice (some ⟨ga,0,none⟩) n n) rfl hSS ?_;refine aZ 1 (I i) rfl hSS ?_;refine aZ 2 (.pointer (some ⟨ga,i,none⟩)) rfl hSS ?_;refine aZ 3 (.slice (some ⟨br,or,none⟩) n cr) rfl hSS ?_;refine aZ 4 (I j) rfl hSS ?_;refine aZ 5 (.slice (some ⟨ga,0,none⟩) n n) rfl hSS ?_;refine aZ 6 (I j) rfl hSS ?_;refine aZ 7 (.pointer (some ⟨ga,j,none⟩)) rfl hSS ?_;refine aZ 8 (.slice (some ⟨bs,os,none⟩) n cs) rfl hSS ?_;refine tkP 9 (I i) rfl (Or.inl ⟨by rfl,?_⟩) hSS ?_
        ·intro w _;go_simp
        refine aZ 10 (.slice (some ⟨ga,0,none⟩) n n) rfl hSS ?_;refine aZ 11 (I i) rfl hSS ?_;refine aZ 12 (.pointer (some ⟨ga,i,none⟩)) rfl hSS ?_;refine aZ 13 (.slice (some ⟨br,or,none⟩) n cr) rfl hSS ?_;refine aZ 14 (I j) rfl hSS ?_;refine aZ 15 (.pointer (some ⟨br,or+j*4,none⟩)) rfl hSS ?_;refine aZ 16 (.agg #[.bool nr,.slice Er1 mr1 dr1,.bool false,.slice Er2 mr2 dr2]) rfl hSS ?_;refine aZ 17 (.agg #[.bool nb0,.slice Q1 l1 j1,.bool false,.slice Q2 l2 j2]) rfl hSS ?_;refine aZ 19 (.slice (some ⟨ga,0,none⟩) n n) rfl hSS ?_;refine aZ 20 (I j) rfl hSS ?_;refine aZ 21 (.pointer (some ⟨ga,j,none⟩)) rfl hSS ?_;refine aZ 22 (.slice (some ⟨bs,os,none⟩) n cs) rfl hSS ?_;refine aZ 23 (I i) rfl hSS ?_;refine aZ 24 (.pointer (some ⟨bs,os+i*4,none⟩)) rfl hSS ?_;refine aZ 25 (.agg #[.bool ns,.slice Es1 ms1 ds1,.bool false,.slice Es2 ms2 ds2]) rfl hSS ?_;refine aZ 26 (.agg #[.bool nb0,.slice Q1 l1 j1,.bool false,.slice Q2 l2 j2]) rfl hSS ?_;refine on1 18 fun K hK=>?_;go_simp;go_at_call 111;refine(jO _ _ _ _ X3 HREr.out HRB.out (N:=600) (by decide) (HFEr.out.mono (by decide)) (HBF.out.mono (by decide))).mono ?_;rintro e Y3 ⟨v1,rfl,hv1,hb⟩;have HV1:=aH hv1;replace HREs:=aH (HREs.out.ext hb);replace HB:=aH (HB.out.trans (hb.mono HGZ.out));replace HGZ:=aH (Nat.le_trans HGZ.out hb.size);replace HL:=aH (HL.out.call hb);replace HBX:=bL HBX hb;replace HRB:=aH (HRB.out.ext hb);replace COr:=aH (aA COr.out hb);replace COs:=aH (aA COs.out hb);replace ELr:=aH (ELr.out.below hb);replace ELs:=aH (ELs.out.below hb);clear hb;clear HREr hv1;refine hK.out _ _ (fun _=>⟨COr.out,ELr.out.c0,ELr.out.c1,ELr.out.c2,ELr.out.c3,COs.out,ELs.out.c0,ELs.out.c1,ELs.out.c2,ELs.out.c3,HBX.out.cell 0,HBX.out.cell 1,HBX.out.cell 2,HBX.out.cell 3⟩) ?_;clear hK K;refine on1 27 fun K hK=>?_;go_simp;go_at_call 111;refine(jO _ _ _ _ Y3 HREs.out HRB.out (N:=600) (by decide) (HFEs.out.mono (by decide)) (HBF.out.mono (by decide))).mono ?_;rintro e U3 ⟨v2,rfl,hv2,hb⟩;replace HV1:=aH (HV1.out.ext hb);have HV2:=aH hv2;replace HB:=aH (HB.out.trans (hb.mono HGZ.out));replace HGZ:=aH (Nat.le_trans HGZ.out hb.size);replace HL:=aH (HL.out.call hb);replace HBX:=bL HBX hb;replace HRB:=aH (HRB.out.ext hb);replace COr:=aH (aA COr.out hb);replace COs:=aH (aA COs.out hb);replace ELr:=aH (ELr.out.below hb);replace ELs:=aH (ELs.out.below hb);clear hb;clear HREs hv2;refine hK.out _ _ (fun _=>⟨COr.out,ELr.out.c0,ELr.out.c1,ELr.out.c2,ELr.out.c3,COs.out,ELs.out.c0,ELs.out.c1,ELs.out.c2,ELs.out.c3,HBX.out.cell 0,HBX.out.cell 1,HBX.out.cell 2,HBX.out.cell 3⟩) ?_;clear hK K;refine on1 28 fun K hK=>?_;go_simp;refine hK.out _ _ (fun _=>⟨COr.out,ELr.out.c0,ELr.out.c1,ELr.out.c2,ELr.out.c3,COs.out,ELs.out.c0,ELs.out.c1,ELs.out.c2,ELs.out.c3,HBX.out.cell 0,HBX.out.cell 1,HBX.out.cell 2,HBX.out.cell 3⟩) ?_;clear hK K;obtain⟨M0,hM0⟩:∃z:MQ,z=M:=⟨_,rfl⟩;rw[←hM0]at HV1 HV2 HNX HFEr HFEs;have hvv:=HV1.out;obtain⟨tb1,T11,t11,u11,T12,t12,u12,rfl⟩:=hvv.bools;obtain⟨hl,hkw2⟩:=HL.out.putEl (k:=j) HRC.out.1 hi HUr.out hj hvv;have HL2:=aH (show LM (put4 U3 br (or+j*4) (.bool tb1) (.slice T11 t11 u11) (.bool false) (.slice T12 t12 u12)) ga (.slice (some ⟨ga,0,none⟩) n n) vs (mN M i j (at2 M0 i j-b))from hl);have HB2:=aH (cD (o:=or+j*4) HB.out HBRr.out (.bool tb1) (.slice T11 t11 u11) (.bool false) (.slice T12 t12 u12));have hnq:gs≠br:=fun e=>Nat.lt_irrefl _ (e▸HGS.out i br or n _ HUr.out);have HBX2:=aH (show Blk (put4 U3 br (or+j*4) (.bool tb1) (.slice T11 t11 u11) (.bool false) (.slice T12 t12 u12)) gs 122 #[.bool nb0,.slice Q1 l1 j1,.bool false,.slice Q2 l2 j2]from(cR U3 _ _ _ _ _ hnq).trans HBX.out);have HRB2:=aH (HRB.out.kw hkw2);have HGZ2:=aH (show ga≤(put4 U3 br (or+j*4) (.bool tb1) (.slice T11 t11 u11) (.bool false) (.slice T12 t12 u12)).heap.size by rw[jC];exact HGZ.out);have HRC2:=aH (dJ HRC.out hi j (at2 M0 i j-b));have HFT2:=aH (iG (HFT.out.mono (show 256≤259 by omega)) HRC.out hi (j:=j) ((fK HFEr.out HBF.out).mono (by omega)));have HV22:=aH (HV2.out.kw hkw2);have z0:=ELr.out.c0;have y0:=ELr.out.f0;have z1:=ELr.out.c1;have y1:=ELr.out.f1;have z2:=ELr.out.c2;have y2:=ELr.out.f2;have z3:=ELr.out.c3;have y3:=ELr.out.f3;clear HL HB HBX HRB HGZ hl hkw2 hvv hnq HRC HFT HV2 HV1 ELr ELs HUr COr COs HBRr HFEr;refine on1 29 fun K hK=>?_;go_simp;clear z0 z1 z2 z3 y0 y1 y2 y3;rw[iS];generalize(put4 U3 br (or+j*4) (.bool tb1) (.slice T11 t11 u11) (.bool false) (.slice T12 t12 u12))=R1 at*;refine hK.out _ _ (fun h=>absurd h (by decide)) ?_;clear hK K;have HL:=HL2;have HB:=HB2;have HBX:=HBX2;have HRB:=HRB2;have HGZ:=HGZ2;have HRC:=HRC2;have HFT:=HFT2;clear HL2 HB2 HBX2 HRB2 HGZ2 HRC2 HFT2;have HV2:=HV22;clear HV22;generalize hM1:mN M i j (at2 M0 i j-b)=M1 at*;refine on1 30 fun K hK=>?_;go_simp;refine hK.out _ _ (fun h=>absurd h (by decide)) ?_;clear hK K;have hrl:(M1.getD j []).length=n:=HRC.out.rowlen hj;obtain⟨b9,o9,c9,nx,X1,x1,y1,X2,x2,y2,hu,hc,hE,hrt,hfz,_,_,hbr,hbrl,hne⟩:=HL.out.elem HRC.out.1 hj (k:=i) (by rw[hrl];exact hi);rw[hrl]at hu;have q9:=Option.some.inj (hu.symm.trans HUs.out);replace q9:=slI q9;obtain⟨q9,q8⟩:=q9;replace q9:=adI q9;obtain⟨q9,q7⟩:=q9;subst q9 q8 q7;have ELs:=aH (show El R1 b9 (o9+i*4) (.bool nx) (.slice X1 x1 y1) (.bool false) (.slice X2 x2 y2)from⟨hE.c0,hE.c1,hE.c2,hE.c3,hfz _,hfz _,hfz _,hfz _⟩);clear hu hc hE hrt hfz hne hrl hbr hbrl;have hvv:=HV2.out;obtain⟨tb2,T21,t21,u21,T22,t22,u22,rfl⟩:=hvv.bools;obtain⟨hl,hkw2⟩:=HL.out.putEl (k:=i) HRC.out.1 hj HUs.out hi hvv;have HL2:=aH (show LM (put4 R1 b9 (o9+i*4) (.bool tb2) (.slice T21 t21 u21) (.bool false) (.slice T22 t22 u22)) ga (.slice (some ⟨ga,0,none⟩) n n) vs (mN M1 j i (at2 M0 j i-b))from hl);have HB2:=aH (cD (o:=o9+i*4) HB.out HBRs.out (.bool tb2) (.slice T21 t21 u21) (.bool false) (.slice T22 t22 u22));have hnq:gs≠b9:=fun e=>Nat.lt_irrefl _ (e▸HGS.out j b9 o9 n _ HUs.out);have HBX2:=aH (show Blk (put4 R1 b9 (o9+i*4) (.bool tb2) (.slice T21 t21 u21) (.bool false) (.slice T22 t22 u22)) gs 122 #[.bool nb0,.slice Q1 l1 j1,.bool false,.slice Q2 l2 j2]from(cR R1 _ _ _ _ _ hnq).trans HBX.out);have HRB2:=aH (HRB.out.kw hkw2);have HGZ2:=aH (show ga≤(put4 R1 b9 (o9+i*4) (.bool tb2) (.slice T21 t21 u21) (.bool false) (.slice T22 t22 u22)).heap.size by rw[jC];exact HGZ.out);have HRC2:=aH (dJ HRC.out hj i (at2 M0 j i-b));have HFT2:=aH (iG (HFT.out.mono (show 259≤259 by omega)) HRC.out hj (j:=i) ((fK HFEs.out HBF.out).mono (by omega)));have z0:=ELs.out.c0;have y0:=ELs.out.f0;have z1:=ELs.out.c1;have y1:=ELs.out.f1;have z2:=ELs.out.c2;have y2:=ELs.out.f2;have z3:=ELs.out.c3;have y3:=ELs.out.f3;clear HL HB HBX HRB HGZ hl hkw2 hvv hnq HRC HFT HV2 ELs HUs HBRs HFEs;refine on1 31 fun K hK=>?_;go_simp;clear z0 z1 z2 z3 y0 y1 y2 y3;rw[iS];generalize(put4 R1 b9 (o9+i*4) (.bool tb2) (.slice T21 t21 u21) (.bool false) (.slice T22 t22 u22))=Z3 at*;refine hK.out _ _ (fun h=>absurd h (by decide)) ?_;clear hK K;have HL:=HL2;have HB:=HB2;have HBX:=HBX2;have HRB:=HRB2;have HGZ:=HGZ2;have HRC:=HRC2;have HFT:=HFT2;clear HL2 HB2 HBX2 HRB2 HGZ2 HRC2 HFT2;refine aG (by kernel_rfl) ?_ _;have HE:=aH (show vF M0 (i:Int) (j:Int) b=mN M1 j i (at2 M0 j i-b) by rw[vF,if_pos (by omega),Int.toNat_natCast,Int.toNat_natCast,←hM1,hM0]);have HP2:=aH (show∃vs,LM Z3 ga (.slice (some ⟨ga,0,none⟩) n n) vs (gR free frm tu B n (k+1))from⟨_,by rw[HNX.out,HE.out];exact HL.out⟩);clear HL HBX HRB HGZ HNX HRC HFT;go_wp2;go_roundg (nb-(k+1));case measure=>omega
        case rel=>exact⟨k+1,rfl,by go_num,by omega,HP2,HB⟩
       ·have hpv0:pv=-1:=by omega
        rw[show dI M pv b=M by rw[dI,if_neg (by omega)]]at HNX;have HP2:=aH (show∃vs,LM Z1 ga (.slice (some ⟨ga,0,none⟩) n n) vs (gR free frm tu B n (k+1))from⟨_,by rw[HNX.out,vF,if_neg (fun q=>by omega)];exact HL.out⟩);clear HL HBX HRB HGZ HNX HRC HFT;go_wp2;go_roundg (nb-(k+1));case measure=>omega
        case rel=>exact⟨k+1,rfl,by go_num,by omega,HP2,HB⟩
      ·have hpu0:pu=-1:=by omega
       rw[show dI M pu b=M by rw[dI,if_neg (by omega)]]at HNX;by_cases hv0:0≤pv
       ·obtain⟨j,rfl⟩:∃j:Nat,pv=j:=⟨pv.toNat,by omega⟩;have hj:j<n:=by omega
        go_upto_region 15 with(fail)
        have hb:=aT W5;replace HB:=aH (HB.out.trans (hb.mono HGZ.out));replace HGZ:=aH (Nat.le_trans HGZ.out hb.size);replace HL:=aH (HL.out.call hb);replace HBX:=bL HBX hb;replace HRB:=aH (HRB.out.ext hb);clear hb;have hrl:(M.getD j []).length=n:=HRC.out.rowlen hj;obtain⟨br,or,cr,nr,E1,m1,d1,E2,m2,d2,hu,hc,hE,hrt,hfz,_,_,hbr,hbrl,hne⟩:=HL.out.elem HRC.out.1 hj (k:=j) (by rw[hrl];exact hj);rw[hrl]at hu hc;rw[Nat.zero_add]at hc;have HU:=aH hu;have CO:=aH hc;have EL:=aH (show El W5.drew br (or+j*4) (.bool nr) (.slice E1 m1 d1) (.bool false) (.slice E2 m2 d2)from⟨hE.c0,hE.c1,hE.c2,hE.c3,hfz _,hfz _,hfz _,hfz _⟩);have HRE:=aH (show Rt W5.drew (.agg #[.bool nr,.slice E1 m1 d1,.bool false,.slice E2 m2 d2]) (at2 M j j)from hrt);have HFE:=aH (HFT.out.at_ HRC.out hj hj);have HBR:=aH hbr;clear hu hc hE hrt hfz hne hrl hbr hbrl;refine aJ (fun w'=>w'.cell? ⟨ga,j,none⟩=some (.slice (some ⟨br,or,none⟩) n cr)∧w'.cell? ⟨br,or+j*4,none⟩=some (.bool nr)∧w'.cell? ⟨br,or+j*4+1,none⟩=some (.slice E1 m1 d1)∧w'.cell? ⟨br,or+j*4+2,none⟩=some (.bool false)∧w'.cell? ⟨br,or+j*4+3,none⟩=some (.slice E2 m2 d2)∧w'.cell? ⟨gs,0,none⟩=some (.bool nb0)∧w'.cell? ⟨gs,1,none⟩=some (.slice Q1 l1 j1)∧w'.cell? ⟨gs,2,none⟩=some (.bool false)∧w'.cell? ⟨gs,3,none⟩=some (.slice Q2 l2 j2)) 15 (by kernel_rfl) ?_;generalize W5.drew=X4 at*;refine tkS ⟨CO.out,EL.out.c0,EL.out.c1,EL.out.c2,EL.out.c3,HBX.out.cell 0,HBX.out.cell 1,HBX.out.cell 2,HBX.out.cell 3⟩ fun hSS=>?_;refine aZ 0 (.slice (some ⟨ga,0,none⟩) n n) rfl hSS ?_;refine aZ 1 (I j) rfl hSS ?_;refine aZ 2 (.pointer (some ⟨ga,j,none⟩)) rfl hSS ?_;refine aZ 3 (.slice (some ⟨br,or,none⟩) n cr) rfl hSS ?_;refine aZ 4 (I j) rfl hSS ?_;refine aZ 5 (.slice (some ⟨ga,0,none⟩) n n) rfl hSS ?_;refine aZ 6 (I j) rfl hSS ?_;refine aZ 7 (.pointer (some ⟨ga,j,none⟩)) rfl hSS ?_;refine aZ 8 (.slice (some ⟨br,or,none⟩) n cr) rfl hSS ?_;refine aZ 9 (I j) rfl hSS ?_;refine aZ 10 (.pointer (some ⟨br,or+j*4,none⟩)) rfl hSS ?_;refine aZ 11 (.agg #[.bool nr,.slice E1 m1 d1,.bool false,.slice E2 m2 d2]) rfl hSS ?_;refine aZ 12 (.agg #[.bool nb0,.slice Q1 l1 j1,.bool false,.slice Q2 l2 j2]) rfl hSS ?_;refine on1 13 fun K hK=>?_;go_simp;go_at_call 99;refine(gK _ _ _ _ X4 HRE.out HRB.out (N:=600) (by decide) (HFE.out.mono (by decide)) (HBF.out.mono (by decide))).mono ?_;rintro e Y4 ⟨vv,rfl,hvv,hb⟩;replace HB:=aH (HB.out.trans (hb.mono HGZ.out));replace HGZ:=aH (Nat.le_trans HGZ.out hb.size);replace HL:=aH (HL.out.call hb);replace HBX:=bL HBX hb;replace HRB:=aH (HRB.out.ext hb);replace CO:=aH (aA CO.out hb);replace EL:=aH (EL.out.below hb);clear hb;clear HRE;refine hK.out _ _ (fun _=>⟨CO.out,EL.out.c0,EL.out.c1,EL.out.c2,EL.out.c3,HBX.out.cell 0,HBX.out.cell 1,HBX.out.cell 2,HBX.out.cell 3⟩) ?_;clear hK K;refine aZ 14 (.pointer (some ⟨br,or+j*4,none⟩)) rfl ⟨CO.out,EL.out.c0,EL.out.c1,EL.out.c2,EL.out.c3,HBX.out.cell 0,HBX.out.cell 1,HBX.out.cell 2,HBX.out.cell 3⟩ ?_;obtain⟨tb,T1,t1,u1,T2,t2,u2,rfl⟩:=hvv.bools;obtain⟨hl,hkw2⟩:=HL.out.putEl (k:=j) HRC.out.1 hj HU.out hj hvv;have HL2:=aH (show LM (put4 Y4 br (or+j*4) (.bool tb) (.slice T1 t1 u1) (.bool false) (.slice T2 t2 u2)) ga (.slice (some ⟨ga,0,none⟩) n n) vs (mN M j j (at2 M j j+b))from hl);have HB2:=aH (cD (o:=or+j*4) HB.out HBR.out (.bool tb) (.slice T1 t1 u1) (.bool false) (.slice T2 t2 u2));have hnq:gs≠br:=fun e=>Nat.lt_irrefl _ (e▸HGS.out j br or n cr HU.out);have HBX2:=aH (show Blk (put4 Y4 br (or+j*4) (.bool tb) (.slice T1 t1 u1) (.bool false) (.slice T2 t2 u2)) gs 122 #[.bool nb0,.slice Q1 l1 j1,.bool false,.slice Q2 l2 j2]from(cR Y4 _ _ _ _ _ hnq).trans HBX.out);have HRB2:=aH (HRB.out.kw hkw2);have HGZ2:=aH (show ga≤(put4 Y4 br (or+j*4) (.bool tb) (.slice T1 t1 u1) (.bool false) (.slice T2 t2 u2)).heap.size by rw[jC];exact HGZ.out);have HRC2:=aH (dJ HRC.out hj j (at2 M j j+b));have HFT2:=aH (iG (HFT.out.mono (show 250≤253 by omega)) HRC.out hj (j:=j) ((eK HFE.out HBF.out).mono (by omega)));have z0:=EL.out.c0;have y0:=EL.out.f0;have z1:=EL.out.c1;have y1:=EL.out.f1;have z2:=EL.out.c2;have y2:=EL.out.f2;have z3:=EL.out.c3;have y3:=EL.out.f3;clear HL HB HBX HRB HGZ hl hkw2 hvv hnq CO EL HU HFE HBR HRC HFT;refine on1 15 fun K hK=>?_;go_simp;clear z0 z1 z2 z3 y0 y1 y2 y3;rw[iS];generalize(put4 Y4 br (or+j*4) (.bool tb) (.slice T1 t1 u1) (.bool false) (.slice T2 t2 u2))=Z4 at*;generalize hM:mN M j j (at2 M j j+b)=M2 at*;refine hK.out _ _ (fun h=>absurd h (by decide)) ?_;clear hK K;refine aG (by kernel_rfl) ?_ _;have HL:=HL2;have HB:=HB2;have HBX:=HBX2;have HRB:=HRB2;have HGZ:=HGZ2;have HRC:=HRC2;have HFT:=HFT2;clear HL2 HB2 HBX2 HRB2 HGZ2 HRC2 HFT2;replace hM:dI M (j:Int) b=M2:=by rw[dI,if_pos (by omega),Int.toNat_natCast,hM]
        rw[hM]at HNX;clear hM;clear M;obtain⟨M,rfl⟩:∃z:MQ,z=M2:=⟨_,rfl⟩;have HP2:=aH (show∃vs,LM Z4 ga (.slice (some ⟨ga,0,none⟩) n n) vs (gR free frm tu B n (k+1))from⟨_,by rw[HNX.out,vF,if_neg (fun q=>by omega)];exact HL.out⟩);clear HL HBX HRB HGZ HNX HRC HFT;go_wp2;go_roundg (nb-(k+1));case measure=>omega
        case rel=>exact⟨k+1,rfl,by go_num,by omega,HP2,HB⟩
       ·have hpv0:pv=-1:=by omega
        rw[show dI M pv b=M by rw[dI,if_neg (by omega)]]at HNX;have HP2:=aH (show∃vs,LM W5 ga (.slice (some ⟨ga,0,none⟩) n n) vs (gR free frm tu B n (k+1))from⟨_,by rw[HNX.out,vF,if_neg (fun q=>by omega)];exact HL.out⟩);clear HL HBX HRB HGZ HNX HRC HFT;go_wp2;go_roundg (nb-(k+1));case measure=>omega
        case rel=>exact⟨k+1,rfl,by go_num,by omega,HP2,HB⟩
    ·have hkb:k=nb:=by omega
     subst hkb;obtain⟨vs,hLM⟩:=HP.out;obtain⟨hrect,hfit⟩:=aAu (frm:=frm) (tu:=tu) hn hB k;have HC:=aH (aTq (gR free frm tu B n k) n _ n wb hLM.rm hrect (by omega) (aYk hrect hn4 (hfit.mono (by omega))));have HGZ:=aH (show ga≤wb.heap.size from Nat.le_trans (by rw[←hga];exact Nat.le_refl _) HBSZ.out);clear HP hLM hrect hfit HEQ;generalize gR free frm tu B n k=M at*;go_wp2_with fail;refine HC.out.mono ?_;rintro e W3 ⟨v,vv,rfl,hv,hb⟩;obtain⟨Av,cv,rfl⟩:=hv.outer.val;clear HC;have HM3:=aH (HMW.out.call hb);have HB3:=aH (HB.out.trans (hb.mono HGZ.out));have HV:=aH hv;have c7:W3.cell? ⟨g,7,none⟩=some (.slice none 0 0):=by rw[HM3.out.blk.cell];rfl
     have f7:=HM3.out.blk.frozen 7;have hgb:g<ga:=by rw[←hga];exact HM.out.blk.lt
     have hgg:=HM.out.ge;have hbw0:base≤ga:=hbw;clear hv hb;go_wp2;have hs:=HM3.out.setIv (bJ _ _ _) (.slice Av (tR M n).1.length cv);have hLb:∀q,wb.heap.size≤q→q<W3.heap.size→(W3.setCell ⟨g,7,none⟩ (.slice Av (tR M n).1.length cv)).heap[q]?=W3.heap[q]?:=fun q h1 _=>Below.heap_setCell W3 _ _ q (fun e=>by have h4:=HGZ.out;have h5:q=g:=e;omega);have hlm:=(HV.out.keepB hs.2 hLb).less (Nat.le_trans hbw0 HGZ.out);exact bodyPost_end (v:= .tuple #[]) (by simp[results,go_sem]) rfl ⟨rfl,_,vv,hs.1,hlm,(HB3.out.mono hbw0).setCell hgg _⟩
end
end Go.Proofs.YtenbglfkdldheaaGreatDoor
