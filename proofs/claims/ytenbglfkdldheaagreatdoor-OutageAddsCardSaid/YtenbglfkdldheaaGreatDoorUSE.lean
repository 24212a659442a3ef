/- The sizes of the numbers of a small determinant. lin.Solve. slices.Repeat at rows of numbers, of one element; large.Zeros. lin.Inverse. -/
import Derived.Test.YtenbglfkdldheaaGreatDoorUSC
set_option maxRecDepth 100000
set_option maxHeartbeats 40000000
namespace Go.Proofs.YtenbglfkdldheaaGreatDoor
section
def zk:Nat→Nat
 |0=>14
 |k+1=>5*zk k+1
def dk:Nat→Nat
 |0=>1
 |k+1=>2*(dk k+zk k)
end
section
open Go.RowKit
theorem nU{P:Program}(w:World)(dT sT ty elem:TypeId)(g o dLen dCap:Nat)(a:Addr)(sLen sCap:Nat)(cur:Array Value)(t:TypeId)(cs:List Value)(sz n:Nat) (hu:P.underlying dT=some (.slice elem))(hs:(P.info? elem).map (·.size)=some sz)
  (hg:w.heap[g]?=some (.cells cur t (0,0)))(hn:n=Nat.min sLen dLen)(hcs:cs.length=n*sz)
  (hsrc:∀j v,cs[j]?=some v→w.cell? (a.add j)=some v)(hfit:o+cs.length≤cur.size)(h1:∀v∈cs,v.oneCell'=true):
  (Builtin.copy_ #[dT,sT] ty #[.slice (some ⟨g,o,none⟩) dLen dCap,.slice (some a) sLen sCap]).run P w= .ok (goInt n) (w.setRow g (cur.toList.take o++cs++cur.toList.drop (o+cs.length)).toArray):=by
 have hl:=run_loadCells_list (P:=P) w a cs hsrc;have hst:=run_storeCells_at P g o t cs 0 cur w hg (by simpa using hfit) h1;cases hq:P.info? elem with
 |none=>simp[hq]at hs
 |some i=>
  have hi:i.size=sz:=by simpa[hq]using hs
  subst hi;rw[hcs]at hl;simp[Builtin.copy_,run_underlying hu,Builtin.lenOf,Builtin.firstCells,sizeOf,typeInfo,hq,←hn,hl,hst]
theorem sO{P:Program}(w:World)(dT sT ty elem:TypeId)(d a:Option Addr)(dLen dCap sLen sCap sz:Nat)(hu:P.underlying dT=some (.slice elem))(hs:(P.info? elem).map (·.size)=some sz)(hn:Nat.min sLen dLen=0): (Builtin.copy_ #[dT,sT] ty #[.slice d dLen dCap,.slice a sLen sCap]).run P w= .ok (goInt 0) w:=by
 cases hq:P.info? elem with
 |none=>simp[hq]at hs
 |some i=>
  have hl:∀(x:Addr),(loadCells x 0).run P w= .ok #[] w:=fun x=>by simpa using run_loadCells_list (P:=P) w x [] (by simp)
  cases d<;>cases a<;>simp[Builtin.copy_,run_underlying hu,Builtin.lenOf,Builtin.firstCells,sizeOf,typeInfo,hq,hn,storeCells,hl]
def Cpy(w':World)(g:Nat)(t:TypeId)(cur:List Value)(off:Nat)(cs:List Value):Prop:=w'.heap[g]?=some (.cells (splice cur off cs).toArray t (0,0))
theorem rE{P:Program}(w:World)(dT sT ty elem:TypeId)(hu:P.underlying dT=some (.slice elem))(sz:Nat)(hsz:(P.info? elem).map (·.size)=some sz)(hs0:0<sz) (dp sp:Option Addr)(dLen dCap sLen sCap:Nat)(g off:Nat)(cur:List Value)(t:TypeId)(hg:w.heap[g]?=some (.cells cur.toArray t (0,0)))(cs:List Value)(n:Nat)(hn:n=Nat.min sLen dLen)(hcs:cs.length=n*sz)
  (hpos:0<cs.length→dp=some ⟨g,off,none⟩∧∃ad,sp=some ad∧∀j v,cs[j]?=some v→w.cell? (ad.add j)=some v)
  (hfit:off+cs.length≤cur.length)(h1:∀v∈cs,v.oneCell'=true)(B:Nat)(w0:World)(hb:Below B w0 w)(hBg:B≤g):
  ∃w',(Builtin.copy_ #[dT,sT] ty #[.slice dp dLen dCap,.slice sp sLen sCap]).run P w= .ok (goInt n) w'∧Cpy w' g t cur off cs∧Below B w0 w':=by
 by_cases h0:cs.length=0
 ·obtain rfl:cs=[]:=List.eq_nil_of_length_eq_zero h0;have hn0:n=0:=by
   rcases Nat.eq_zero_or_pos n with h|h
   ·exact h
   ·have:=Nat.mul_pos h hs0;simp at hcs;omega
  subst hn0;exact⟨w,sO (P:=P) w dT sT ty elem dp sp dLen dCap sLen sCap sz hu hsz hn.symm,show _=_ by simpa[splice]using hg,hb⟩
 ·obtain⟨rfl,ad,rfl,hsrc⟩:=hpos (by omega);have hrun:=nU (P:=P) w dT sT ty elem g off dLen dCap ad sLen sCap cur.toArray t cs sz n hu hsz hg hn hcs hsrc (by simpa using hfit) h1;exact⟨_,hrun,show _=_ by simpa[splice]using setRow_heap w g _ _ t _ hg,below_setRow hb hBg _⟩
theorem rF:(Tryz.prog.info? aM).map (·.size)=some 4:=by kernel_rfl
theorem aCm{w:World}{ops:Array Oper}{rest:List Oper}{o:Oper}{a:Act}{Q:Exit→Act→World→Prop}(hgd:o.guard=none)(d s:Operand) (ho:o.op= .call {callee:= .builtin .copy,args:=#[d,s],argTypes:=#[bW,bW]})
  (dp sp:Option Addr)(dLen dCap sLen sCap:Nat)(hd:a.eval d= .slice dp dLen dCap)(hs:a.eval s= .slice sp sLen sCap)
  (g off:Nat)(cur:List Value)(hg:w.heap[g]?=some (.cells cur.toArray aM (0,0)))(cs:List Value)(n:Nat)(hn:n=Nat.min sLen dLen)(hcs:cs.length=n*4)
  (hpos:0<cs.length→dp=some ⟨g,off,none⟩∧∃ad,sp=some ad∧∀j v,cs[j]?=some v→w.cell? (ad.add j)=some v)
  (hfit:off+cs.length≤cur.length)(h1:∀v∈cs,v.oneCell'=true)(B:Nat)(w0:World)(hb:Below B w0 w)(hBg:B≤g)
  (h:∀w',Hid (Cpy w' g aM cur off cs)→Below B w0 w'→wpList Tryz.prog ops Q rest (a.put o.dst (goInt n)) w'):wpList Tryz.prog ops Q (o::rest) a w:=by
 refine wpList_plain hgd fun K hK=>?_;obtain⟨w',hrun,h2,h3⟩:=rE (P:=Tryz.prog) w bW bW o.type aM Tryz.underlying111 4 rF (by omega) dp sp dLen dCap sLen sCap g off cur aM hg cs n hn hcs hpos hfit h1 B w0 hb hBg;unfold Oper.wp;simp only[execOp,ho,resolve,invoke,builtin,Sem.run_bind,Sem.run_pure,Result.andThen_ok,List.map_toArray,List.map_cons,List.map_nil,hd,hs,hrun];exact hK _ _ (h w' h2 h3)
theorem aHy{w:World}{ops:Array Oper}{o:Oper}{a:Act}{K:Act→World→Prop}{Q:Exit→Act→World→Prop}{E:Prop}(hgd:o.guard=none)(d s:Operand) (ho:o.op= .call {callee:= .builtin .copy,args:=#[d,s],argTypes:=#[bW,bW]})
  (dp sp:Option Addr)(dLen dCap sLen sCap:Nat)(hd:a.eval d= .slice dp dLen dCap)(hs:a.eval s= .slice sp sLen sCap)
  (g off:Nat)(cur:List Value)(hg:w.heap[g]?=some (.cells cur.toArray aM (0,0)))(cs:List Value)(n:Nat)(hn:n=Nat.min sLen dLen)(hcs:cs.length=n*4)
  (hpos:0<cs.length→dp=some ⟨g,off,none⟩∧∃ad,sp=some ad∧∀j v,cs[j]?=some v→w.cell? (ad.add j)=some v)
  (hfit:off+cs.length≤cur.length)(h1:∀v∈cs,v.oneCell'=true)(B:Nat)(w0:World)(hb:Below B w0 w)(hBg:B≤g)
  (h:∀w',Hid (Cpy w' g aM cur off cs)→Below B w0 w'→K (a.put o.dst (goInt n)) w'):if Region.wanted o (yielded ops a.tmps)=true then Oper.wp Tryz.prog o a w K Q else E:=by
 have hw:Region.wanted o (yielded ops a.tmps)=true:=by simp[Region.wanted,hgd]
 rw[if_pos hw];obtain⟨w',hrun,h2,h3⟩:=rE (P:=Tryz.prog) w bW bW o.type aM Tryz.underlying111 4 rF (by omega) dp sp dLen dCap sLen sCap g off cur aM hg cs n hn hcs hpos hfit h1 B w0 hb hBg;unfold Oper.wp;simp only[execOp,ho,resolve,invoke,builtin,Sem.run_bind,Sem.run_pure,Result.andThen_ok,List.map_toArray,List.map_cons,List.map_nil,hd,hs,hrun];exact h w' h2 h3
def jT(x0 x1 x2 x3:Value):Nat→List Value
 |0=>[]
 |k+1=>x0::x1::x2::x3::jT x0 x1 x2 x3 k
section
variable {x0 x1 x2 x3:Value}
theorem fP:∀k,(jT x0 x1 x2 x3 k).length=k*4
 |0=>rfl
 |k+1=>by simp only[jT,List.length_cons,fP k];omega
theorem xJ(j:Nat):∀k,jT x0 x1 x2 x3 k++jT x0 x1 x2 x3 j=jT x0 x1 x2 x3 (k+j)
 |0=>by rw[Nat.zero_add];rfl
 |k+1=>by rw[show k+1+j=(k+j)+1 by omega];simp only[jT,List.cons_append,xJ j k]
theorem uM{w:World}{q:Rat}(h:Rt w (.agg #[x0,x1,x2,x3]) q):∀k,RtL w (jT x0 x1 x2 x3 k) (List.replicate k q)
 |0=>rfl
 |k+1=> .mk h (uM h k)
structure RepI(w:World)(g:Nat)(x0 x1 x2 x3:Value)(n m:Nat)(wr:World):Prop where
 le:m≤n
 pos:1≤m∨n=0
 row:∃L:List Value,wr.heap[g]?=some (.cells L.toArray aM (0,0))∧L.length=n*4∧L.take (m*4)=jT x0 x1 x2 x3 m
 below:Below g w wr
theorem aFk{w wr:World}{g n m k:Nat}{L:List Value}(hl:L.length=n*4)(ht:L.take (m*4)=jT x0 x1 x2 x3 m)(hk:m+k≤n)(hp:1≤m+k∨n=0) (hc:Cpy wr g aM L (m*4) (jT x0 x1 x2 x3 k))(hb:Below g w wr):RepI w g x0 x1 x2 x3 n (m+k) wr:=by
 have hr:=fP (x0:=x0) (x1:=x1) (x2:=x2) (x3:=x3) k;refine⟨hk,hp,⟨_,hc,?_,?_⟩,hb⟩
 ·rw[length_splice _ _ _ (by omega),hl]
 ·unfold splice;rw[ht,←List.append_assoc,xJ,List.take_append_of_le_length (by rw[fP];omega),List.take_of_length_le (by rw[fP];omega)]
theorem aXg{w:World}{b off:Nat}{o:Obj}(n:Nat)(hb:b<w.heap.size)(hc:C4 w b off x0 x1 x2 x3): ∀j v,(jT x0 x1 x2 x3 (min 1 n))[j]?=some v→(w.alloc o).cell? ((⟨b,off,none⟩:Addr).add j)=some v:=by
 intro j v hv;rw[Addr.add_lit,World.cell?_alloc_lt _ _ _ hb];rcases Nat.eq_zero_or_pos n with h0|h0
 ·subst h0;simp[jT]at hv
 ·rw[show min 1 n=1 by omega]at hv;match j with
  |0=>exact hc.c0.trans hv
  |1=>exact hc.c1.trans hv
  |2=>exact hc.c2.trans hv
  |3=>exact hc.c3.trans hv
  |j+4=>simp[jT]at hv
theorem aXh{w:World}{g m k:Nat}{L:List Value}(hg:w.heap[g]?=some (.cells L.toArray aM (0,0)))(ht:L.take (m*4)=jT x0 x1 x2 x3 m)(hk:k≤m): ∀j v,(jT x0 x1 x2 x3 k)[j]?=some v→w.cell? ((⟨g,0,none⟩:Addr).add j)=some v:=by
 intro j v hv;have hj:j<k*4:=by
  have:=(List.getElem?_eq_some_iff.1 hv).1;rwa [fP]at this
 rw[Addr.add_lit,Nat.zero_add,cell_of_row w g j _ _ _ hg,List.getElem?_toArray];have e:L[j]?=(jT x0 x1 x2 x3 m)[j]?:=by rw[←ht,List.getElem?_take,if_pos (by omega)]
 rw[e,show m=k+(m-k) by omega,←xJ,List.getElem?_append_left (by rw[fP];omega)];exact hv
end
theorem RepI.done{w wr:World}{g n:Nat}{x0 x1 x2 x3:Value}{q:Rat}(h:RepI w g x0 x1 x2 x3 n n wr)(hq:Rt wr (.agg #[x0,x1,x2,x3]) q)(hg:w.heap.size=g)(hn:n≤1099511627776):RRow wr w.heap.size (.slice (some ⟨g,0,none⟩) n n) (List.replicate n q):=by
 obtain⟨L,h1,h2,h3⟩:=h.row;rw[List.take_of_length_le (by omega)]at h3;subst h3;have hw:∀u∈jT x0 x1 x2 x3 n,noWord u:=fun u hu=>by
  obtain⟨n0,n1,n2,n3⟩:=hq.noW;exact(uM hq n).noWord u hu|>.1
 have hb:=h.below;rw[←hg]at hb;exact Part.row (g:=g) ⟨⟨_,h1,h2,hw,by rw[List.length_replicate,List.take_of_length_le (by omega)];exact uM hq n⟩,by simp,hb⟩ (by simp) (by omega) (by unfold maxLen;omega)
theorem aFl(x0 x1 x2 x3:Value)(q:Rat)(n:Nat)(b off c:Nat)(w:World)(hb:b<w.heap.size)(hc:C4 w b off x0 x1 x2 x3)(hq:Rt w (.agg #[x0,x1,x2,x3]) q)(hn:n≤1000000): Calls Tryz.prog 157 #[.slice (some ⟨b,off,none⟩) 1 c,I n] w (mQ w (List.replicate n q)):=by
 have hmk:=xC n (by omega);have hnn:(n:Int)≤1099511627776:=by omega
 have HQ:=aH hq;have HG:=aH (heap_alloc_new w (.cells (madeCells mC (n*4)) aM));obtain⟨Z,hZ⟩:∃Z:List Value,(madeCells mC (n*4))=Z.toArray:=⟨(madeCells mC (n*4)).toList,by simp⟩;have HZ:=aH (show Z.length=n*4 by have h:(madeCells mC (n*4)).size=n*4:=(by simp[size_madeCells]);rw[hZ]at h;simpa using h);rw[hZ]at HG hmk;have HF:=aH (show 0*4+(jT x0 x1 x2 x3 (min 1 n)).length≤Z.length by rw[fP,HZ.out];omega);have HONE:=aH (show∀k,∀v∈jT x0 x1 x2 x3 k,v.oneCell'=true from fun k v hv=>((uM hq k).noWord v hv).2);have HSRC:=aH (aXg (x0:=x0) (x1:=x1) (x2:=x2) (x3:=x3) (o:= .cells Z.toArray aM) n hb hc);clear hZ hc hq;unfold aM bW at*;go_enter Tryz.func157,Tryz.ntmps157;go_wp2_with(first|(go_at_call 164;refine(aFo _ _ _ (by rfl) (by omega) (by omega)).mono ?_;rintro e w' ⟨rfl,rfl⟩)|(refine aCm rfl (.tmp 31) (.tmp 32) rfl (some ⟨w.heap.size,0,none⟩) (some ⟨b,off,none⟩) n n 1 c (by rfl) (by rfl) w.heap.size (0*4) Z HG.out (jT x0 x1 x2 x3 (min 1 n)) (min 1 n) (by rfl) (fP _) (fun _=>⟨rfl,_,rfl,HSRC.out⟩) HF.out (HONE.out _) w.heap.size w ((Below.refl _ _).alloc lR _) lR ?_;intro w1 hg1 hb1));have HI:RepI w w.heap.size x0 x1 x2 x3 n (0+min 1 n) w1:=aFk HZ.out (by rfl) (by omega) (by omega) hg1.out hb1;rw[Nat.zero_add]at HI;clear hg1 hb1 HG HF HSRC HZ hmk;go_loopw [8] (fun v wr=>∃m:Nat,v=I m∧RepI w w.heap.size x0 x1 x2 x3 n m wr) (fun v _=>n-(intOf v).toNat);case atStart=>exact⟨_,by go_num,HI⟩
 case round=>
  obtain⟨m,rfl,hI⟩:=hrel;have HI2:=aH hI;have h1:=hI.le;have h2:=hI.pos;clear hI;by_cases hlt:m<n
  ·have hm1:(1:Int)≤m:=by omega
   have hmn:(m:Int)<n:=by omega
   have hne:¬n=m:=by omega
   have hlo:(0:Int)≤(m:Int):=by omega
   obtain⟨L,hL1,hL2,hL3⟩:=HI2.out.row;have H1:=aH hL1;have H2:=aH hL2;have H3:=aH hL3;have H4:=aH HI2.out.below;have HF:=aH (show m*4+(jT x0 x1 x2 x3 (min m (n-m))).length≤L.length by rw[fP,H2.out];omega);clear hL1 hL2 hL3;go_wp2;go_region_law ((refine aHy rfl (.tmp 41) (.tmp 44) rfl (some ⟨w.heap.size,m*4,none⟩) (some ⟨w.heap.size,0,none⟩) (n-m) (n-m) m n (by kernel_rfl) (by kernel_rfl) w.heap.size (m*4) L H1.out (jT x0 x1 x2 x3 (min m (n-m))) (min m (n-m)) (by rfl) (fP _) (fun _=>⟨rfl,_,rfl,aXh H1.out H3.out (by omega)⟩) HF.out (HONE.out _) w.heap.size w H4.out.drew lR ?_;intro w2 hg2 hb2));have HN:RepI w w.heap.size x0 x1 x2 x3 n (m+min m (n-m)) w2:=aFk H2.out H3.out (by omega) (by omega) hg2.out hb2;clear hg2 hb2 HI HI2 H1 H2 H3 H4 HF;have hk1:(min m (n-m):Nat)≤n:=by omega
   have hk2:1≤(min m (n-m):Nat):=by omega
   generalize min m (n-m)=k at*;have hw1:IntKind.i64.wrap ((m:Int)+(k:Int))=(m:Int)+k:=IntWalk.i64_in _ (by omega);simp only[Act.put,hw1,List.getElem_toArray,List.getElem_cons_succ,List.getElem_cons_zero,List.setIfInBounds_toArray,List.set_cons_succ,List.set_cons_zero];clear hw1;go_wp2;go_roundw;case rel=>exact⟨m+k,by go_num,HN⟩
   case measure=>simp[intOf];omega
  ·obtain rfl:m=n:=by omega
   have HB:=aH HI2.out.below;have HR:=aH (HI2.out.done (HQ.out.ext HB.out) rfl (by omega));go_wp2;go_ret;exact⟨_,rfl,HR.out,HB.out⟩
theorem lK(n:Nat)(w:World)(hn:n≤1000000):Calls Tryz.prog 118 #[I n] w (mQ w (List.replicate n 0)):=by
 have HC:=aH (eJ 0 w (by decide) (by decide));go_enter Tryz.func118,Tryz.ntmps118;go_wp2_with fail;refine HC.out.mono ?_;rintro e w1 ⟨v,rfl,hv,hb⟩;clear HC;obtain⟨nb,A,l,c,B,m,d,rfl⟩:=hv.bools;have hz:=aD w1 (.cells #[.bool nb,.slice A l c,.bool false,.slice B m d] aM);have hB4:C4 (w1.alloc (.cells #[.bool nb,.slice A l c,.bool false,.slice B m d] aM)) w1.heap.size 0 (.bool nb) (.slice A l c) (.bool false) (.slice B m d):=by
  have h:=Blk.new w1 aM #[.bool nb,.slice A l c,.bool false,.slice B m d];exact⟨by rw[h.cell];rfl,by rw[h.cell];rfl,by rw[h.cell];rfl,by rw[h.cell];rfl⟩
 have HC:=aH (aFl _ _ _ _ 0 n w1.heap.size 0 1 _ (by simp) hB4 (hv.ext hz) hn);have HB:=aH (hb.trans (hz.mono hb.size));have HS:=aH (show w.heap.size≤(w1.alloc (.cells #[.bool nb,.slice A l c,.bool false,.slice B m d] aM)).heap.size from HB.out.size);clear hz hB4 hv hb;unfold aM at*;go_wp2_with fail;refine HC.out.mono ?_;rintro e w2 ⟨v,rfl,hr,hb⟩;have HR:=aH (hr.less HS.out);replace HB:=bT HB hb;obtain⟨A2,c2,rfl⟩:=HR.out.val;clear HC HS hr hb;generalize(List.replicate n (0:Rat)).length=ln at*;go_wp2;go_ret;exact⟨_,rfl,HR.out,HB.out⟩
theorem LM.nil(w:World)(base:Nat):LM w base (.slice none 0 0) [] []:=⟨Row.nil _ _ _ _,fun i u qs h=>by simp at h,fun i j u u' g _ h=>by simp at h⟩
theorem RRow.cutK{w:World}{base g off n c:Nat}{qs:List Rat}(h:RRow w base (.slice (some ⟨g,off,none⟩) n c) qs){k:Nat}(hk:k<n):RRow w base (.slice (some ⟨g,off+k*4,none⟩) (n-k) (c-k)) (qs.drop k):=by
 obtain⟨⟨xs,h1,h2⟩,h3⟩:=h;obtain⟨A',c',e⟩:=h1.val;injection e with _ e _;rw[←e]at h1;refine⟨⟨xs.drop (k*4),?_,h2.drop_ k⟩,fun g' o x hg=>h3 g' o x hg⟩;rw[List.length_drop,←e];have h4:=h1.cut k (by omega);obtain⟨g2,off2,cap2,cur,e2,_,_,h5,_⟩:=h1.form (by omega);injection e2 with _ _ e2;unfold sliced at h4;rw[if_neg (by omega),Option.map_some]at h4;simp only[Addr.add_lit]at h4;exact h4
def iO(n i:Nat)(m:MQ):MQ:=m.mapIdx fun a r=>if a<i then r.drop n else r
theorem aNs(n i:Nat)(m:MQ):(iO n i m).length=m.length:=List.length_mapIdx
theorem aHz(n:Nat)(m:MQ):iO n 0 m=m:=lJ m _ fun a x _=>if_neg (by omega)
theorem aNt{n i:Nat}{m:MQ}(h:i<m.length):(iO n i m).getD i []=m.getD i []:=by
 unfold iO;rw[dM m _ i [] [] h,if_neg (Nat.lt_irrefl _)]
theorem aNu{n i:Nat}{m:MQ}(h:i<m.length):(iO n i m).set i ((m.getD i []).drop n)=iO n (i+1) m:=by
 apply List.ext_getElem?;intro a;unfold iO;rw[List.getElem?_set,List.getElem?_mapIdx,List.getElem?_mapIdx,List.length_mapIdx];by_cases e:i=a
 ·subst e;have hx:m.getD i []=m[i]:=by rw[gD,gE h];rfl
  rw[if_pos rfl,if_pos h,gE h,hx];simp only[Option.map_some];rw[if_pos (Nat.lt_succ_self _)]
 ·rw[if_neg e];cases m[a]? with
  |none=>rfl
  |some x=>
   simp only[Option.map_some];by_cases h:a<i
   ·rw[if_pos h,if_pos (by omega)]
   ·rw[if_neg h,if_neg (by omega)]
theorem aNv(n:Nat)(m:MQ):iO n m.length m=m.map fun r=>r.drop n:=by
 apply List.ext_getElem?;intro a;unfold iO;rw[List.getElem?_mapIdx,List.getElem?_map];by_cases h:a<m.length
 ·rw[gE h];simp only[Option.map_some];rw[if_pos h]
 ·rw[List.getElem?_eq_none (by omega)];rfl
theorem LM.dropRow{w:World}{base g off n cap i b o l c k:Nat}{vs:List Value}{m:MQ}(h:LM w base (.slice (some ⟨g,off,none⟩) n cap) vs m)(hn:m.length=n)(hi:i<n)(hu:vs[i]?=some (.slice (some ⟨b,o,none⟩) l c))(hk:k<l): LM (w.setCell ⟨g,off+i,none⟩ (.slice (some ⟨b,o+k*4,none⟩) (l-k) (c-k))) base (.slice (some ⟨g,off,none⟩) n cap) (vs.set i (.slice (some ⟨b,o+k*4,none⟩) (l-k) (c-k))) (m.set i ((m.getD i []).drop k)):=by
 have hmi:m[i]?=some (m.getD i []):=by rw[gD,gE (by omega)];rfl
 have hr:=(h.inner i _ _ hu hmi).cutK hk;refine(h.put hn hi hr fun j u' g' hj h1 h2=>?_).1;exact h.apart i j _ u' g' (Ne.symm hj) hu h1 h2
def tR(m:MQ)(n:Nat):MQ×Bool:=if(cA (dQ m n) n).2.length<n then([],false)else(yJ m n,true)
def aZp(w:World)(s:MQ×Bool)(e:Ending)(w':World):Prop:=∃v vs,e= .returned (.tuple #[v,.bool s.2])∧LM w' w.heap.size v vs s.1∧Below w.heap.size w w'
theorem aTp(x:List Rat)(n k:Nat)(hx:x.length=n):(x++List.replicate n 0).set (n+k) 1=x++(List.replicate n 0).set k 1:=by
 rw[List.set_append_right _ _ (by omega),hx,show n+k-n=k by omega]
theorem tK:((1:Int):Rat)=1:=rfl
theorem aTq(m:MQ)(n:Nat)(A:Option Addr)(c:Nat)(w:World)(hm:RM w A n m)(hr:Rect m n n)(hn:n≤500)(hB:Bnd (dQ m n) n): Calls Tryz.prog 166 #[.slice A n c] w (aZp w (tR m n)):=by
 have hmk:=nP n (by omega);have HP:=aH (show∃vs,LM (w.alloc (.cells (Array.replicate n (Value.slice none 0 0)) bW)) w.heap.size (.slice (some ⟨w.heap.size,0,none⟩) n n) vs (cF (dQ m n) [] 0 n)from⟨_,by rw[jR];exact LM.start w n (by unfold maxLen;omega)⟩);have HB:=aH (aD w (.cells (Array.replicate n (Value.slice none 0 0)) bW));have HM:=aH hm;have HR:=aH hr;have HBN:=aH hB;clear hm hr hB;unfold bW at hmk;go_enter Tryz.func166,Tryz.ntmps166;go_wp2;clear hmk;go_loopg [16] (n-0) (fun r v wr=>∃k:Nat,r=n-k∧v=I k∧k≤n∧Hid (∃vs,LM wr w.heap.size (.slice (some ⟨w.heap.size,0,none⟩) n n) vs (cF (dQ m n) [] k n))∧Hid (Below w.heap.size w wr));case atStart=>exact⟨0,rfl,rfl,by omega,HP,HB⟩
 case round=>
  clear HP HB;obtain⟨k,rfl,rfl,hk,HP,HB⟩:=hrel;obtain⟨wa,rfl⟩:=wE wr;by_cases hlt:k<n
  ·obtain⟨x,hx⟩:∃x,m[k]?=some x:=⟨_,gE (by rw[HR.out.1];exact hlt)⟩;obtain⟨ba,oa,B,d,rfl,_,hc,hrx⟩:=(HM.out.below HB.out).at_ hlt x hx;have hxl:x.length=n:=HR.out.2 x (List.mem_of_getElem? hx);rw[hxl]at hc hrx;have HX:=aH (show(dQ m n)[k]?=some (x++(List.replicate n 0).set k 1) by unfold dQ;rw[List.getElem?_mapIdx,hx];rfl);have HXL:=aH hxl;have HRX:=aH hrx;obtain⟨vs,hLM⟩:=HP.out;have HL:=aH hLM;have HP0:=aH hLM;clear hx hrx hxl hLM HP;go_wp2_with(at_builtin;refine nT rfl _ _ rfl wa.heap.size (.slice none 0 0) [] rfl (RRow.nil _ _) B n d rfl HRX.out (by rw[List.length_nil];omega) lR ?_);intro v3 W3 hap;have hb:=hap.below (RRow.nil wa wa.heap.size) lR;have HR3:=aH hap.row;replace HL:=aH (HL.out.call hb);have HBW:=aH hb;have HZ:=aH (lK n W3 (by omega));clear hap hb hc HRX;go_wp2_with fail;refine HZ.out.mono ?_;rintro e W4 ⟨v4,rfl,hr4,hb⟩;obtain⟨A4,c4,rfl⟩:=hr4.val;rw[List.length_replicate]at hr4⊢;replace HL:=aH (HL.out.call hb);replace HR3:=aH (HR3.out.call hb);replace HBW:=bT HBW hb;have HR4:=aH hr4.rv;clear HZ hr4 hb;go_wp2_with(at_builtin;refine nT rfl _ _ rfl wa.heap.size v3 x rfl HR3.out A4 n c4 rfl HR4.out (by rw[HXL.out];omega) HBW.out.size ?_);intro v5 W5 hap;have hb:=hap.below HR3.out HBW.out.size;have HR5:=aH hap.row;have HBL:=aH (HBW.out.trans hb);have hown:=hap.own;have h1:LM W5 w.heap.size (.slice (some ⟨w.heap.size,0,none⟩) n n) vs (cF (dQ m n) [] k n):=by
    have h0:=HP0.out.call HBL.out;exact h0
   clear hap hb HR3 HR4 hown;have hap2:=HP0.out.newer (u:=v5) (fun g hg=>(HR5.out.lt hg).1);have hfl:(cF (dQ m n) [] k n).length=n:=lF _ (by rw[rC,HR.out.1]) hk;obtain⟨g,o9,cap,B9,c9,e9,hg1,hg2,-,hcell,hfz,-⟩:=h1.at_ (i:=k) (by omega);obtain⟨rfl,rfl⟩:=mE e9;clear e9;have h2:=h1.put (i:=k) hfl hlt (HR5.out.less HB.out.size) (fun j u' g' _=>hap2 j u' g');rw[Nat.zero_add]at h2;rw[Nat.zero_add]at hcell hfz;have hlen5:(x++List.replicate n (0:Rat)).length=n+n:=by rw[List.length_append,HXL.out,List.length_replicate]
   obtain⟨A5,c5,rfl⟩:=HR5.out.val;rw[hlen5]at*;clear hlen5;have HL5:=aH (show(x++List.replicate n (0:Rat)).length=n+n by rw[List.length_append,HXL.out,List.length_replicate]);have HB5:=aH ((HB.out.trans (HBL.out.mono HB.out.size)).setCell (p:=⟨w.heap.size,k,none⟩) lR (.slice A5 (n+n) c5));have HU:=aH (show(vs.set k (.slice A5 (n+n) c5))[k]?=some (.slice A5 (n+n) c5) by rw[List.getElem?_set_self (by rw[h1.len];omega)]);have HL6:=aH h2.1;have HGD:=aH (show((cF (dQ m n) [] k n).set k (x++List.replicate n 0)).getD k []=x++List.replicate n 0 from fO (by omega));have HLE:=aH (show((cF (dQ m n) [] k n).set k (x++List.replicate n 0)).length=n by rw[List.length_set];exact hfl);have HFS:=aH (show((cF (dQ m n) [] k n).set k (x++List.replicate n 0)).set k ((((cF (dQ m n) [] k n).set k (x++List.replicate n 0)).getD k []).set (n+k) 1)=cF (dQ m n) [] (k+1) n by rw[HGD.out,aTp _ _ _ HXL.out,List.set_set];exact lG _ (by rw[rC,HR.out.1]) hlt HX.out);generalize(cF (dQ m n) [] k n).set k (x++List.replicate n 0)=EX at*;generalize((cF (dQ m n) [] k n).getD k []).length=ln at*;clear h1 h2 hap2 hfl hg1 hg2 HR5 HL HBL HBW HX HP0 HB;go_upto_region 7 with(fail)
   clear hcell hfz;generalize W5.setCell ⟨w.heap.size,k,none⟩ (.slice A5 (n+n) c5)=W6 at*;have hd:=aT W6;replace HL6:=aH (HL6.out.call hd);replace HB5:=bT HB5 hd;clear hd;obtain⟨b5,o5,cc,nb,B1,l1,c1,B2,l2,c2,hu,hc,hE,hrt,hf5,_,_,hb5,hb5l,_⟩:=HL6.out.elem HLE.out hlt (show n+k<(EX.getD k []).length by rw[HGD.out,HL5.out];omega);rw[HU.out]at hu;injection hu with hu;injection hu with hu hu2 hu3;subst hu hu3;rw[HGD.out,HL5.out]at hc;rw[Nat.zero_add]at hc;have CE:=aH hc;have EL:=aH (show El W6.drew b5 (o5+(n+k)*4) (.bool nb) (.slice B1 l1 c1) (.bool false) (.slice B2 l2 c2)from⟨hE.c0,hE.c1,hE.c2,hE.c3,hf5 _,hf5 _,hf5 _,hf5 _⟩);clear hc hE hrt hf5 hu2;refine aJ (fun w'=>w'.cell? ⟨w.heap.size,k,none⟩=some (.slice (some ⟨b5,o5,none⟩) (n+n) c5)) 9 (by kernel_rfl) ?_;generalize W6.drew=W7 at*;refine tq 0 (.slice (some ⟨w.heap.size,0,none⟩) n n) rfl ?_ CE.out ?_
   ·intro w hSw;have s0:=hSw;go_simp
   refine tq 1 (I k) rfl ?_ CE.out ?_
   ·intro w hSw;have s0:=hSw;go_simp
   refine tq 2 (.pointer (some ⟨w.heap.size,k,none⟩)) rfl ?_ CE.out ?_
   ·intro w hSw;have s0:=hSw;go_simp
   refine tq 3 (.slice (some ⟨b5,o5,none⟩) (n+n) c5) rfl ?_ CE.out ?_
   ·intro w hSw;have s0:=hSw;go_simp
   refine tq 4 (I n) rfl ?_ CE.out ?_
   ·intro w hSw;have s0:=hSw;go_simp
   refine tq 5 (I k) rfl ?_ CE.out ?_
   ·intro w hSw;have s0:=hSw;go_simp
   refine tq 6 (.int .i64 ((n:Int)+(k:Int))) rfl ?_ CE.out ?_
   ·intro w hSw;have s0:=hSw;go_simp;exact IntWalk.i64_in _ (by omega)
   refine on1 7 fun K hK=>?_;go_simp;go_at_call 64;refine(eJ 1 _ (by decide) (by decide)).mono ?_;rintro e W8 ⟨v8,rfl,hv,hb⟩;replace CE:=aH (aA CE.out hb);replace EL:=aH (EL.out.below hb);replace HL6:=aH (HL6.out.call hb);replace HB5:=bT HB5 hb;clear hb;refine hK.out _ _ (fun _=>CE.out) ?_;clear hK K;rw[tK]at hv;refine tq 8 (.pointer (some ⟨b5,o5+(n+k)*4,none⟩)) rfl ?_ CE.out ?_
   ·intro w hSw;have s0:=hSw;go_simp;rw[if_pos (by omega),show((n:Int)+(k:Int)).toNat=n+k by omega]
   obtain⟨tb,T1,t1,u1,T2,t2,u2,rfl⟩:=hv.bools;obtain⟨hl,hkw2⟩:=HL6.out.putEl (k:=n+k) HLE.out hlt HU.out (by omega) hv;rw[HFS.out]at hl;have HN:=aH (show∃vs,LM (put4 W8 b5 (o5+(n+k)*4) (.bool tb) (.slice T1 t1 u1) (.bool false) (.slice T2 t2 u2)) w.heap.size (.slice (some ⟨w.heap.size,0,none⟩) n n) vs (cF (dQ m n) [] (k+1) n)from⟨_,hl⟩);have HBN5:=aH (cD (o:=o5+(n+k)*4) HB5.out hb5 (.bool tb) (.slice T1 t1 u1) (.bool false) (.slice T2 t2 u2));unfold put4 at HN HBN5;have z0:=EL.out.c0;have y0:=EL.out.f0;have z1:=EL.out.c1;have y1:=EL.out.f1;have z2:=EL.out.c2;have y2:=EL.out.f2;have z3:=EL.out.c3;have y3:=EL.out.f3;clear hl hkw2 hv CE EL HL6 HB5 HFS HGD HLE HU;refine on1 9 fun K hK=>?_;go_simp;refine hK.out _ _ (fun h=>absurd h (by decide)) ?_;clear hK K z0 z1 z2 z3 y0 y1 y2 y3;refine aG (by kernel_rfl) ?_ _;go_wp2;go_roundg (n-(k+1));case measure=>omega
   case rel=>exact⟨k+1,rfl,by go_num,by omega,HN,HBN5⟩
  ·have hkn:k=n:=by omega
   subst hkn;obtain⟨vs0,hLM⟩:=HP.out;rw[lE _ (by rw[rC,HR.out.1])]at hLM;have HC:=aH (aHx (dQ m k) k (k+k) k _ k wa hLM.rm (fZ HR.out) (by omega) (by omega) (by omega) HBN.out);have HQ:=aH (gM (fZ HR.out) k);clear HP hLM HM HBN;go_wp2_with fail;have hLB:=HB.out.size;refine HC.out.mono ?_;rintro e w2 ⟨v,vs,u,rfl,hLM,hN,hb⟩;clear HC;have hLM:=hLM.less hLB;replace HB:=bT HB hb;obtain⟨Au,cu,rfl⟩:=hN.val;obtain⟨A1,c1,rfl⟩:=hLM.val;clear hb hN hLB;rw[xH];have HE:=aH (show tR m k=if(cA (dQ m k) k).2.length<k then([],false)else((cA (dQ m k) k).1.map (fun r=>r.drop k),true)from rfl);have HRX:=aH HQ.out.rect;clear HQ;generalize(cA (dQ m k) k).1=X at*;generalize(cA (dQ m k) k).2.length=r at*;rw[HRX.out.1]at hLM⊢;by_cases hrk:r<k
   ·have HE2:=aH (show tR m k=([],false) by rw[HE.out,if_pos hrk]);clear HE hLM;go_wp2;go_ret2;rw[HE2.out];exact⟨_,_,rfl,LM.nil _ _,HB.out⟩
   ·have HE2:=aH (show tR m k=(X.map (fun r=>r.drop k),true) by rw[HE.out,if_neg hrk]);have HL:=aH (show∃vs,LM w2 w.heap.size (.slice A1 k c1) vs (iO k 0 X)from⟨vs,by rw[aHz];exact hLM⟩);clear HE hLM;go_wp2;go_loopg [52] (k-0) (fun mm v wr=>∃i:Nat,mm=k-i∧v=I i∧i≤k∧Hid (∃vs,LM wr w.heap.size (.slice A1 k c1) vs (iO k i X))∧Hid (Below w.heap.size w wr));case atStart=>exact⟨0,rfl,rfl,by omega,HL,HB⟩
    case round=>
     clear HL HB;obtain⟨i,rfl,rfl,hi,HL,HB⟩:=hrel;obtain⟨wb,rfl⟩:=wE wr;have hdl:(iO k i X).length=k:=by rw[aNs,HRX.out.1]
     obtain⟨vs2,hLM⟩:=HL.out;by_cases hlt:i<k
     ·obtain⟨g,off,cap0,B0,cc0,e0,hg1,hg2,hu,hc,hfz,-⟩:=hLM.at_ (i:=i) (by omega);injection e0 with e1 e2 e3;subst e1 e3;clear e2;have hgd:(iO k i X).getD i []=X.getD i []:=aNt (by rw[HRX.out.1];exact hlt);have hxl:(X.getD i []).length=k+k:=dX HRX.out hlt;rw[hgd,hxl]at hu hc;obtain⟨b5,o5,rfl⟩:∃b5 o5,B0=some ⟨b5,o5,none⟩:=by
       obtain⟨b,o,c,nb,B1,l1,c1,B2,l2,c2,h1,-⟩:=hLM.elem (k:=0) hdl hlt (by rw[hgd,hxl];omega);rw[hu]at h1;injection h1 with h1;injection h1 with h1;exact⟨_,_,h1⟩
      have hcap:k+k≤cc0:=by
       obtain⟨⟨ys,hrow,_⟩,_⟩:=hLM.inner i _ _ hu (show(iO k i X)[i]?=some ((iO k i X).getD i []) by rw[gD,gE (by omega)];rfl);obtain⟨g',off',cap',cur,e,_,_,h3,_⟩:=hrow.form (by rw[hgd,hxl];omega);injection e with _ _ e;rw[hgd,hxl]at h3;omega
      have h2:=hLM.dropRow (k:=k) hdl hlt hu (by omega);rw[hgd,aNu (by rw[HRX.out.1];exact hlt),show k+k-k=k by omega]at h2;have HN:=aH (show∃vs,LM (wb.setCell ⟨g,off+i,none⟩ (.slice (some ⟨b5,o5+k*4,none⟩) k (cc0-k))) w.heap.size (.slice (some ⟨g,off,none⟩) k c1) vs (iO k (i+1) X)from⟨_,h2⟩);have HBN2:=aH (HB.out.setCell (p:=⟨g,off+i,none⟩) hg1 (.slice (some ⟨b5,o5+k*4,none⟩) k (cc0-k)));have hcc:k+k≤cc0:=hcap;clear h2 hLM HL HB hdl hgd hxl hu hg1 hg2;go_wp2;go_roundg (k-(i+1));case measure=>omega
      case rel=>exact⟨i+1,rfl,by go_num,by omega,HN,HBN2⟩
     ·have hik:i=k:=by omega
      subst hik;have HF:=aH (show LM wb w.heap.size (.slice A1 i c1) vs2 (X.map (fun r=>r.drop i)) by rw[←aNv,HRX.out.1];exact hLM);clear hLM HL hdl;go_wp2;go_ret2;rw[HE2.out];exact⟨_,_,rfl,HF.out,HB.out⟩
end
end Go.Proofs.YtenbglfkdldheaaGreatDoor
