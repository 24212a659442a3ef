/- 'out[k] = append(out[k], x)' at matrices of numbers. matrix.transposed. matrix.Text: rows of texts that the call owns. -/
import Derived.Test.YtenbglfkdldheaaGreatDoorUQ
set_option maxRecDepth 100000
set_option maxHeartbeats 1000000
namespace Go.Proofs.YtenbglfkdldheaaGreatDoor
open Go.RowKit
theorem oN{w:World}{ops:Array Oper}{o:Oper}{a:Act}{K:Act→World→Prop}{Q:Exit→Act→World→Prop}{E:Prop}(hgd:o.guard=none)(s x:Operand) (ho:o.op= .call {callee:= .builtin .append,args:=#[s,x],argTypes:=#[bW,bW]})(base:Nat)(v:Value)(qs:List Rat)(hsv:a.eval s=v)(hr:RRow w base v qs)
  (g:Nat)(hx:a.eval x= .slice (some ⟨g,0,none⟩) 1 1){x0 x1 x2 x3:Value}(hB:Blk w g aM #[x0,x1,x2,x3]){q:Rat}(hq:Rt w (.agg #[x0,x1,x2,x3]) q)(hl:qs.length≤1000000)(hbase:base≤w.heap.size)
  (h:∀v' w',Apd w base v (qs++[q]) v' w'→K (a.put o.dst v') w'):if Region.wanted o (yielded ops a.tmps)=true then Oper.wp Tryz.prog o a w K Q else E:=by
 have hw:Region.wanted o (yielded ops a.tmps)=true:=by simp[Region.wanted,hgd]
 rw[if_pos hw];obtain⟨i,hi,hz0,hz1,hz2⟩:=info_parts lD;have hs:Reads w w.heap.size 4 (some ⟨g,0,none⟩) 1 [x0,x1,x2,x3]:=⟨rfl,fun _=>⟨g,0,rfl,hB.lt,fun j u hu=>by
  rw[Nat.zero_add,hB.cell];simpa using hu⟩⟩
 obtain⟨v',w',hrun,hap⟩:=fR (P:=Tryz.prog) w base bW o.type i _ 64 Tryz.underlying111 hi hz0 hz1 hz2 rfl v qs hr w.heap.size (some ⟨g,0,none⟩) 1 1 [x0,x1,x2,x3] [q] hs (RtL.one hq) (by unfold maxLen;omega) (by omega) hbase;unfold Oper.wp execOp;simp only[ho,resolve,invoke,builtin,Sem.run_bind,Sem.run_pure,Result.andThen_ok,List.map_toArray,List.map_cons,List.map_nil,hsv,hx,hrun];exact h v' w' hap
theorem nV{w:World}{ops:Array Oper}{rest:List Oper}{o:Oper}{a:Act}{Q:Exit→Act→World→Prop}(hgd:o.guard=none)(s x:Operand) (ho:o.op= .call {callee:= .builtin .append,args:=#[s,x],argTypes:=#[bW,bW]})(base:Nat)(v:Value)(qs:List Rat)(hsv:a.eval s=v)(hr:RRow w base v qs)
  (g:Nat)(hx:a.eval x= .slice (some ⟨g,0,none⟩) 1 1){x0 x1 x2 x3:Value}(hB:Blk w g aM #[x0,x1,x2,x3]){q:Rat}(hq:Rt w (.agg #[x0,x1,x2,x3]) q)(hl:qs.length≤1000000)(hbase:base≤w.heap.size)
  (h:∀v' w',Apd w base v (qs++[q]) v' w'→wpList Tryz.prog ops Q rest (a.put o.dst v') w'):wpList Tryz.prog ops Q (o::rest) a w:=by
 refine wpList_plain hgd fun K hK=>?_;obtain⟨i,hi,hz0,hz1,hz2⟩:=info_parts lD;have hs:Reads w w.heap.size 4 (some ⟨g,0,none⟩) 1 [x0,x1,x2,x3]:=⟨rfl,fun _=>⟨g,0,rfl,hB.lt,fun j u hu=>by
  rw[Nat.zero_add,hB.cell];simpa using hu⟩⟩
 obtain⟨v',w',hrun,hap⟩:=fR (P:=Tryz.prog) w base bW o.type i _ 64 Tryz.underlying111 hi hz0 hz1 hz2 rfl v qs hr w.heap.size (some ⟨g,0,none⟩) 1 1 [x0,x1,x2,x3] [q] hs (RtL.one hq) (by unfold maxLen;omega) (by omega) hbase;unfold Oper.wp execOp;simp only[ho,resolve,invoke,builtin,Sem.run_bind,Sem.run_pure,Result.andThen_ok,List.map_toArray,List.map_cons,List.map_nil,hsv,hx,hrun];exact hK _ _ (h v' w' hap)
theorem Apd.below{w w':World}{base:Nat}{v v':Value}{qs qs':List Rat}(h:Apd w base v qs' v' w')(hr:RRow w base v qs)(hb:base≤w.heap.size):Below base w w':=by
 obtain⟨xs,hrow,_⟩:=hr.row;exact hrow.belowG h.grown hb
theorem aA{w w':World}{p:Addr}{v:Value}(h:w.cell? p=some v)(hb:Below w.heap.size w w'):w'.cell? p=some v:=(hb.cell (World.block_lt_of_cell? w p h)).trans h
theorem Vr.keepB{w w':World}{g:Nat}{x0 x1 x2 x3:Value}(h:Vr w g x0 x1 x2 x3)(hk:w'.heap[g]?=w.heap[g]?):Vr w' g x0 x1 x2 x3:=⟨(World.cell?_of_block (a:=⟨g,0,none⟩) hk).trans h.c0,(World.cell?_of_block (a:=⟨g,1,none⟩) hk).trans h.c1,(World.cell?_of_block (a:=⟨g,2,none⟩) hk).trans h.c2,(World.cell?_of_block (a:=⟨g,3,none⟩) hk).trans h.c3,(World.frozen?_of_block (a:=⟨g,0,none⟩) hk).trans h.f0,(World.frozen?_of_block (a:=⟨g,1,none⟩) hk).trans h.f1,(World.frozen?_of_block (a:=⟨g,2,none⟩) hk).trans h.f2,(World.frozen?_of_block (a:=⟨g,3,none⟩) hk).trans h.f3⟩
theorem aT(w:World):Below w.heap.size w w.drew:=(Below.refl _ _).drew
theorem aD(w:World)(o:Obj):Below w.heap.size w (w.alloc o):=(Below.refl _ _).alloc lR _
def Sows(w:World)(base:Nat)(v:Value)(m:List (List ByteArray)):Prop:=∃vs,Row w base aSm 1 v m.length vs∧∀(i:Nat) (u:Value) (l:List ByteArray),vs[i]?=some u→m[i]?=some l→Row w base oU 1 u l.length (l.map Sv)
theorem Sows.nil(w:World)(base:Nat):Sows w base (.slice none 0 0) []:=⟨[],Row.nil _ _ _ _,fun i u l h=>by simp at h⟩
theorem Sows.call{w w':World}{base:Nat}{v:Value}{m:List (List ByteArray)}(h:Sows w base v m)(hb:Below w.heap.size w w'):Sows w' base v m:=by
 obtain⟨vs,h1,h2⟩:=h;exact⟨vs,h1.call hb,fun i u l a b=>(h2 i u l a b).call hb⟩
theorem Sows.smat{w:World}{base:Nat}{A:Option Addr}{n c:Nat}{m:List (List ByteArray)}(h:Sows w base (.slice A n c) m):SMat w A n m:=by
 obtain⟨vs,h1,h2⟩:=h;have hn:n=m.length:=by
  obtain⟨A',c',e⟩:=h1.val;injection e
 subst hn;refine⟨vs,h1.reads,rfl,fun i u l a b=>?_⟩;have hr:=h2 i u l a b;obtain⟨B,c',rfl⟩:=hr.val;exact⟨B,c',rfl,by have:=hr.reads;simpa using this⟩
theorem Sows.snoc{w w':World}{base:Nat}{v v' u:Value}{m:List (List ByteArray)}{l:List ByteArray}{vs:List Value}(h1:Row w base aSm 1 v m.length vs)(h2:∀(i:Nat) (u:Value) (l:List ByteArray),vs[i]?=some u→m[i]?=some l→Row w base oU 1 u l.length (l.map Sv)) (hu:Row w base oU 1 u l.length (l.map Sv))(hr:Row w' base aSm 1 v' (m.length+1) (vs++[u]))(hg:w.grownBy w' v.ownBlock):Sows w' base v' (m++[l]):=by
 have hl:vs.length=m.length:=by have:=h1.1;omega
 refine⟨vs++[u],by simpa using hr,fun i x y hx hy=>?_⟩;by_cases hlt:i<m.length
 ·rw[List.getElem?_append_left (by omega)]at hx;rw[List.getElem?_append_left hlt]at hy;exact(h2 i x y hx hy).apart h1 (by decide) hg
 ·rw[List.getElem?_append_right (by omega)]at hx hy;have hi:i-m.length=0:=by
   have:=(List.getElem?_eq_some_iff.1 hy).1;simp at this;omega
  rw[hl,hi]at hx;rw[hi]at hy;simp at hx hy;subst hx hy;exact hu.apart h1 (by decide) hg
def RetMT(w:World)(r:MT×Int)(e:Ending)(w':World):Prop:=∃A n c m,e= .returned (.tuple #[.slice A n c,I r.2])∧SMat w' A n m∧tx2 m=r.1∧Sh2 m∧Below w.heap.size w w'
theorem RetMT.none_{w w':World}{c:Int}{r:MT×Int}(h:r=([],c))(hb:Below w.heap.size w w'):RetMT w r (.returned (.tuple #[.slice none 0 0,I c])) w':=⟨none,0,0,[],by rw[h],⟨[],Reads.nil,rfl,fun i u l h=>by simp at h⟩,by rw[h];rfl,fun l h=>by simp at h,hb⟩
def mkM(m:List (List Rat)):List (List ByteArray):=m.map fun r=>mkS (r.map aQ)
theorem aZq(m:List (List Rat)):tx2 (mkM m)=m.map fun r=>r.map aQ:=by
 unfold tx2 mkM;rw[List.map_map];exact List.map_congr_left fun r _=>zX _
theorem aZr{m:List (List Rat)}(h:m.all (fun r=>r.all bK)=true):Sh2 (mkM m):=by
 intro l hl;obtain⟨r,hr,rfl⟩:=List.mem_map.1 hl;rw[List.all_eq_true]at h;exact aKd (h r hr)
theorem sP(m:List (List Rat))(n:Nat)(A:Option Addr)(c:Nat)(w:World)(hm:RM w A n m)(hn:n≤1000000)(hw:∀r∈m,r.length≤1000000)(htab:Tab w): Calls Tryz.prog 119 #[.slice A n c] w (RetMT w (txM m)):=by
 have hl:=hm.len;have HM:=aH hm;have HTB:=aH htab;have HW:=aH hw;obtain⟨i0,hi,hz0,hz1,hz2⟩:=info_parts aSo;have HI:=aH hi;have HZ0:=aH hz0;have HZ1:=aH hz1;have HZ2:=aH hz2;clear hm htab hw hi hz0 hz1 hz2;unfold aSm at*;go_enter Tryz.func119,Tryz.ntmps119;go_wp2;go_loopg [4,11] (n-0) (fun r o v wr=>∃k:Nat,r=n-k∧v=I k∧k≤n∧Hid (Sows wr w.heap.size o (mkM (m.take k)))∧Hid ((m.take k).all (fun r=>r.all bK)=true)∧Hid (Below w.heap.size w wr));case atStart=>exact⟨0,rfl,rfl,by omega,Sows.nil _ _,rfl,Below.refl _ _⟩
 case round=>
  obtain⟨k,rfl,rfl,hk,HS,HF,HB⟩:=hrel;obtain⟨wa,rfl⟩:=wE wr;by_cases hlt:k<n
  ·obtain⟨x,hx⟩:∃x,m[k]?=some x:=⟨_,gE (by omega)⟩;obtain⟨b,off,B,d,rfl,_,hc,hr⟩:=(HM.out.below HB.out).at_ hlt x hx;have HC:=aH (fX x x.length B d wa hr (HW.out x (List.mem_of_getElem? hx)) (aO HTB.out HB.out));have HX:=aH (show m.take (k+1)=m.take k++[x] by rw[List.take_add_one,hx];rfl);have HL:=aH (show m=m.take k++x::m.drop (k+1) by
    obtain⟨h1,h2⟩:=List.getElem?_eq_some_iff.1 hx;rw[←h2,←List.drop_eq_getElem_cons h1,List.take_append_drop])
   clear hx hr;go_wp2_with fail;refine HC.out.mono ?_;rintro e w1 ⟨u,rfl,h1,h2,hb⟩;have HB1:=aH (HB.out.trans (hb.mono HB.out.size));cases hf:x.all bK with
   |true=>
    have HU:=aH ((h1 hf).less HB.out.size);have HF1:=aH (show(m.take (k+1)).all (fun r=>r.all bK)=true by rw[HX.out,List.all_append,HF.out];simp[hf]);have te:(txV x).2=0:=by rw[txV,if_pos hf]
    obtain⟨Au,cu,hu⟩:=(h1 hf).val;obtain⟨vs,hs1,hs2⟩:=HS.out.call hb;have HS1:=aH hs1;have HS2:=aH hs2;have hml:(mkM (m.take k)).length=k:=by simp[mkM];omega
    rw[hml]at HS1;rw[te];have hbs:=HB1.out.size;clear hs1 hs2 h1 h2 hb HC HF HB hc te;generalize hlx:x.length=lx at*;subst hu;go_wp2_with(at_builtin;refine dF rfl _ _ 88 rfl w.heap.size 47 i0 _ 1 24 Tryz.underlying88 HI.out HZ0.out HZ1.out HZ2.out rfl (by decide) _ k vs rfl (HS1.out.alloc _) (w1.heap.size+1) (some ⟨w1.heap.size,0,none⟩) 1 1 [.slice Au lx cu] rfl (kN w1 _ _) (by intro u hu;simp at hu;subst hu;rfl) ?c1 ?c2 ?c3 ?_);case c1=>unfold maxLen;omega
    case c2=>omega
    case c3=>simp;omega
    intro v' w2 hr2 hg2;have HSN:=aH (show Sows w2 w.heap.size v' (mkM (m.take (k+1))) by
     rw[HX.out,mkM,List.map_append];refine Sows.snoc (w:=w1.alloc _) (u:= .slice Au lx cu) (l:=mkS (x.map aQ)) (vs:=vs) ?_ (fun i u l a b=>(HS2.out i u l a b).alloc _) ?_ ?_ hg2
     ·show Row _ _ _ _ _ (mkM (m.take k)).length _;rw[hml];exact HS1.out.alloc _
     ·have:=HU.out.alloc (.cells #[.slice Au lx cu] 47);rwa [show(mkS (x.map aQ)).length=lx by simp[mkS,hlx]]
     ·show Row _ _ _ _ _ ((mkM (m.take k)).length+1) _;rw[hml];exact hr2)
    have HB2:=aH (show Below w.heap.size w w2 from(HB1.out.alloc hbs _).trans ((HS1.out.alloc _).belowG hg2 (by simp;omega)));obtain⟨A2,c2,rfl⟩:=hr2.val;clear hr2 hg2 HS1 HS2 HU HB1 HL HX hml hbs;go_wp2;go_roundg (n-(k+1));case measure=>omega
    case rel=>exact⟨k+1,rfl,by go_num,by omega,HSN,HF1,HB2⟩
   |false=>
    have HQ:=aH (RetMT.none_ (c:=2) (show txM m=([],2) by
     rw[txM,if_neg];rw[HL.out,List.all_append,List.all_cons,hf];simp) HB1.out)
    have te:(txV x).2=2:=by rw[txV,if_neg (by simp[hf])]
    rw[te];obtain rfl:=h2 hf;clear h1 h2 hb HC HF HS HB hc te hf HL HX;go_wp2;go_ret2;exact HQ.out
  ·have hkn:k=n:=by omega
   subst hkn;have hs:=HS.out;have hf:=HF.out;rw[List.take_of_length_le (by omega)]at hs hf;have hml:(mkM m).length=k:=by simp[mkM,hl]
   obtain⟨vs,h1,h2⟩:=id hs;rw[hml]at h1;obtain⟨A2,c2,rfl⟩:=h1.val;have HQ:=aH (show RetMT w (txM m) (.returned (.tuple #[.slice A2 k c2,I 0])) wa from⟨A2,k,c2,mkM m,by rw[aKa hf],hs.smat,by rw[aKa hf];exact aZq m,aZr hf,HB.out⟩);clear hs hf HS HF h1 h2 hml;go_wp2;go_ret2;exact HQ.out
end Go.Proofs.YtenbglfkdldheaaGreatDoor
