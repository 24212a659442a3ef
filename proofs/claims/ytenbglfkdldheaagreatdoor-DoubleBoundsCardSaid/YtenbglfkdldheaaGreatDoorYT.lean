/- 'out[k] = append(out[k], x)' at matrices of numbers. matrix.transposed. matrix.Text: rows of texts that the call owns. -/
import Derived.Test.YtenbglfkdldheaaGreatDoorYQ
namespace Go.Proofs.YtenbglfkdldheaaGreatDoor
open Go.RowKit
theorem kA{w:World}{ops:Array Oper}{o:Oper}{a:Act}{K:Act→World→Prop}{Q:Exit→Act→World→Prop}{E:Prop}(hgd:o.guard=none)(s x:Operand) (ho:o.op= .call {callee:= .builtin .append,args:=#[s,x],argTypes:=#[bU,bU]})(base:Nat)(v:Value)(qs:List Rat)(hsv:a.eval s=v)(hr:RRow w base v qs)
  (g:Nat)(hx:a.eval x= .slice (some ⟨g,0,none⟩) 1 1){x0 x1 x2 x3:Value}(hB:Blk w g aM #[x0,x1,x2,x3]){q:Rat}(hq:Rt w (.agg #[x0,x1,x2,x3]) q)(hl:qs.length≤1000000)(hbase:base≤w.heap.size)
  (h:∀v' w',Apd w base v (qs++[q]) v' w'→K (a.put o.dst v') w'):if Region.wanted o (yielded ops a.tmps)=true then Oper.wp Tryz.prog o a w K Q else E:=by
 have hw:Region.wanted o (yielded ops a.tmps)=true:=by simp[Region.wanted,hgd]
 rw[if_pos hw];obtain⟨i,hi,hz0,hz1,hz2⟩:=info_parts kM;have hs:Reads w w.heap.size 4 (some ⟨g,0,none⟩) 1 [x0,x1,x2,x3]:=⟨rfl,fun _=>⟨g,0,rfl,hB.lt,fun j u hu=>by
  rw[Nat.zero_add,hB.cell];simpa using hu⟩⟩
 obtain⟨v',w',hrun,hap⟩:=fF (P:=Tryz.prog) w base bU o.type i _ 64 Tryz.underlying111 hi hz0 hz1 hz2 rfl v qs hr w.heap.size (some ⟨g,0,none⟩) 1 1 [x0,x1,x2,x3] [q] hs (RtL.one hq) (by unfold maxLen;omega) (by omega) hbase;unfold Oper.wp execOp;simp only[ho,resolve,invoke,builtin,Sem.run_bind,Sem.run_pure,Result.andThen_ok,List.map_toArray,List.map_cons,List.map_nil,hsv,hx,hrun];exact h v' w' hap
theorem oY{w:World}{ops:Array Oper}{rest:List Oper}{o:Oper}{a:Act}{Q:Exit→Act→World→Prop}(hgd:o.guard=none)(s x:Operand) (ho:o.op= .call {callee:= .builtin .append,args:=#[s,x],argTypes:=#[bU,bU]})(base:Nat)(v:Value)(qs:List Rat)(hsv:a.eval s=v)(hr:RRow w base v qs)
  (g:Nat)(hx:a.eval x= .slice (some ⟨g,0,none⟩) 1 1){x0 x1 x2 x3:Value}(hB:Blk w g aM #[x0,x1,x2,x3]){q:Rat}(hq:Rt w (.agg #[x0,x1,x2,x3]) q)(hl:qs.length≤1000000)(hbase:base≤w.heap.size)
  (h:∀v' w',Apd w base v (qs++[q]) v' w'→wpList Tryz.prog ops Q rest (a.put o.dst v') w'):wpList Tryz.prog ops Q (o::rest) a w:=by
 refine wpList_plain hgd fun K hK=>?_;obtain⟨i,hi,hz0,hz1,hz2⟩:=info_parts kM;have hs:Reads w w.heap.size 4 (some ⟨g,0,none⟩) 1 [x0,x1,x2,x3]:=⟨rfl,fun _=>⟨g,0,rfl,hB.lt,fun j u hu=>by
  rw[Nat.zero_add,hB.cell];simpa using hu⟩⟩
 obtain⟨v',w',hrun,hap⟩:=fF (P:=Tryz.prog) w base bU o.type i _ 64 Tryz.underlying111 hi hz0 hz1 hz2 rfl v qs hr w.heap.size (some ⟨g,0,none⟩) 1 1 [x0,x1,x2,x3] [q] hs (RtL.one hq) (by unfold maxLen;omega) (by omega) hbase;unfold Oper.wp execOp;simp only[ho,resolve,invoke,builtin,Sem.run_bind,Sem.run_pure,Result.andThen_ok,List.map_toArray,List.map_cons,List.map_nil,hsv,hx,hrun];exact hK _ _ (h v' w' hap)
theorem Apd.below{w w':World}{base:Nat}{v v':Value}{qs qs':List Rat}(h:Apd w base v qs' v' w')(hr:RRow w base v qs)(hb:base≤w.heap.size):Below base w w':=by
 obtain⟨xs,hrow,_⟩:=hr.row;exact hrow.belowG h.grown hb
theorem aA{w w':World}{p:Addr}{v:Value}(h:w.cell? p=some v)(hb:Below w.heap.size w w'):w'.cell? p=some v:=(hb.cell (World.block_lt_of_cell? w p h)).trans h
theorem Vr.keepB{w w':World}{g:Nat}{x0 x1 x2 x3:Value}(h:Vr w g x0 x1 x2 x3)(hk:w'.heap[g]?=w.heap[g]?):Vr w' g x0 x1 x2 x3:=⟨(World.cell?_of_block (a:=⟨g,0,none⟩) hk).trans h.c0,(World.cell?_of_block (a:=⟨g,1,none⟩) hk).trans h.c1,(World.cell?_of_block (a:=⟨g,2,none⟩) hk).trans h.c2,(World.cell?_of_block (a:=⟨g,3,none⟩) hk).trans h.c3,(World.frozen?_of_block (a:=⟨g,0,none⟩) hk).trans h.f0,(World.frozen?_of_block (a:=⟨g,1,none⟩) hk).trans h.f1,(World.frozen?_of_block (a:=⟨g,2,none⟩) hk).trans h.f2,(World.frozen?_of_block (a:=⟨g,3,none⟩) hk).trans h.f3⟩
theorem aQ(w:World):Below w.heap.size w w.drew:=(Below.refl _ _).drew
theorem aC(w:World)(o:Obj):Below w.heap.size w (w.alloc o):=(Below.refl _ _).alloc lR _
end Go.Proofs.YtenbglfkdldheaaGreatDoor
