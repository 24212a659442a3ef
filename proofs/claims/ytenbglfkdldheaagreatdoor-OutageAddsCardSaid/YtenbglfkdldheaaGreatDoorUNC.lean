/- slices.Repeat at []int, of one element. slices.Clone at the types of a network's parts. netmodel.Copy. -/
import Derived.Laws.CopyOwn
import Derived.Deep.RegionLaw
import Derived.Test.YtenbglfkdldheaaGreatDoorUNB
set_option maxRecDepth 100000
set_option maxHeartbeats 1000000
namespace Go.Proofs.YtenbglfkdldheaaGreatDoor
open Go.RowKit
theorem Tryz.info3:(Tryz.prog.info? 3).map (fun i=>(i.zero,i.size,i.bytes))=some (some (.int .i64 0),1,8):=by kernel_rfl
theorem Tryz.size3:(Tryz.prog.info? 3).map (·.size)=some 1:=by kernel_rfl
theorem aCa(x n:Int)(w:World)(hx:x=1)(h0:0≤n)(h1:n≤1099511627776): Calls Tryz.prog 164 #[.int .u64 x,.int .u64 n] w fun e w'=>e= .returned (.tuple #[.int .u64 0,.int .u64 n])∧w=w':=by
 subst hx;obtain⟨k,rfl⟩:=Int.eq_ofNat_of_zero_le h0;refine(Tryz.bits_Mul 1 k (by omega) (by omega) w).mono fun e w' ⟨he,hw⟩=>⟨?_,hw.symm⟩;rw[he];have e1:1*k/18446744073709551616=0:=by rw[Nat.div_eq_of_lt];omega
 have e2:1*k%18446744073709551616=k:=by rw[Nat.mod_eq_of_lt]<;>omega
 rw[e1,e2];rfl
theorem aRi(n:Nat):madeCells (Value.int .i64 0).cells (n*1)=Array.replicate n (I 0):=by
 apply Array.ext
 ·simp[size_madeCells]
 ·intro i h1 h2;simp[madeCells,Value.cells,Nat.mod_one]
theorem aRj(n:Nat)(hn:n≤1099511627776)(W:World): (Instr.makeSlice 31 (.int .i64 (n:Int)) (.int .i64 (n:Int))).run Tryz.prog W= .ok (.slice (some ⟨W.heap.size,0,none⟩) n n) (W.alloc (.cells (Array.replicate n (I 0)) 3)):=by
 obtain⟨i,hi,hz0,hz1,hz2⟩:=info_parts Tryz.info3;have:=run_make (P:=Tryz.prog) W 31 3 i _ Tryz.underlying31 hi hz0 .i64 .i64 n n (by omega) (by omega) (by rw[hz2];omega) (by omega);rw[this,Int.toNat_natCast,hz1,aRi]
theorem aEp(x:Value)(n m k:Nat)(_hk:m+k≤n): splice (List.replicate m x++List.replicate (n-m) (I 0)) m (List.replicate k x)=List.replicate (m+k) x++List.replicate (n-(m+k)) (I 0):=by
 unfold splice;rw[List.take_append_of_le_length (by simp),List.take_of_length_le (by simp),List.drop_append,List.drop_of_length_le (by simp)];simp;rw[←List.append_assoc,List.replicate_append_replicate];congr 2;omega
theorem aRk(x:Int){w:World}{b off:Nat}{o:Obj}(n:Nat)(hb:b<w.heap.size)(hc:w.cell? ⟨b,off,none⟩=some (I x)): ∀j v,(List.replicate (min 1 n) (I x))[j]?=some v→(w.alloc o).cell? ((⟨b,off,none⟩:Addr).add j)=some v:=by
 intro j v hv;rw[List.getElem?_replicate]at hv;split at hv
 ·rename_i h;obtain rfl:j=0:=by omega
  rw[Addr.add_lit,World.cell?_alloc_lt _ _ _ hb,Nat.add_zero,hc];exact hv
 ·cases hv
theorem aMu(x:Int){w:World}{g n m k:Nat}(hg:w.heap[g]?=some (.cells (List.replicate m (I x)++List.replicate (n-m) (I 0)).toArray 3 (0,0)))(hk:k≤m): ∀j v,(List.replicate k (I x))[j]?=some v→w.cell? ((⟨g,0,none⟩:Addr).add j)=some v:=by
 intro j v hv;rw[List.getElem?_replicate]at hv;split at hv
 ·rename_i h;rw[Addr.add_lit,Nat.zero_add,cell_of_row w g j _ _ _ hg];simp only[List.getElem?_toArray];rw[List.getElem?_append_left (by simp;omega),List.getElem?_replicate,if_pos (by omega)];exact hv
 ·cases hv
theorem wR(x:Int)(k:Nat):∀v∈List.replicate k (I x),v.oneCell'=true:=by
 intro v hv;rw[List.mem_replicate]at hv;rw[hv.2];rfl
theorem aHi(x:Int)(n:Nat):splice (List.replicate n (I 0)) 0 (List.replicate (min 1 n) (I x))=List.replicate (min 1 n) (I x)++List.replicate (n-min 1 n) (I 0):=by
 simp[splice]
structure RepInvI(w:World)(g:Nat)(x:Int)(n m:Nat)(wr:World):Prop where
 le:m≤n
 pos:1≤m∨n=0
 row:wr.heap[g]?=some (.cells (List.replicate m (I x)++List.replicate (n-m) (I 0)).toArray 3 (0,0))
 below:Below g w wr
theorem aHj(x:Int)(n:Nat)(b off c:Nat)(w:World)(hb:b<w.heap.size)(hc:w.cell? ⟨b,off,none⟩=some (I x))(hn:n≤1099511627776): Calls Tryz.prog 130 #[.slice (some ⟨b,off,none⟩) 1 c,I n] w fun e w'=>
   e= .returned (.slice (some ⟨w.heap.size,0,none⟩) n n)∧Blk w' w.heap.size 3 (Array.replicate n (I x))∧Below w.heap.size w w':=by
 have hmk:=aRj n hn;have hnn:(n:Int)≤1099511627776:=by omega
 have HS:=aH Tryz.size3;have HG:=aH (heap_alloc_new w (.cells (List.replicate n (I 0)).toArray 3));have HF:=aH (show 0+(List.replicate (min 1 n) (I x)).length≤(List.replicate n (I 0)).length by simp;omega);have HL:=aH (show(List.replicate (min 1 n) (I x)).length=Nat.min 1 n by simp);simp only[List.toArray_replicate]at HG;go_enter Tryz.func130,Tryz.ntmps130;go_wp2_with(first|(go_at_call 164;refine(aCa _ _ _ (by rfl) (by omega) (by omega)).mono ?_;rintro e w' ⟨rfl,rfl⟩)|(refine wpList_copy_splice rfl (.tmp 31) (.tmp 32) 31 31 rfl 3 Tryz.underlying31 HS.out (some ⟨w.heap.size,0,none⟩) (some ⟨b,off,none⟩) n n 1 c (by rfl) (by rfl) w.heap.size 0 (List.replicate n (I 0)) 3 (by rw[List.toArray_replicate];exact HG.out) (List.replicate (min 1 n) (I x)) HL.out (fun _=>⟨rfl,_,rfl,aRk x n hb hc⟩) HF.out (wR x _) w.heap.size w ((Below.refl _ _).alloc lR _) lR ?_;intro w1 hg1 hb1));have HI:RepInvI w w.heap.size x n (min 1 n) w1:=⟨by omega,by omega,by have:=hg1.out;rw[aHi]at this;exact this,hb1⟩;clear hg1 hb1 HG HF HL hmk;go_loopw [8] (fun v wr=>∃m:Nat,v=I m∧RepInvI w w.heap.size x n m wr) (fun v _=>n-(intOf v).toNat);case atStart=>exact⟨_,rfl,HI⟩
 case round=>
  obtain⟨m,rfl,h1,h2,h3,h4⟩:=hrel;have H3:=aH h3;clear h3;by_cases hlt:m<n
  ·have hm1:(1:Int)≤m:=by omega
   have hmn:(m:Int)<n:=by omega
   have hne:¬n=m:=by omega
   have hlo:(0:Int)≤(m:Int):=by omega
   have HL:=aH (show(List.replicate (min m (n-m)) (I x)).length=Nat.min m (n-m) by simp);have HF:=aH (show m+(List.replicate (min m (n-m)) (I x)).length≤(List.replicate m (I x)++List.replicate (n-m) (I 0)).length by simp;omega);go_wp2;go_region_law ((refine step_copy_splice rfl (.tmp 41) (.tmp 44) 31 31 rfl 3 Tryz.underlying31 HS.out (some ⟨w.heap.size,m,none⟩) (some ⟨w.heap.size,0,none⟩) (n-m) (n-m) m n (by kernel_rfl) (by kernel_rfl) w.heap.size m (List.replicate m (I x)++List.replicate (n-m) (I 0)) 3 H3.out (List.replicate (min m (n-m)) (I x)) HL.out (fun _=>⟨rfl,_,rfl,aMu x (n:=n) (m:=m) H3.out (by omega)⟩) HF.out (wR x _) w.heap.size w h4.drew lR ?_;intro w2 hg2 hb2));have HN:RepInvI w w.heap.size x n (m+min m (n-m)) w2:=⟨by omega,by omega,by have:=hg2.out;rw[aEp (I x) n m _ (by omega)]at this;exact this,hb2⟩;clear hg2 hb2 H3 h4 HI HF HL;have hk1:(min m (n-m):Nat)≤n:=by omega
   have hk2:1≤(min m (n-m):Nat):=by omega
   generalize min m (n-m)=k at*;have hw1:IntKind.i64.wrap ((m:Int)+(k:Int))=(m:Int)+k:=IntWalk.i64_in _ (by omega);simp only[Act.put,hw1,List.getElem_toArray,List.getElem_cons_succ,List.getElem_cons_zero,List.setIfInBounds_toArray,List.set_cons_succ,List.set_cons_zero];clear hw1;go_wp2;go_roundw;case rel=>exact⟨m+k,by go_num,HN⟩
   case measure=>simp[intOf];omega
  ·obtain rfl:m=n:=by omega
   go_wp2;go_ret;refine⟨rfl,?_,h4⟩;have:=H3.out;simp only[Nat.sub_self,List.replicate_zero,List.append_nil,List.toArray_replicate]at this;exact this
theorem qY{ops:Array Oper}{rest:List Oper}{o:Oper}{a:Act}{Q:Exit→Act→World→Prop}{W:World}(hgd:o.guard=none)(s x:Operand) (ho:o.op= .call {callee:= .builtin .append,args:=#[s,x],argTypes:=#[31,31]})(base:Nat)(v:Value)(q:List Int)(y:Int)(N:Nat)(hN:W.heap.size=N)
  (hsv:a.eval s=v)(hx:a.eval x= .slice (some ⟨N,0,none⟩) 1 1)(hr:Row W base 3 1 v q.length (q.map I))(hq:q.length≤1000000)(hb:base≤W.heap.size)
  (h:∀v' w',Row w' base 3 1 v' (q.length+1) (q.map I++[I y])→Below base (W.alloc (.cells #[I y] 3)) w'→wpList Tryz.prog ops Q rest (a.put o.dst v') w'):
  wpList Tryz.prog ops Q (o::rest) a (W.alloc (.cells #[I y] 3)):=by
 obtain⟨i0,hi0,hz0,hz1,hz2⟩:=info_parts Tryz.info3;subst hN;exact bR hgd s x 31 ho base 3 i0 (.int .i64 0) 1 8 Tryz.underlying31 hi0 hz0 hz1 hz2 rfl (by decide) v q.length (q.map I) hsv (hr.alloc _) (W.heap.size+1) (some ⟨W.heap.size,0,none⟩) 1 1 [I y] hx (kN W 3 (I y)) (by simp[Value.oneCell']) (by unfold maxLen;omega) (by omega) (by simp;omega) h
def kB(w:World)(E:TypeId)(sz n:Nat)(xs:List Value)(e:Ending)(w':World):Prop:=∃A c,e= .returned (.slice A n c)∧Reads w' w'.heap.size sz A n xs∧(0<n→Row w' w.heap.size E sz (.slice A n c) n xs)∧Below w.heap.size w w'
theorem eR{w w1 w':World}{E:TypeId}{sz n:Nat}{xs:List Value}{v:Value}(h1:Below w.heap.size w w1)(hr:Row w' w.heap.size E sz v n xs)(hb:Below w.heap.size w1 w'):kB w E sz n xs (.returned v) w':=by
 obtain⟨A,c,rfl⟩:=hr.val;exact⟨A,c,rfl,hr.reads,fun _=>hr,h1.trans hb⟩
theorem Tryz.info9:(Tryz.prog.info? 9).map (fun i=>(i.zero,i.size,i.bytes))=some (some (.string ⟨#[]⟩),1,16):=by kernel_rfl
theorem Tryz.info134:(Tryz.prog.info? 134).map (fun i=>(i.zero,i.size,i.bytes))=some (some (.agg #[.string ⟨#[]⟩,.string ⟨#[]⟩,.string ⟨#[]⟩,.bool false,.bool false]),5,56):=by kernel_rfl
theorem Tryz.info41:(Tryz.prog.info? 41).map (fun i=>(i.zero,i.size,i.bytes))=some (some (.agg #[.string ⟨#[]⟩,.string ⟨#[]⟩,.string ⟨#[]⟩,I 0,I 0,I 0,I 0,I 0,I 0]),9,96):=by kernel_rfl
theorem Tryz.info138:(Tryz.prog.info? 138).map (fun i=>(i.zero,i.size,i.bytes))=some (some (.agg #[.string ⟨#[]⟩,.string ⟨#[]⟩,I 0,I 0,I 0]),5,56):=by kernel_rfl
theorem Tryz.info141:(Tryz.prog.info? 141).map (fun i=>(i.zero,i.size,i.bytes))=some (some (.agg #[.string ⟨#[]⟩,.string ⟨#[]⟩,I 0]),3,40):=by kernel_rfl
theorem Tryz.info144:(Tryz.prog.info? 144).map (fun i=>(i.zero,i.size,i.bytes))=some (some (.agg #[.string ⟨#[]⟩,.string ⟨#[]⟩,I 0,I 0,I 0]),5,56):=by kernel_rfl
theorem bBr(A:Option Addr)(n c:Nat)(xs:List Value)(w:World)(hr:Reads w w.heap.size 1 A n xs)(h1:∀u∈xs,u.oneCell'=true)(hn:n≤1000000): Calls Tryz.prog 39 #[.slice A n c] w (kB w 3 1 n xs):=by
 have HR:=aH hr;have H1:=aH h1;clear h1;have q1:∀(w:World) (a:Option Addr) (n c n' c':Nat),(binOp .eql 31 (.slice a n c) (.slice none n' c')).run Tryz.prog w= .ok (.bool a.isNone) w:=fun w a n c n' c'=>Lib.run_eql_slice_nil w _ _ a n c n' c' Tryz.underlying31;rcases A with _|⟨b,off,st⟩
 ·obtain rfl:n=0:=by
   rcases Nat.eq_zero_or_pos n with h|h
   ·exact h
   ·obtain⟨b,off,h,_⟩:=hr.2 h;cases h
  have hx:xs=[]:=List.eq_nil_of_length_eq_zero (by have:=hr.1;omega);subst hx;clear hr;go_enter Tryz.func39,Tryz.ntmps39;go_wp2;go_ret;exact⟨none,0,rfl,Reads.nil,by omega,Below.refl _ _⟩
 ·clear hr;obtain⟨i0,hi0,hz0,hz1,hz2⟩:=info_parts Tryz.info3;have HI:=aH hi0;have HZ0:=aH hz0;have HZ1:=aH hz1;have HZ2:=aH hz2;clear hi0 hz0 hz1 hz2;go_enter Tryz.func39,Tryz.ntmps39;go_wp2_with(at_builtin;refine bR rfl _ _ 31 rfl w.heap.size 3 i0 _ 1 8 Tryz.underlying31 HI.out HZ0.out HZ1.out HZ2.out rfl (by decide) _ 0 [] rfl (Row.empty w _ 3 1 lR) w.heap.size (some ⟨b,off,st⟩) n c xs rfl (HR.out.below ((Below.refl _ _).alloc lR _)) H1.out ?c1 ?c2 ?c3 ?_);case c1=>unfold maxLen;omega
  case c2=>omega
  case c3=>simp
  intro v' w' hr' hb';have HF:=aH (eR ((Below.refl _ w).alloc lR _) hr' hb');clear hr' hb';go_wp2;go_ret;exact HF.out
theorem aWd(A:Option Addr)(n c:Nat)(xs:List Value)(w:World)(hr:Reads w w.heap.size 1 A n xs)(h1:∀u∈xs,u.oneCell'=true)(hn:n*16≤140737488355328): Calls Tryz.prog 69 #[.slice A n c] w (kB w 9 1 n xs):=by
 have HR:=aH hr;have H1:=aH h1;clear h1;have q1:∀(w:World) (a:Option Addr) (n c n' c':Nat),(binOp .eql 22 (.slice a n c) (.slice none n' c')).run Tryz.prog w= .ok (.bool a.isNone) w:=fun w a n c n' c'=>Lib.run_eql_slice_nil w _ _ a n c n' c' Tryz.underlying22;rcases A with _|⟨b,off,st⟩
 ·obtain rfl:n=0:=by
   rcases Nat.eq_zero_or_pos n with h|h
   ·exact h
   ·obtain⟨b,off,h,_⟩:=hr.2 h;cases h
  have hx:xs=[]:=List.eq_nil_of_length_eq_zero (by have:=hr.1;omega);subst hx;clear hr;go_enter Tryz.func69,Tryz.ntmps69;go_wp2;go_ret;exact⟨none,0,rfl,Reads.nil,by omega,Below.refl _ _⟩
 ·clear hr;obtain⟨i0,hi0,hz0,hz1,hz2⟩:=info_parts Tryz.info9;have HI:=aH hi0;have HZ0:=aH hz0;have HZ1:=aH hz1;have HZ2:=aH hz2;clear hi0 hz0 hz1 hz2;go_enter Tryz.func69,Tryz.ntmps69;go_wp2_with(at_builtin;refine bR rfl _ _ 22 rfl w.heap.size 9 i0 _ 1 16 Tryz.underlying22 HI.out HZ0.out HZ1.out HZ2.out rfl (by decide) _ 0 [] rfl (Row.empty w _ 9 1 lR) w.heap.size (some ⟨b,off,st⟩) n c xs rfl (HR.out.below ((Below.refl _ _).alloc lR _)) H1.out ?c1 ?c2 ?c3 ?_);case c1=>unfold maxLen;omega
  case c2=>omega
  case c3=>simp
  intro v' w' hr' hb';have HF:=aH (eR ((Below.refl _ w).alloc lR _) hr' hb');clear hr' hb';go_wp2;go_ret;exact HF.out
theorem aWe(A:Option Addr)(n c:Nat)(xs:List Value)(w:World)(hr:Reads w w.heap.size 5 A n xs)(h1:∀u∈xs,u.oneCell'=true)(hn:n*56≤140737488355328): Calls Tryz.prog 70 #[.slice A n c] w (kB w 134 5 n xs):=by
 have HR:=aH hr;have H1:=aH h1;clear h1;have q1:∀(w:World) (a:Option Addr) (n c n' c':Nat),(binOp .eql 23 (.slice a n c) (.slice none n' c')).run Tryz.prog w= .ok (.bool a.isNone) w:=fun w a n c n' c'=>Lib.run_eql_slice_nil w _ _ a n c n' c' Tryz.underlying23;rcases A with _|⟨b,off,st⟩
 ·obtain rfl:n=0:=by
   rcases Nat.eq_zero_or_pos n with h|h
   ·exact h
   ·obtain⟨b,off,h,_⟩:=hr.2 h;cases h
  have hx:xs=[]:=List.eq_nil_of_length_eq_zero (by have:=hr.1;omega);subst hx;clear hr;go_enter Tryz.func70,Tryz.ntmps70;go_wp2;go_ret;exact⟨none,0,rfl,Reads.nil,by omega,Below.refl _ _⟩
 ·clear hr;obtain⟨i0,hi0,hz0,hz1,hz2⟩:=info_parts Tryz.info134;have HI:=aH hi0;have HZ0:=aH hz0;have HZ1:=aH hz1;have HZ2:=aH hz2;clear hi0 hz0 hz1 hz2;go_enter Tryz.func70,Tryz.ntmps70;go_wp2_with(at_builtin;refine bR rfl _ _ 23 rfl w.heap.size 134 i0 _ 5 56 Tryz.underlying23 HI.out HZ0.out HZ1.out HZ2.out rfl (by decide) _ 0 [] rfl (Row.empty w _ 134 5 lR) w.heap.size (some ⟨b,off,st⟩) n c xs rfl (HR.out.below ((Below.refl _ _).alloc lR _)) H1.out ?c1 ?c2 ?c3 ?_);case c1=>unfold maxLen;omega
  case c2=>omega
  case c3=>simp
  intro v' w' hr' hb';have HF:=aH (eR ((Below.refl _ w).alloc lR _) hr' hb');clear hr' hb';go_wp2;go_ret;exact HF.out
theorem aWf(A:Option Addr)(n c:Nat)(xs:List Value)(w:World)(hr:Reads w w.heap.size 9 A n xs)(h1:∀u∈xs,u.oneCell'=true)(hn:n*96≤140737488355328): Calls Tryz.prog 71 #[.slice A n c] w (kB w 41 9 n xs):=by
 have HR:=aH hr;have H1:=aH h1;clear h1;have q1:∀(w:World) (a:Option Addr) (n c n' c':Nat),(binOp .eql 24 (.slice a n c) (.slice none n' c')).run Tryz.prog w= .ok (.bool a.isNone) w:=fun w a n c n' c'=>Lib.run_eql_slice_nil w _ _ a n c n' c' Tryz.underlying24;rcases A with _|⟨b,off,st⟩
 ·obtain rfl:n=0:=by
   rcases Nat.eq_zero_or_pos n with h|h
   ·exact h
   ·obtain⟨b,off,h,_⟩:=hr.2 h;cases h
  have hx:xs=[]:=List.eq_nil_of_length_eq_zero (by have:=hr.1;omega);subst hx;clear hr;go_enter Tryz.func71,Tryz.ntmps71;go_wp2;go_ret;exact⟨none,0,rfl,Reads.nil,by omega,Below.refl _ _⟩
 ·clear hr;obtain⟨i0,hi0,hz0,hz1,hz2⟩:=info_parts Tryz.info41;have HI:=aH hi0;have HZ0:=aH hz0;have HZ1:=aH hz1;have HZ2:=aH hz2;clear hi0 hz0 hz1 hz2;go_enter Tryz.func71,Tryz.ntmps71;go_wp2_with(at_builtin;refine bR rfl _ _ 24 rfl w.heap.size 41 i0 _ 9 96 Tryz.underlying24 HI.out HZ0.out HZ1.out HZ2.out rfl (by decide) _ 0 [] rfl (Row.empty w _ 41 9 lR) w.heap.size (some ⟨b,off,st⟩) n c xs rfl (HR.out.below ((Below.refl _ _).alloc lR _)) H1.out ?c1 ?c2 ?c3 ?_);case c1=>unfold maxLen;omega
  case c2=>omega
  case c3=>simp
  intro v' w' hr' hb';have HF:=aH (eR ((Below.refl _ w).alloc lR _) hr' hb');clear hr' hb';go_wp2;go_ret;exact HF.out
theorem aWg(A:Option Addr)(n c:Nat)(xs:List Value)(w:World)(hr:Reads w w.heap.size 5 A n xs)(h1:∀u∈xs,u.oneCell'=true)(hn:n*56≤140737488355328): Calls Tryz.prog 72 #[.slice A n c] w (kB w 138 5 n xs):=by
 have HR:=aH hr;have H1:=aH h1;clear h1;have q1:∀(w:World) (a:Option Addr) (n c n' c':Nat),(binOp .eql 25 (.slice a n c) (.slice none n' c')).run Tryz.prog w= .ok (.bool a.isNone) w:=fun w a n c n' c'=>Lib.run_eql_slice_nil w _ _ a n c n' c' Tryz.underlying25;rcases A with _|⟨b,off,st⟩
 ·obtain rfl:n=0:=by
   rcases Nat.eq_zero_or_pos n with h|h
   ·exact h
   ·obtain⟨b,off,h,_⟩:=hr.2 h;cases h
  have hx:xs=[]:=List.eq_nil_of_length_eq_zero (by have:=hr.1;omega);subst hx;clear hr;go_enter Tryz.func72,Tryz.ntmps72;go_wp2;go_ret;exact⟨none,0,rfl,Reads.nil,by omega,Below.refl _ _⟩
 ·clear hr;obtain⟨i0,hi0,hz0,hz1,hz2⟩:=info_parts Tryz.info138;have HI:=aH hi0;have HZ0:=aH hz0;have HZ1:=aH hz1;have HZ2:=aH hz2;clear hi0 hz0 hz1 hz2;go_enter Tryz.func72,Tryz.ntmps72;go_wp2_with(at_builtin;refine bR rfl _ _ 25 rfl w.heap.size 138 i0 _ 5 56 Tryz.underlying25 HI.out HZ0.out HZ1.out HZ2.out rfl (by decide) _ 0 [] rfl (Row.empty w _ 138 5 lR) w.heap.size (some ⟨b,off,st⟩) n c xs rfl (HR.out.below ((Below.refl _ _).alloc lR _)) H1.out ?c1 ?c2 ?c3 ?_);case c1=>unfold maxLen;omega
  case c2=>omega
  case c3=>simp
  intro v' w' hr' hb';have HF:=aH (eR ((Below.refl _ w).alloc lR _) hr' hb');clear hr' hb';go_wp2;go_ret;exact HF.out
theorem aWh(A:Option Addr)(n c:Nat)(xs:List Value)(w:World)(hr:Reads w w.heap.size 3 A n xs)(h1:∀u∈xs,u.oneCell'=true)(hn:n*40≤140737488355328): Calls Tryz.prog 73 #[.slice A n c] w (kB w 141 3 n xs):=by
 have HR:=aH hr;have H1:=aH h1;clear h1;have q1:∀(w:World) (a:Option Addr) (n c n' c':Nat),(binOp .eql 26 (.slice a n c) (.slice none n' c')).run Tryz.prog w= .ok (.bool a.isNone) w:=fun w a n c n' c'=>Lib.run_eql_slice_nil w _ _ a n c n' c' Tryz.underlying26;rcases A with _|⟨b,off,st⟩
 ·obtain rfl:n=0:=by
   rcases Nat.eq_zero_or_pos n with h|h
   ·exact h
   ·obtain⟨b,off,h,_⟩:=hr.2 h;cases h
  have hx:xs=[]:=List.eq_nil_of_length_eq_zero (by have:=hr.1;omega);subst hx;clear hr;go_enter Tryz.func73,Tryz.ntmps73;go_wp2;go_ret;exact⟨none,0,rfl,Reads.nil,by omega,Below.refl _ _⟩
 ·clear hr;obtain⟨i0,hi0,hz0,hz1,hz2⟩:=info_parts Tryz.info141;have HI:=aH hi0;have HZ0:=aH hz0;have HZ1:=aH hz1;have HZ2:=aH hz2;clear hi0 hz0 hz1 hz2;go_enter Tryz.func73,Tryz.ntmps73;go_wp2_with(at_builtin;refine bR rfl _ _ 26 rfl w.heap.size 141 i0 _ 3 40 Tryz.underlying26 HI.out HZ0.out HZ1.out HZ2.out rfl (by decide) _ 0 [] rfl (Row.empty w _ 141 3 lR) w.heap.size (some ⟨b,off,st⟩) n c xs rfl (HR.out.below ((Below.refl _ _).alloc lR _)) H1.out ?c1 ?c2 ?c3 ?_);case c1=>unfold maxLen;omega
  case c2=>omega
  case c3=>simp
  intro v' w' hr' hb';have HF:=aH (eR ((Below.refl _ w).alloc lR _) hr' hb');clear hr' hb';go_wp2;go_ret;exact HF.out
theorem aWi(A:Option Addr)(n c:Nat)(xs:List Value)(w:World)(hr:Reads w w.heap.size 5 A n xs)(h1:∀u∈xs,u.oneCell'=true)(hn:n*56≤140737488355328): Calls Tryz.prog 74 #[.slice A n c] w (kB w 144 5 n xs):=by
 have HR:=aH hr;have H1:=aH h1;clear h1;have q1:∀(w:World) (a:Option Addr) (n c n' c':Nat),(binOp .eql 27 (.slice a n c) (.slice none n' c')).run Tryz.prog w= .ok (.bool a.isNone) w:=fun w a n c n' c'=>Lib.run_eql_slice_nil w _ _ a n c n' c' Tryz.underlying27;rcases A with _|⟨b,off,st⟩
 ·obtain rfl:n=0:=by
   rcases Nat.eq_zero_or_pos n with h|h
   ·exact h
   ·obtain⟨b,off,h,_⟩:=hr.2 h;cases h
  have hx:xs=[]:=List.eq_nil_of_length_eq_zero (by have:=hr.1;omega);subst hx;clear hr;go_enter Tryz.func74,Tryz.ntmps74;go_wp2;go_ret;exact⟨none,0,rfl,Reads.nil,by omega,Below.refl _ _⟩
 ·clear hr;obtain⟨i0,hi0,hz0,hz1,hz2⟩:=info_parts Tryz.info144;have HI:=aH hi0;have HZ0:=aH hz0;have HZ1:=aH hz1;have HZ2:=aH hz2;clear hi0 hz0 hz1 hz2;go_enter Tryz.func74,Tryz.ntmps74;go_wp2_with(at_builtin;refine bR rfl _ _ 27 rfl w.heap.size 144 i0 _ 5 56 Tryz.underlying27 HI.out HZ0.out HZ1.out HZ2.out rfl (by decide) _ 0 [] rfl (Row.empty w _ 144 5 lR) w.heap.size (some ⟨b,off,st⟩) n c xs rfl (HR.out.below ((Below.refl _ _).alloc lR _)) H1.out ?c1 ?c2 ?c3 ?_);case c1=>unfold maxLen;omega
  case c2=>omega
  case c3=>simp
  intro v' w' hr' hb';have HF:=aH (eR ((Below.refl _ w).alloc lR _) hr' hb');clear hr' hb';go_wp2;go_ret;exact HF.out
theorem bCa(l:List ByteArray):∀u∈l.map S,u.oneCell'=true:=by
 intro u hu;obtain⟨x,_,rfl⟩:=List.mem_map.1 hu;rfl
theorem aEq{α:Type}{f:α→List Value}(hf:∀x,∀u∈f x,u.oneCell'=true)(l:List α):∀u∈aN f l,u.oneCell'=true:=by
 intro u hu;obtain⟨x,_,hx⟩:=List.mem_flatMap.1 hu;exact hf x u hx
theorem aMv(l:List SwitchD):∀u∈aN SwitchD.cells l,u.oneCell'=true:=aEq (fun x u hu=>by simp[SwitchD.cells]at hu;rcases hu with rfl|rfl|rfl|rfl|rfl<;>rfl) l
theorem sI(l:List BranchD):∀u∈aN BranchD.cells l,u.oneCell'=true:=aEq (fun x u hu=>by simp[BranchD.cells]at hu;rcases hu with rfl|rfl|rfl|rfl|rfl|rfl|rfl|rfl|rfl<;>rfl) l
theorem aZf(l:List GenD):∀u∈aN GenD.cells l,u.oneCell'=true:=aEq (fun x u hu=>by simp[GenD.cells]at hu;rcases hu with rfl|rfl|rfl|rfl|rfl<;>rfl) l
theorem aWj(l:List LoadD):∀u∈aN LoadD.cells l,u.oneCell'=true:=aEq (fun x u hu=>by simp[LoadD.cells]at hu;rcases hu with rfl|rfl|rfl<;>rfl) l
theorem aRl(l:List StoreD):∀u∈aN StoreD.cells l,u.oneCell'=true:=aEq (fun x u hu=>by simp[StoreD.cells]at hu;rcases hu with rfl|rfl|rfl|rfl|rfl<;>rfl) l
def aRm(w:World)(n:NetD)(e:Ending)(w':World):Prop:=∃v:NetV,e= .returned (v.val n)∧NetIn w' n v∧(0<n.switches.length→Row w' w.heap.size 134 5 (.slice v.sa n.switches.length v.sc) n.switches.length (aN SwitchD.cells n.switches))∧Below w.heap.size w w'
structure NetRows(w:World)(base:Nat)(n:NetD)(v:NetV):Prop where
 r0:0<n.nodes.length→Row w base 9 1 (.slice v.na n.nodes.length v.nc) n.nodes.length (n.nodes.map S)
 r1:0<n.switches.length→Row w base 134 5 (.slice v.sa n.switches.length v.sc) n.switches.length (aN SwitchD.cells n.switches)
 r2:0<n.branches.length→Row w base 41 9 (.slice v.ba n.branches.length v.bc) n.branches.length (aN BranchD.cells n.branches)
 r3:0<n.gens.length→Row w base 138 5 (.slice v.ga n.gens.length v.gc) n.gens.length (aN GenD.cells n.gens)
 r4:0<n.loads.length→Row w base 141 3 (.slice v.la n.loads.length v.lc) n.loads.length (aN LoadD.cells n.loads)
 r5:0<n.stores.length→Row w base 144 5 (.slice v.ta n.stores.length v.tc) n.stores.length (aN StoreD.cells n.stores)
def aJs(w:World)(n:NetD)(e:Ending)(w':World):Prop:=∃v:NetV,e= .returned (v.val n)∧NetIn w' n v∧NetRows w' w.heap.size n v∧Below w.heap.size w w'
structure NetBy(n:NetD):Prop where
 l1:n.nodes.length*16≤140737488355328
 l2:n.switches.length*56≤140737488355328
 l3:n.branches.length*96≤140737488355328
 l4:n.gens.length*56≤140737488355328
 l5:n.loads.length*40≤140737488355328
 l6:n.stores.length*56≤140737488355328
structure Copying(w:World)(nb cs:Array Value)(w':World):Prop where
 below:Below w.heap.size w w'
 box:Blk w' w.heap.size 29 nb
 res:∃ds,ds.size=cs.size∧Blk w' (w.heap.size+1) 29 ds
theorem Copying.step{w w0 w1:World}{nb cs:Array Value}(h:Copying w nb cs w0)(hb:Below w0.heap.size w0 w1):Copying w nb cs w1:=⟨h.below.trans (hb.mono h.below.size),h.box.below hb h.box.lt,by obtain⟨ds,h1,h2⟩:=h.res;exact⟨ds,h1,h2.below hb h2.lt⟩⟩
theorem Copying.set{w w':World}{nb cs:Array Value}(h:Copying w nb cs w')(i:Nat)(u:Value):Copying w nb cs (w'.setCell ⟨w.heap.size+1,i,none⟩ u):=⟨h.below.setCell (by simp) _,h.box.far (by simp) _,by obtain⟨ds,h1,h2⟩:=h.res;exact⟨_,by simp[h1],h2.set_ i u⟩⟩
theorem Copying.frozen{w w':World}{nb cs:Array Value}(h:Copying w nb cs w')(i:Nat):w'.frozen? ⟨w.heap.size+1,i,none⟩=false:=by obtain⟨ds,h1,h2⟩:=h.res;exact h2.frozen i
theorem Copying.drew{w w':World}{nb cs:Array Value}(h:Copying w nb cs w'):Copying w nb cs w'.drew:=⟨h.below.drew,h.box,h.res⟩
abbrev six(a b c d e f:Value):Array Value:=#[a,b,c,d,e,f]
abbrev pR:Array Value:=six (.slice none 0 0) (.slice none 0 0) (.slice none 0 0) (.slice none 0 0) (.slice none 0 0) (.slice none 0 0)
theorem Copying.old{w w':World}{nb:Array Value}(h:Copying w nb pR w')(i:Nat)(hi:i<6):w'.cell? ⟨w.heap.size+1,i,none⟩=some (bY w' ⟨w.heap.size+1,i,none⟩):=by
 obtain⟨ds,h1,h2⟩:=h.res;have hlt:i<ds.size:=by rw[h1];exact hi
 rw[bY,h2.cell,Array.getElem?_eq_getElem hlt];rfl
theorem Copying.all{w w':World}{a b c d e f:Value}(h:Copying w #[a,b,c,d,e,f] pR w'): w'.cell? ⟨w.heap.size,0,none⟩=some a∧w'.cell? ⟨w.heap.size,1,none⟩=some b∧w'.cell? ⟨w.heap.size,2,none⟩=some c∧w'.cell? ⟨w.heap.size,3,none⟩=some d∧w'.cell? ⟨w.heap.size,4,none⟩=some e∧w'.cell? ⟨w.heap.size,5,none⟩=some f∧(w'.frozen? ⟨w.heap.size+1,0,none⟩=false∧w'.frozen? ⟨w.heap.size+1,1,none⟩=false∧w'.frozen? ⟨w.heap.size+1,2,none⟩=false∧w'.frozen? ⟨w.heap.size+1,3,none⟩=false∧w'.frozen? ⟨w.heap.size+1,4,none⟩=false∧w'.frozen? ⟨w.heap.size+1,5,none⟩=false)∧(w'.cell? ⟨w.heap.size+1,0,none⟩=some (bY w' ⟨w.heap.size+1,0,none⟩)∧w'.cell? ⟨w.heap.size+1,1,none⟩=some (bY w' ⟨w.heap.size+1,1,none⟩)∧w'.cell? ⟨w.heap.size+1,2,none⟩=some (bY w' ⟨w.heap.size+1,2,none⟩)∧w'.cell? ⟨w.heap.size+1,3,none⟩=some (bY w' ⟨w.heap.size+1,3,none⟩)∧w'.cell? ⟨w.heap.size+1,4,none⟩=some (bY w' ⟨w.heap.size+1,4,none⟩)∧w'.cell? ⟨w.heap.size+1,5,none⟩=some (bY w' ⟨w.heap.size+1,5,none⟩))∧Copying w #[a,b,c,d,e,f] pR w':=⟨h.box.cell 0,h.box.cell 1,h.box.cell 2,h.box.cell 3,h.box.cell 4,h.box.cell 5,⟨h.frozen 0,h.frozen 1,h.frozen 2,h.frozen 3,h.frozen 4,h.frozen 5⟩,⟨h.old 0 (by decide),h.old 1 (by decide),h.old 2 (by decide),h.old 3 (by decide),h.old 4 (by decide),h.old 5 (by decide)⟩,h⟩
theorem Copying.of6{w w':World}{nb cs:Array Value}{p q r s t u x y:Prop}(h:p∧q∧r∧s∧t∧u∧x∧y∧Copying w nb cs w'):Copying w nb cs w':=h.2.2.2.2.2.2.2.2
theorem Copying.read{w w':World}{nb cs:Array Value}(h:Copying w nb cs w'){sz n:Nat}{A:Option Addr}{xs:List Value}(hr:Reads w w.heap.size sz A n xs):Reads w' w'.heap.size sz A n xs:=(hr.below h.below).more h.below.size
def set6(w:World)(b:Nat)(x0 x1 x2 x3 x4 x5:Value):World:=(((((w.setCell ⟨b,0,none⟩ x0).setCell ⟨b,1,none⟩ x1).setCell ⟨b,2,none⟩ x2).setCell ⟨b,3,none⟩ x3).setCell ⟨b,4,none⟩ x4).setCell ⟨b,5,none⟩ x5
theorem sJ(w:World)(b:Nat)(x0 x1 x2 x3 x4 x5:Value)(g:Nat)(hg:g≠b):(set6 w b x0 x1 x2 x3 x4 x5).heap[g]?=w.heap[g]?:=by
 unfold set6;iterate 6 rw[Below.heap_setCell _ _ _ g (by simpa using hg)]
theorem wS(w:World)(b B:Nat)(x0 x1 x2 x3 x4 x5:Value)(hb:B≤b):Below B w (set6 w b x0 x1 x2 x3 x4 x5):=((((((Below.refl B w).setCell hb _).setCell hb _).setCell hb _).setCell hb _).setCell hb _).setCell hb _
theorem aMw(w:World)(b:Nat)(x0 x1 x2 x3 x4 x5:Value):(set6 w b x0 x1 x2 x3 x4 x5).heap.size=w.heap.size:=by
 simp[set6,World.setCell]
theorem wT(w:World)(b:Nat)(x0 x1 x2 x3 x4 x5:Value):set6 w b x0 x1 x2 x3 x4 x5=(((((w.setCell ⟨b,0,none⟩ x0).setCell ⟨b,1,none⟩ x1).setCell ⟨b,2,none⟩ x2).setCell ⟨b,3,none⟩ x3).setCell ⟨b,4,none⟩ x4).setCell ⟨b,5,none⟩ x5:=rfl
theorem aZg{ds:Array Value}(h:ds.size=6):∃a b c d e f,ds=#[a,b,c,d,e,f]:=by
 obtain⟨l⟩:=ds;match l,h with
 |[a,b,c,d,e,f],_=>exact⟨a,b,c,d,e,f,rfl⟩
theorem aEr{w:World}{b:Nat}{ds:Array Value}{t:TypeId}(h:Blk w b t ds)(hd:ds.size=6)(x0 x1 x2 x3 x4 x5:Value):Blk (set6 w b x0 x1 x2 x3 x4 x5) b t #[x0,x1,x2,x3,x4,x5]:=by
 obtain⟨a0,a1,a2,a3,a4,a5,rfl⟩:=aZg hd;have:=(((((h.set_ 0 x0).set_ 1 x1).set_ 2 x2).set_ 3 x3).set_ 4 x4).set_ 5 x5;simp only[List.setIfInBounds_toArray,List.set_cons_succ,List.set_cons_zero]at this;rw[wT];exact this
theorem gY{w w1:World}{b:Nat}(x0 x1 x2 x3 x4 x5:Value){sz n:Nat}{A:Option Addr}{xs:List Value}(hr:Reads w1 w1.heap.size sz A n xs)(hb:Below w1.heap.size w1 w)(hne:0<n→∀g off,A=some ⟨g,off,none⟩→g≠b): Reads (set6 w b x0 x1 x2 x3 x4 x5) (set6 w b x0 x1 x2 x3 x4 x5).heap.size sz A n xs:=by
 refine⟨hr.1,fun hn=>?_⟩;obtain⟨g,off,e,hg,hc⟩:=hr.2 hn;refine⟨g,off,e,by rw[aMw];exact Nat.lt_of_lt_of_le hg hb.size,fun j u hu=>?_⟩;have h1:=hc j u hu;rw[←hb.cell (p:=⟨g,off+j,none⟩) hg]at h1;have h2:=sJ w b x0 x1 x2 x3 x4 x5 g (hne hn g off e);simp only[World.cell?]at h1⊢;rw[h2];exact h1
theorem Row.away{w:World}{base b:Nat}{E:TypeId}{sz n c:Nat}{A:Option Addr}{xs:List Value}(ho:0<n→Row w base E sz (.slice A n c) n xs)(hb:b<base):0<n→∀g off,A=some ⟨g,off,none⟩→g≠b:=by
 intro hn g off e;obtain⟨g',off',cap,cur,hv,hg,_⟩:=(ho hn).form hn;injection hv with hA;rw[e]at hA;injection hA with hA;injection hA with hA;omega
theorem Row.set6{w w1:World}{base b:Nat}{E:TypeId}{sz n:Nat}{v:Value}{xs:List Value}(h:Row w1 base E sz v n xs)(hb:Below w1.heap.size w1 w)(hlt:b<base)(x0 x1 x2 x3 x4 x5:Value):Row (set6 w b x0 x1 x2 x3 x4 x5) base E sz v n xs:=h.keep fun g hg hg2=>by rw[sJ _ _ _ _ _ _ _ _ g (by omega)];exact hb.block g hg2
theorem aEs(n:NetD)(v:NetV)(w:World)(hN:NetIn w n v)(hl:NetBy n):Calls Tryz.prog 24 #[v.val n] w (aJs w n):=by
 have HN:=aH hN;have HL:=aH hl;clear hN hl;unfold NetV.val NetV.parts;go_enter Tryz.func24,Tryz.ntmps24;go_wp2;have hS:Copying w #[Value.slice v.na n.nodes.length v.nc,Value.slice v.sa n.switches.length v.sc,Value.slice v.ba n.branches.length v.bc,Value.slice v.ga n.gens.length v.gc,Value.slice v.la n.loads.length v.lc,Value.slice v.ta n.stores.length v.tc] pR ((w.alloc (Obj.cells #[Value.slice v.na n.nodes.length v.nc,Value.slice v.sa n.switches.length v.sc,Value.slice v.ba n.branches.length v.bc,Value.slice v.ga n.gens.length v.gc,Value.slice v.la n.loads.length v.lc,Value.slice v.ta n.stores.length v.tc] 29)).alloc (Obj.cells pR 29)):=⟨gX w _ _,(Blk.new w 29 _).alloc _,by have:=Blk.new (w.alloc (Obj.cells #[Value.slice v.na n.nodes.length v.nc,Value.slice v.sa n.switches.length v.sc,Value.slice v.ba n.branches.length v.bc,Value.slice v.ga n.gens.length v.gc,Value.slice v.la n.loads.length v.lc,Value.slice v.ta n.stores.length v.tc] 29)) 29 pR;rw[World.size_alloc w]at this;exact⟨_,rfl,this⟩⟩
 generalize((w.alloc (Obj.cells #[Value.slice v.na n.nodes.length v.nc,Value.slice v.sa n.switches.length v.sc,Value.slice v.ba n.branches.length v.bc,Value.slice v.ga n.gens.length v.gc,Value.slice v.la n.loads.length v.lc,Value.slice v.ta n.stores.length v.tc] 29)).alloc (Obj.cells pR 29))=W0 at*;go_region_held3 (fun w'=>w'.cell? ⟨w.heap.size,0,none⟩=some (Value.slice v.na n.nodes.length v.nc)∧w'.cell? ⟨w.heap.size,1,none⟩=some (Value.slice v.sa n.switches.length v.sc)∧w'.cell? ⟨w.heap.size,2,none⟩=some (Value.slice v.ba n.branches.length v.bc)∧w'.cell? ⟨w.heap.size,3,none⟩=some (Value.slice v.ga n.gens.length v.gc)∧w'.cell? ⟨w.heap.size,4,none⟩=some (Value.slice v.la n.loads.length v.lc)∧w'.cell? ⟨w.heap.size,5,none⟩=some (Value.slice v.ta n.stores.length v.tc)∧(w'.frozen? ⟨w.heap.size+1,0,none⟩=false∧w'.frozen? ⟨w.heap.size+1,1,none⟩=false∧w'.frozen? ⟨w.heap.size+1,2,none⟩=false∧w'.frozen? ⟨w.heap.size+1,3,none⟩=false∧w'.frozen? ⟨w.heap.size+1,4,none⟩=false∧w'.frozen? ⟨w.heap.size+1,5,none⟩=false)∧(w'.cell? ⟨w.heap.size+1,0,none⟩=some (bY w' ⟨w.heap.size+1,0,none⟩)∧w'.cell? ⟨w.heap.size+1,1,none⟩=some (bY w' ⟨w.heap.size+1,1,none⟩)∧w'.cell? ⟨w.heap.size+1,2,none⟩=some (bY w' ⟨w.heap.size+1,2,none⟩)∧w'.cell? ⟨w.heap.size+1,3,none⟩=some (bY w' ⟨w.heap.size+1,3,none⟩)∧w'.cell? ⟨w.heap.size+1,4,none⟩=some (bY w' ⟨w.heap.size+1,4,none⟩)∧w'.cell? ⟨w.heap.size+1,5,none⟩=some (bY w' ⟨w.heap.size+1,5,none⟩))∧Copying w #[Value.slice v.na n.nodes.length v.nc,Value.slice v.sa n.switches.length v.sc,Value.slice v.ba n.branches.length v.bc,Value.slice v.ga n.gens.length v.gc,Value.slice v.la n.loads.length v.lc,Value.slice v.ta n.stores.length v.tc] pR w') (first|(with_reducible exact Copying.all hS)|(with_reducible exact Copying.all hS.drew)|(with_reducible exact Copying.all (Copying.step (Copying.of6 (by assumption)) (by assumption)))|(with_reducible exact Copying.all (Copying.set (Copying.set (Copying.set (Copying.set (Copying.set (Copying.set (Copying.of6 (by assumption)) _ _) _ _) _ _) _ _) _ _) _ _)))
  (first|(go_at_call 69;refine(aWd _ _ _ _ _ (Copying.read (Copying.of6 (by assumption)) HN.out.nodes) (bCa _) HL.out.l1).mono ?_;rintro e w1 ⟨A1,c1,rfl,hr1,ho1,hb1⟩)|(go_at_call 70;refine(aWe _ _ _ _ _ (Copying.read (Copying.of6 (by assumption)) HN.out.switches) (aMv _) HL.out.l2).mono ?_;rintro e w2 ⟨A2,c2,rfl,hr2,ho2,hb2⟩)|(go_at_call 71;refine(aWf _ _ _ _ _ (Copying.read (Copying.of6 (by assumption)) HN.out.branches) (sI _) HL.out.l3).mono ?_;rintro e w3 ⟨A3,c3,rfl,hr3,ho3,hb3⟩)|(go_at_call 72;refine(aWg _ _ _ _ _ (Copying.read (Copying.of6 (by assumption)) HN.out.gens) (aZf _) HL.out.l4).mono ?_;rintro e w4 ⟨A4,c4,rfl,hr4,ho4,hb4⟩)|(go_at_call 73;refine(aWh _ _ _ _ _ (Copying.read (Copying.of6 (by assumption)) HN.out.loads) (aWj _) HL.out.l5).mono ?_;rintro e w5 ⟨A5,c5,rfl,hr5,ho5,hb5⟩)|(go_at_call 74;refine(aWi _ _ _ _ _ (Copying.read (Copying.of6 (by assumption)) HN.out.stores) (aRl _) HL.out.l6).mono ?_;rintro e w6 ⟨A6,c6,rfl,hr6,ho6,hb6⟩))
 have hC:=(((((hS.drew.step hb1).step hb2).step hb3).step hb4).step hb5).step hb6;have hs1:w.heap.size+1<W0.heap.size:=by obtain⟨ds,_,h2⟩:=hS.res;exact h2.lt
 have hs2:=hb1.size;have hs3:=hb2.size;have hs4:=hb3.size;have hs5:=hb4.size;have hs6:=hb5.size;have hs7:=hb6.size;have hd0:W0.drew.heap.size=W0.heap.size:=rfl;have b56:=hb6;have b46:=hb5.trans (b56.mono hs6);have b36:=hb4.trans (b46.mono hs5);have b26:=hb3.trans (b36.mono hs4);have b16:=hb2.trans (b26.mono hs3);have HF:Hid (aJs w n (.returned (.agg #[.slice A1 n.nodes.length c1,.slice A2 n.switches.length c2,.slice A3 n.branches.length c3,.slice A4 n.gens.length c4,.slice A5 n.loads.length c5,.slice A6 n.stores.length c6])) (set6 w6 (w.heap.size+1) (.slice A1 n.nodes.length c1) (.slice A2 n.switches.length c2) (.slice A3 n.branches.length c3) (.slice A4 n.gens.length c4) (.slice A5 n.loads.length c5) (.slice A6 n.stores.length c6))):=⟨⟨A1,c1,A2,c2,A3,c3,A4,c4,A5,c5,A6,c6⟩,rfl,⟨gY _ _ _ _ _ _ hr1 b16 (Row.away ho1 (by omega)),gY _ _ _ _ _ _ hr2 b26 (Row.away ho2 (by omega)),gY _ _ _ _ _ _ hr3 b36 (Row.away ho3 (by omega)),gY _ _ _ _ _ _ hr4 b46 (Row.away ho4 (by omega)),gY _ _ _ _ _ _ hr5 b56 (Row.away ho5 (by omega)),gY _ _ _ _ _ _ hr6 (Below.refl _ _) (Row.away ho6 (by omega))⟩,
   ⟨fun h=>((ho1 h).set6 b16 (by omega) _ _ _ _ _ _).less (by omega),fun h=>((ho2 h).set6 b26 (by omega) _ _ _ _ _ _).less (by omega),fun h=>((ho3 h).set6 b36 (by omega) _ _ _ _ _ _).less (by omega),fun h=>((ho4 h).set6 b46 (by omega) _ _ _ _ _ _).less (by omega),fun h=>((ho5 h).set6 b56 (by omega) _ _ _ _ _ _).less (by omega),fun h=>((ho6 h).set6 (Below.refl _ _) (by omega) _ _ _ _ _ _).less (by omega)⟩,
   hC.below.trans (wS _ _ _ _ _ _ _ _ _ (by omega))⟩
 obtain⟨ds,hd1,hd2⟩:=hC.res;have hB:=aEr hd2 hd1 (.slice A1 n.nodes.length c1) (.slice A2 n.switches.length c2) (.slice A3 n.branches.length c3) (.slice A4 n.gens.length c4) (.slice A5 n.loads.length c5) (.slice A6 n.stores.length c6);have c0:=hB.cell 0;have c1':=hB.cell 1;have c2':=hB.cell 2;have c3':=hB.cell 3;have c4':=hB.cell 4;have c5':=hB.cell 5;rw[←wT w6 (w.heap.size+1) (.slice A1 n.nodes.length c1) (.slice A2 n.switches.length c2) (.slice A3 n.branches.length c3) (.slice A4 n.gens.length c4) (.slice A5 n.loads.length c5) (.slice A6 n.stores.length c6)];generalize set6 w6 (w.heap.size+1) (.slice A1 n.nodes.length c1) (.slice A2 n.switches.length c2) (.slice A3 n.branches.length c3) (.slice A4 n.gens.length c4) (.slice A5 n.loads.length c5) (.slice A6 n.stores.length c6)=W7 at*;clear b16 b26 b36 b46 b56 hb1 hb2 hb3 hb4 hb5 hb6 hr1 hr2 hr3 hr4 hr5 hr6 ho1 ho2 ho3 ho4 ho5 ho6 hd0 hd1 hd2 hB hC hS;go_wp2;exact bodyPost_ret (v:= .agg #[.slice A1 n.nodes.length c1,.slice A2 n.switches.length c2,.slice A3 n.branches.length c3,.slice A4 n.gens.length c4,.slice A5 n.loads.length c5,.slice A6 n.stores.length c6]) (by simp[results,go_sem,c0,c1',c2',c3',c4',c5']) rfl HF.out
end Go.Proofs.YtenbglfkdldheaaGreatDoor
