/- large.Read: the number of a row of digits. Decimal numbers: the number of a canonical row of digits, and back; what Check answers. Plain facts. Package nat in plain Lean, and its laws. No program here. Package nat in plain Lean: the laws of division and of powers. No program here. Rational numbers as texts: what rat.Check answers, the number of a text, and back. Plain facts. Package rat in plain Lean. No program here. -/
import Derived.Test.YtenbglfkdldheaaGreatDoorVH
import Derived.Lib.ParseIntB
import Derived.Lib.AtoiErrMem
import Derived.Lib.IndexLaws
namespace Go.Proofs.YtenbglfkdldheaaGreatDoor
section
open Go.RowKit
def aNq(l:List UInt8):Prop:=∀c∈l,48≤c.toNat∧c.toNat≤57
def xE(a:Nat)(l:List UInt8):Nat:=l.foldl (fun a c=>a*10+(c.toNat-48)) a
def num(l:List UInt8):Nat:=xE 0 l
theorem aAl:∀(l:List UInt8) (a:Nat),xE a l=a*10^l.length+xE 0 l
 |[],a=>by simp[xE]
 |c::l,a=>by
  have h1:=aAl l (a*10+(c.toNat-48));have h2:=aAl l (0*10+(c.toNat-48));simp only[xE,List.foldl_cons,List.length_cons]at*;rw[h1,h2,Nat.pow_succ];grind
theorem aFd(l m:List UInt8):num (l++m)=num l*10^m.length+num m:=by
 unfold num;have:xE 0 (l++m)=xE (xE 0 l) m:=by simp[xE]
 rw[this,aAl]
theorem Var.set0{w:World}{g:Nat}{x0 x1:Value}(h:Var w g x0 x1)(u:Value):Var (w.setCell ⟨g,0,none⟩ u) g u x1:=by
 refine⟨World.cell?_setCell_same _ _ _ h.c0,?_,by simpa using h.f0,by simpa using h.f1⟩;rw[World.cell?_setCell_other _ _ _ _ (by simp)];exact h.c1
theorem Var.far0{w:World}{g g':Nat}{x0 x1:Value}(h:Var w g x0 x1)(hne:g'≠g)(u:Value):Var (w.setCell ⟨g',0,none⟩ u) g x0 x1:=by
 refine⟨?_,?_,by simpa using h.f0,by simpa using h.f1⟩
 ·rw[World.cell?_setCell_far _ _ _ _ (by simpa using hne)];exact h.c0
 ·rw[World.cell?_setCell_far _ _ _ _ (by simpa using hne)];exact h.c1
theorem Big.signed{w:World}{A:Option Addr}{n c:Nat}{x:Nat}(h:Big w (.agg #[.bool false,.slice A n c]) (x:Int))(m:Bool):Big w (.agg #[.bool (m&&decide (0<n)),.slice A n c]) (sgn m (x:Int)):=by
 obtain⟨A',c',ws,e,hr,hc,ho,hn,hv⟩:=h;injection e with e;have e1:=congrArg (fun a:Array Value=>a[1]?) e;simp at e1;obtain⟨rfl,rfl,rfl⟩:=e1;have hs:=Big.sign ho hn hv;refine⟨A,c,ws,?_,hr,hc,ho,hn,by rw[tS m (by omega),hv];omega⟩;congr 3;cases m
 ·simp[sgn]
 ·simp only[Bool.true_and,sgn,if_true];have h2:decide (0<ws.length)=decide (-(x:Int)<0):=decide_eq_decide.2 ⟨fun h=>by omega,fun h=>by omega⟩;rw[h2]
end
section
open Go.Lib
theorem aCn{l m:List UInt8}(h:aNq l)(k:aNq m):aNq (l++m):=fun c hc=>(List.mem_append.1 hc).elim (h c) (k c)
theorem sJ{d:Nat}(h:d<10):(UInt8.ofNat (48+d)).toNat=48+d:=by rw[UInt8.toNat_ofNat'];omega
theorem aCo{d:Nat}(h:d<10):aNq [UInt8.ofNat (48+d)]:=fun c hc=>by
 rw[List.mem_singleton.1 hc,sJ h];omega
theorem aHp(c:UInt8):num [c]=c.toNat-48:=by simp[num,xE]
theorem aWo(n:Nat):aNq (decDigits n):=by
 induction n using Nat.strongRecOn with
 |ind n ih=>
  by_cases h:n<10
  ·rw[decDigits,dif_pos h];exact aCo h
  ·rw[vQ (by omega)];exact aCn (ih _ (by omega)) (aCo (by omega))
theorem aRu(n:Nat):num (decDigits n)=n:=by
 induction n using Nat.strongRecOn with
 |ind n ih=>
  by_cases h:n<10
  ·rw[decDigits,dif_pos h,aHp,sJ h];omega
  ·rw[vQ (by omega),aFd,ih _ (by omega),aHp,sJ (by omega)];simp only[List.length_cons,List.length_nil];omega
theorem aCp(n:Nat):itoa (n:Int)=decDigits n:=by simp[itoa]
def aKa(n:Nat):Bool:=decide ((decDigits n).length≤2000)
def cF(q:Rat):List UInt8:=if q.den=1 then itoa q.num else itoa q.num++47::decDigits q.den
def fA(q:Rat):Bool:=aKa q.num.natAbs&&aKa q.den
theorem aRv{n:Nat}(h:decDigits n=[49]):n=1:=by have:=aRu n;rw[h]at this;exact this.symm
theorem aVd{n d:Int}(hd:0<d)(hg:Int.gcd d n=1):(Rat.divInt n d).num=n∧((Rat.divInt n d).den:Int)=d:=by
 rw[Rat.num_divInt,Rat.den_divInt,hg,Int.sign_eq_one_of_pos hd,if_neg (by omega)];refine⟨by simp,by simp;omega⟩
def xF(x y:Rat):Int:=(x.num*(y.den:Int)-y.num*(x.den:Int)).sign
theorem aRw(x y:Rat):xF x y=-1↔x<y:=by
 rw[xF,Int.sign_eq_neg_one_iff_neg,Rat.lt_iff];omega
theorem aRx(x y:Rat):xF x y=0↔x=y:=by
 rw[xF,Int.sign_eq_zero_iff_zero,Rat.eq_iff_mul_eq_mul];omega
theorem aRy(x y:Rat):xF x y=1↔y<x:=by
 rw[xF,Int.sign_eq_one_iff_pos,Rat.lt_iff];omega
theorem aFe(x y:Rat):xF x y=-1∨xF x y=0∨xF x y=1:=by
 rcases Int.sign_trichotomy (x.num*(y.den:Int)-y.num*(x.den:Int))with h|h|h
 ·exact .inr (.inr h)
 ·exact .inr (.inl h)
 ·exact .inl h
theorem lD(n d:Int):(Rat.divInt n d).num.natAbs≤n.natAbs∧(Rat.divInt n d).den≤max 1 d.natAbs:=by
 rw[Rat.num_divInt,Rat.den_divInt];constructor
 ·refine Nat.le_trans (Int.natAbs_ediv_le_natAbs _ _) ?_;rw[Int.natAbs_mul];have:d.sign.natAbs≤1:=by rcases Int.sign_trichotomy d with h|h|h<;>rw[h]<;>decide
  calc d.sign.natAbs * n.natAbs ≤ 1 * n.natAbs := Nat.mul_le_mul_right _ this
   _ = n.natAbs := Nat.one_mul _
 ·split
  ·exact Nat.le_max_left _ _
  ·exact Nat.le_trans (Nat.div_le_self _ _) (Nat.le_max_right _ _)
theorem vS(x y:Rat):Rat.divInt (x.num*(y.den:Int)+y.num*(x.den:Int)) ((x.den:Int)*(y.den:Int))=x+y:=by
 rw[Rat.add_def',←Rat.divInt_ofNat,Int.natCast_mul]
theorem pN(x y:Rat):Rat.divInt (x.num*y.num) ((x.den:Int)*(y.den:Int))=x*y:=by
 rw[Rat.mul_def',←Rat.divInt_ofNat,Int.natCast_mul]
theorem aFf(x y:Rat):Rat.divInt (x.num*(y.den:Int)) ((x.den:Int)*y.num)=x/y:=by
 rw[Rat.div_def,Rat.inv_def,←Rat.divInt_mul_divInt,Rat.num_divInt_den]
end
end Go.Proofs.YtenbglfkdldheaaGreatDoor
