/- fine: are there no errors? rat.CheckAll. Determinants of matrices of rational numbers, given as functions of row and column: linear and alternating in the rows, triangular matrices. Plain facts. No program here. Package matrix in plain Lean: matrices of texts and of rational numbers, and the laws of the ring. No program here. The laws of package matrix that the keep's MatrixRing, MatrixTurns and MatrixUnits ask for, on the plain functions. No program here. matrix.CheckVec, Check, first, width; matrices of texts that are read. -/
import Derived.Test.YtenbglfkdldheaaGreatDoorUO
set_option maxRecDepth 100000
set_option maxHeartbeats 1000000
namespace Go.Proofs.YtenbglfkdldheaaGreatDoor
section
open Go.RowKit
def kC(es:List Int):Bool:=es.all fun e=>e==0
theorem wY(w:World)(t:TypeId)(xs:List Value):Reads (w.alloc (.cells xs.toArray t)) (w.heap.size+1) 1 (some ⟨w.heap.size,0,none⟩) xs.length xs:=by
 refine⟨by simp,fun _=>⟨_,_,rfl,by omega,fun j u hu=>?_⟩⟩;rw[(Blk.new w t xs.toArray).cell];simpa using hu
theorem aRy(x:Int)(w:World):Calls Tryz.prog 86 #[I x] w fun e w'=>e= .returned (.bool (x !=0))∧w=w':=by
 go_enter Tryz.func86,Tryz.ntmps86;go_wp2;go_ret;exact⟨rfl,rfl⟩
theorem aNf(es:List Int)(n:Nat)(A:Option Addr)(c:Nat)(w:World)(B:Nat)(hr:Reads w B 1 A n (es.map I))(hn:n≤1000000): Calls Tryz.prog 141 #[.slice A n c,.func (.func 86) #[] #[]] w fun e w'=>(∃r,e= .returned (I r)∧decide (0≤r)= !kC es)∧w=w':=by
 have hl:es.length=n:=by have:=hr.1;simpa using this
 go_enter Tryz.func141,Tryz.ntmps141;go_wp2;go_loopg [8] (n-0) (fun r v wr=>∃k:Nat,r=n-k∧v=I k∧k≤n∧w=wr∧Hid (kC es=kC (es.drop k)));case atStart=>exact⟨0,rfl,rfl,by omega,rfl,rfl⟩
 case round=>
  obtain⟨k,rfl,rfl,hk,rfl,HO⟩:=hrel;by_cases hlt:k<n
  ·obtain⟨b,off,u,rfl,_,hu,hc⟩:=hr.at1 hlt;obtain⟨x,hx⟩:∃x,es.getD k 0=x:=⟨_,rfl⟩;have hx2:es[k]'(by omega)=x:=by rw[←hx,gD,gE (by omega)];rfl
   obtain rfl:u=I x:=by
    rw[List.getElem?_map,gE (by omega),hx2]at hu;simpa using hu.symm
   have HO2:=aH (show kC es=((x==0)&&kC (es.drop (k+1))) by
    rw[HO.out,List.drop_eq_getElem_cons (by omega),hx2];rfl)
   have HL:=aH hl;clear hu hr hx hx2 HO hl;by_cases h0:x=0
   ·have tb:(x !=0)=false:=by rw[h0];rfl
    have HO3:=aH (show kC es=kC (es.drop (k+1)) by rw[HO2.out,h0];rfl);clear h0;go_wp2_with(go_at_call 86;refine(aRy x _).mono ?_;rintro e w' ⟨rfl,rfl⟩);go_roundg (n-(k+1));case measure=>omega
    case rel=>exact⟨k+1,rfl,by go_num,by omega,rfl,HO3⟩
   ·have tb:(x !=0)=true:=bne_iff_ne.2 h0;have HF:=aH (show decide (0≤(k:Int))= !kC es by
     rw[HO2.out,beq_eq_false_iff_ne.2 h0,decide_eq_true (by omega)];rfl)
    clear h0;go_wp2_with(go_at_call 86;refine(aRy x _).mono ?_;rintro e w' ⟨rfl,rfl⟩);go_ret;exact⟨⟨_,rfl,HF.out⟩,rfl⟩
  ·have HF:=aH (show decide (0≤(-1:Int))= !kC es by
    rw[HO.out,List.drop_of_length_le (by omega)];rfl)
   clear HO;go_wp2;go_ret;exact⟨⟨_,rfl,HF.out⟩,rfl⟩
theorem wZ(es:List Int)(n:Nat)(A:Option Addr)(c:Nat)(w:World)(B:Nat)(hr:Reads w B 1 A n (es.map I))(hn:n≤1000000): Calls Tryz.prog 32 #[.slice A n c] w fun e w'=>e= .returned (.bool (kC es))∧w=w':=by
 have h41:∀w,Reads w B 1 A n (es.map I)→Calls Tryz.prog 85 #[.slice A n c,.func (.func 86) #[] #[]] w fun e w'=>e= .returned (.bool (!kC es))∧w=w':=by
  intro w hr;have HX:=aH (aNf es n A c w B hr hn);clear hr;go_enter Tryz.func85,Tryz.ntmps85;go_wp2_with fail;refine HX.out.mono ?_;rintro e w1 ⟨⟨r,rfl,hr⟩,rfl⟩;have HR:=aH hr;clear hr HX;go_wp2;go_ret;exact⟨congrArg (fun b=>Ending.returned (.bool b)) HR.out,rfl⟩
 have H41:=aH (h41 w hr);clear h41 hr;go_enter Tryz.func32,Tryz.ntmps32;go_wp2_with fail;refine H41.out.mono ?_;rintro e w1 ⟨rfl,rfl⟩;go_wp2;go_ret;exact⟨by simp,rfl⟩
abbrev Sv(s:ByteArray):Value:= .string s
theorem aRz(l:List ByteArray)(n:Nat)(A:Option Addr)(c:Nat)(w:World)(hr:Reads w w.heap.size 1 A n (l.map Sv))(hn:n≤9223372036854775807)(hs:∀s∈l,s.size≤9223372036854775807)(htab:Tab w): Calls Tryz.prog 116 #[.slice A n c] w fun e w'=>e= .returned (I (pN (l.map SL)))∧Below w.heap.size w w':=by
 have hl:l.length=n:=by have:=hr.1;simpa using this
 have HTB:=aH htab;have HS:=aH hs;have HRD:=aH hr;clear htab hs hr;go_enter Tryz.func116,Tryz.ntmps116;go_wp2;go_loopg [8] (n-0) (fun r v wr=>∃k:Nat,r=n-k∧v=I k∧k≤n∧Hid (Below w.heap.size w wr)∧Hid (pN (l.map SL)=pN ((l.drop k).map SL)));case atStart=>exact⟨0,rfl,rfl,by omega,Below.refl _ _,rfl⟩
 case round=>
  obtain⟨k,rfl,rfl,hk,HB,HO⟩:=hrel;obtain⟨wa,rfl⟩:=wE wr;by_cases hlt:k<n
  ·obtain⟨x,hx⟩:∃x,l[k]'(by omega)=x:=⟨_,rfl⟩;obtain⟨b,off,u,rfl,_,hu,hc⟩:=(HRD.out.below HB.out).at1 hlt;obtain rfl:u=Sv x:=by
    rw[List.getElem?_map,gE (by omega),hx]at hu;simpa using hu.symm
   have HXS:=aH (HS.out x (by rw[←hx];exact List.getElem_mem _));have HO2:=aH (show pN (l.map SL)=if dU (SL x)=0 then pN ((l.drop (k+1)).map SL)else dU (SL x) by
    rw[HO.out,List.drop_eq_getElem_cons (by omega),hx];rfl)
   have HL:=aH hl;clear hu hx HO hl;go_wp2_with fail;refine(wX x wa HXS.out (aO HTB.out HB.out)).mono ?_;rintro e w1 ⟨rfl,hb⟩;have HB1:=aH (HB.out.trans (hb.mono HB.out.size));clear hb HB hc;by_cases h0:dU (SL x)=0
   ·have HO3:=aH (show pN (l.map SL)=pN ((l.drop (k+1)).map SL) by rw[HO2.out,if_pos h0]);rw[h0];clear h0 HO2;go_wp2;go_roundg (n-(k+1));case measure=>omega
    case rel=>exact⟨k+1,rfl,by go_num,by omega,HB1,HO3⟩
   ·have HO3:=aH (show pN (l.map SL)=dU (SL x) by rw[HO2.out,if_neg h0]);have tc:(dU (SL x) !=0)=true:=bne_iff_ne.2 h0;generalize dU (SL x)=R at*;clear h0 HO2;go_wp2;go_ret;exact⟨aE HO3.out.symm,HB1.out⟩
  ·have HF:=aH (show pN (l.map SL)=0 by
    rw[HO.out,List.drop_of_length_le (by omega)];rfl)
   clear HO;go_wp2;go_ret;exact⟨aE HF.out.symm,HB.out⟩
end
section
def sm:Nat→(Nat→Rat)→Rat
 |0,_=>0
 |n+1,f=>sm n f+f n
theorem bF{f g:Nat→Rat}:∀(n:Nat),(∀i,i<n→f i=g i)→sm n f=sm n g
 |0,_=>rfl
 |n+1,h=>by rw[sm,sm,bF n fun i hi=>h i (by omega),h n (by omega)]
theorem fQ{f:Nat→Rat}:∀(n:Nat),(∀i,i<n→f i=0)→sm n f=0
 |0,_=>rfl
 |n+1,h=>by rw[sm,fQ n fun i hi=>h i (by omega),h n (by omega)];grind
theorem aCe(a b:Rat)(f g:Nat→Rat):∀(n:Nat),sm n (fun i=>a*f i+b*g i)=a*sm n f+b*sm n g
 |0=>by simp only[sm];grind
 |n+1=>by rw[sm,sm,sm,aCe a b f g n];grind
theorem kJ(a:Rat)(f:Nat→Rat):∀(n:Nat),sm n (fun i=>a*f i)=a*sm n f
 |0=>by simp only[sm];grind
 |n+1=>by rw[sm,sm,kJ a f n];grind
theorem sL(f g:Nat→Rat):∀(n:Nat),sm n (fun i=>f i+g i)=sm n f+sm n g
 |0=>by simp only[sm];grind
 |n+1=>by rw[sm,sm,sm,sL f g n];grind
theorem lZ{f:Nat→Rat}(k:Nat):∀(n:Nat),k<n→(∀i,i<n→i≠k→f i=0)→sm n f=f k
 |0,h,_=>absurd h (by omega)
 |n+1,h,hz=>by
  rw[sm];by_cases e:n=k
  ·rw[fQ n fun i hi=>hz i (by omega) (by omega),e];grind
  ·rw[lZ k n (by omega) fun i hi hk=>hz i (by omega) hk,hz n (by omega) e];grind
theorem aCf{f:Nat→Rat}(k l:Nat)(hkl:k<l):∀(n:Nat),l<n→(∀i,i<n→i≠k→i≠l→f i=0)→sm n f=f k+f l
 |0,h,_=>absurd h (by omega)
 |n+1,h,hz=>by
  rw[sm];by_cases e:n=l
  ·rw[lZ k n (by omega) fun i hi hk=>hz i (by omega) hk (by omega),e]
  ·rw[aCf k l hkl n (by omega) fun i hi hk hl=>hz i (by omega) hk hl,hz n (by omega) (by omega) e];grind
theorem aCg(f:Nat→Rat):∀(n:Nat),sm (n+1) f=f 0+sm n (fun i=>f (i+1))
 |0=>by simp only[sm];grind
 |n+1=>by rw[sm,aCg f n,sm];grind
theorem uK(f:Nat→Nat→Rat)(n:Nat):∀(m:Nat),sm m (fun i=>sm n (fun j=>f i j))=sm n (fun j=>sm m (fun i=>f i j))
 |0=>by rw[sm,fQ n];intro i _;rfl
 |m+1=>by rw[sm,uK f n m,←sL];exact bF n fun j _=>rfl
def sk(i r:Nat):Nat:=if r<i then r else r+1
def sg(i:Nat):Rat:=if i%2=0 then 1 else-1
def det:Nat→(Nat→Nat→Rat)→Rat
 |0,_=>1
 |n+1,A=>sm (n+1) fun i=>sg i*A i 0*det n (fun r c=>A (sk i r) (c+1))
theorem dK{A B:Nat→Nat→Rat}:∀(n:Nat),(∀i j,i<n→j<n→A i j=B i j)→det n A=det n B:=by
 intro n;induction n generalizing A B with
 |zero=>intro _;rfl
 |succ n ih=>
  intro h;rw[det,det];refine bF _ fun i hi=>?_;rw[h i 0 hi (by omega),ih fun r c hr hc=>h _ _ (by unfold sk;split<;>omega) (by omega)]
def upd(A:Nat→Nat→Rat)(k:Nat)(u:Nat→Rat):Nat→Nat→Rat:=fun r=>if r=k then u else A r
theorem bC(A:Nat→Nat→Rat)(k:Nat)(u:Nat→Rat):upd A k u k=u:=if_pos rfl
theorem cN(A:Nat→Nat→Rat){k r:Nat}(u:Nat→Rat)(h:r≠k):upd A k u r=A r:=if_neg h
theorem eS(A:Nat→Nat→Rat)(k:Nat):upd A k (A k)=A:=by
 funext r;unfold upd;split
 ·rename_i h;rw[h]
 ·rfl
theorem fN(A:Nat→Nat→Rat){k l:Nat}(h:k≠l)(u v:Nat→Rat):upd (upd A k u) l v=upd (upd A l v) k u:=by
 funext r;unfold upd;split
 ·rename_i h1;rw[if_neg (by omega)]
 ·rfl
theorem pS(A:Nat→Nat→Rat)(k:Nat)(u:Nat→Rat):(fun r c=>upd A k u (sk k r) (c+1))=fun r c=>A (sk k r) (c+1):=by
 funext r c;rw[cN A u (by unfold sk;split<;>omega)]
theorem xA(A:Nat→Nat→Rat){i k:Nat}(u:Nat→Rat)(h:i≠k): (fun r c=>upd A k u (sk i r) (c+1))=upd (fun r c=>A (sk i r) (c+1)) (if k<i then k else k-1) (fun c=>u (c+1)):=by
 funext r c;by_cases e:r=if k<i then k else k-1
 ·have e2:sk i r=k:=by
   rw[e];unfold sk;by_cases hk:k<i
   ·rw[if_pos hk,if_pos hk]
   ·rw[if_neg hk,if_neg (by omega)];omega
  rw[e2,bC,e,bC]
 ·have e2:sk i r≠k:=by
   intro hc;apply e;unfold sk at hc;split at hc
   ·rw[if_pos (by omega)];exact hc
   ·rw[if_neg (by omega)];omega
  rw[cN _ _ e2,cN _ _ e]
theorem mA(a b:Rat)(u v:Nat→Rat):∀(n:Nat) (A:Nat→Nat→Rat) (k:Nat),k<n→ det n (upd A k (fun j=>a*u j+b*v j))=a*det n (upd A k u)+b*det n (upd A k v):=by
 intro n;induction n generalizing u v with
 |zero=>intro A k h;omega
 |succ n ih=>
  intro A k hk;rw[det,det,det,←aCe];refine bF _ fun i hi=>?_;by_cases e:i=k
  ·subst e;rw[pS,pS,pS,bC,bC,bC];grind
  ·rw[xA _ _ e,xA _ _ e,xA _ _ e,cN _ _ e,cN _ _ e,cN _ _ e];rw[ih (fun c=>u (c+1)) (fun c=>v (c+1)) _ _ (by split<;>omega)];grind
theorem aEy(a:Rat)(n:Nat)(A:Nat→Nat→Rat)(k:Nat)(hk:k<n)(u:Nat→Rat):det n (upd A k (fun j=>a*u j))=a*det n (upd A k u):=by
 have h:=mA a 0 u u n A k hk;rw[show(fun j=>a*u j+0*u j)=fun j=>a*u j by funext j;grind]at h;rw[h];grind
theorem aJw:∀(n:Nat) (A:Nat→Nat→Rat) (k:Nat),k+1<n→(∀j,A k j=A (k+1) j)→det n A=0:=by
 intro n;induction n with
 |zero=>intro A k h;omega
 |succ n ih=>
  intro A k hk h;rw[det,aCf k (k+1) (by omega) (n+1) hk]
  ·have e:(fun r c=>A (sk k r) (c+1))=fun r c=>A (sk (k+1) r) (c+1):=by
    funext r c;unfold sk;by_cases h1:r<k
    ·rw[if_pos h1,if_pos (by omega)]
    ·by_cases h2:r=k
     ·rw[if_neg h1,if_pos (by omega),h2,h]
     ·rw[if_neg h1,if_neg (by omega)]
   have es:sg (k+1)=-sg k:=by
    unfold sg;rcases Nat.mod_two_eq_zero_or_one k with h1|h1
    ·have h2:¬(k+1)%2=0:=by omega
     rw[if_pos h1,if_neg h2]
    ·have h2:(k+1)%2=0:=by omega
     have h3:¬k%2=0:=by omega
     rw[if_neg h3,if_pos h2];grind
   rw[e,es,h 0];grind
  ·intro i hi h1 h2;rw[ih (fun r c=>A (sk i r) (c+1)) (if k<i then k else k-1) (by split<;>omega)]
   ·grind
   ·intro j;unfold sk;by_cases hk:k<i
    ·rw[if_pos hk,if_pos hk,if_pos (by omega),h]
    ·rw[if_neg hk,if_neg (by omega),if_neg (by omega)];rw[show k-1+1=k by omega,h]
theorem aCh(n:Nat)(A:Nat→Nat→Rat)(k:Nat)(hk:k+1<n):det n (upd (upd A k (A (k+1))) (k+1) (A k))=-det n A:=by
 have hz:∀u:Nat→Rat,det n (upd (upd A k u) (k+1) u)=0:=fun u=>aJw n _ k hk fun j=>by
  rw[bC,cN _ _ (by omega),bC]
 have h1:=hz (fun j=>1*A k j+1*A (k+1) j);rw[mA 1 1 _ _ n _ _ hk,fN A (by omega) _ (A k),fN A (by omega) _ (A (k+1)),mA 1 1 _ _ n _ _ (by omega),mA 1 1 _ _ n _ _ (by omega)]at h1;rw[fN A (by omega) (A k) (A k)|>.symm,fN A (k:=k) (by omega) (A (k+1)) (A (k+1))|>.symm,hz,hz]at h1;have e1:upd (upd A (k+1) (A (k+1))) k (A k)=A:=by rw[eS,eS]
 rw[e1]at h1;rw[fN A (by omega)];grind
theorem aSa(n:Nat):∀(d:Nat) (A:Nat→Nat→Rat) (i:Nat),i+d+1<n→(∀j,A i j=A (i+d+1) j)→det n A=0:=by
 intro d;induction d with
 |zero=>intro A i h he;exact aJw n A i h he
 |succ d ih=>
  intro A i h he;have h1:=aCh n A (i+d+1) (by omega);have h2:det n (upd (upd A (i+d+1) (A (i+d+1+1))) (i+d+1+1) (A (i+d+1)))=0:=ih _ i (by omega) fun j=>by
   rw[cN _ _ (by omega),cN _ _ (by omega),cN _ _ (by omega),bC];exact he j
  rw[h2]at h1;grind
theorem nN{n:Nat}{A:Nat→Nat→Rat}{i k:Nat}(hi:i<n)(hk:k<n)(hne:i≠k)(h:∀j,A i j=A k j):det n A=0:=by
 rcases Nat.lt_or_gt_of_ne hne with h1|h1
 ·exact aSa n (k-i-1) A i (by omega) fun j=>by rw[h,show i+(k-i-1)+1=k by omega]
 ·exact aSa n (i-k-1) A k (by omega) fun j=>by rw[←h,show k+(i-k-1)+1=i by omega]
theorem mB{n:Nat}{A:Nat→Nat→Rat}{i:Nat}(hi:i<n)(h:∀j,A i j=0):det n A=0:=by
 have e:=aEy 0 n A i hi (A i);rw[show(fun j=>0*A i j)=A i by funext j;rw[h];grind,eS]at e;rw[e];grind
def pd:Nat→(Nat→Rat)→Rat
 |0,_=>1
 |n+1,f=>f 0*pd n (fun i=>f (i+1))
theorem aWm:∀(n:Nat) (A:Nat→Nat→Rat),(∀i j,i<n→j<i→A i j=0)→det n A=pd n fun i=>A i i:=by
 intro n;induction n with
 |zero=>intro A _;rfl
 |succ n ih=>
  intro A h;rw[det,lZ 0 (n+1) (by omega),pd]
  ·rw[ih (fun r c=>A (sk 0 r) (c+1))]
   ·have e:∀r,sk 0 r=r+1:=fun r=>by unfold sk;rw[if_neg (by omega)]
    simp only[e];unfold sg;rw[if_pos rfl];grind
   ·intro i j hi hj;unfold sk;rw[if_neg (by omega)];exact h _ _ (by omega) (by omega)
  ·intro i hi h0;rw[h i 0 hi (by omega)];grind
theorem aSb{f:Nat→Rat}:∀(n:Nat),(∀i,i<n→f i=1)→pd n f=1
 |0,_=>rfl
 |n+1,h=>by rw[pd,h 0 (by omega),aSb n fun i hi=>h _ (by omega)];grind
theorem aJx(f:Nat→Rat):∀(n:Nat),pd (n+1) f=pd n f*f n
 |0=>by simp only[pd];grind
 |n+1=>by rw[pd,aJx (fun i=>f (i+1)) n,pd];grind
theorem aHo(n:Nat):det n (fun i j=>if i=j then 1 else 0)=1:=by
 rw[aWm n _ fun i j _ hj=>if_neg (by omega)];exact aSb n fun i _=>if_pos rfl
end
section
open Go.Lib
abbrev MT:=List (List (List UInt8))
abbrev MQ:=List (List Rat)
def jV(l:List (List UInt8)):Int:=if 40<l.length then 2 else pN l
def qZ(n:Nat):MT→Int
 |[]=>0
 |r::m=>if r.length≠n then 3 else if jV r≠0 then jV r else qZ n m
def wd:MT→Nat
 |[]=>0
 |r::_=>r.length
def dC(m:MT):Int:=if 40<m.length then 2 else qZ (wd m) m
def kD(l:List (List UInt8)):List Rat:=l.map fM
def bZ(m:MT):MQ:=m.map kD
def txV(l:List Rat):List (List UInt8)×Int:=if l.all bK=true then(l.map aQ,0)else([],2)
def txM(m:MQ):MT×Int:=if m.all (fun r=>r.all bK)=true then(m.map fun r=>r.map aQ,0)else([],2)
def xB(a b:List Rat):Rat:=sm a.length fun i=>a.getD i 0*b.getD i 0
def trQ(m:MQ)(k:Nat):MQ:=(List.range k).map fun j=>m.map fun r=>r.getD j 0
def aEz(a b:MQ)(k:Nat):MQ:=a.map fun r=>(trQ b k).map fun c=>xB r c
def bBj(a b:MQ):MQ:=List.zipWith (fun r s=>List.zipWith (·+ ·) r s) a b
def idQ(n:Nat):MQ:=(List.range n).map fun i=>(List.range n).map fun j=>if i=j then 1 else 0
def scQ(a:MQ)(f:Rat):MQ:=a.map fun r=>r.map fun x=>x*f
def yI(a b:Int)(r:MT×Int):MT×Int:=if a≠0 then([],a)else if b≠0 then([],b)else r
def rA(a b:MT):MT×Int:=yI (dC a) (dC b) (if a.length≠b.length∨wd a≠wd b then([],3)else txM (bBj (bZ a) (bZ b)))
def scM(a:MT)(r:List UInt8):MT×Int:=yI (dC a) (dU r) (txM (scQ (bZ a) (fM r)))
theorem aWn(z:Int):(itoa z).length≤(decDigits z.natAbs).length+1:=by
 unfold itoa;split
 ·rw[List.length_cons];exact Nat.le_refl _
 ·rw[show z.toNat=z.natAbs by omega];exact Nat.le_succ _
theorem aFa{q:Rat}(h:bK q=true):(aQ q).length≤4002:=by
 rw[bK,Bool.and_eq_true,kY,kY,decide_eq_true_iff,decide_eq_true_iff]at h;have:=aWn q.num;unfold aQ;split
 ·omega
 ·rw[List.length_append,List.length_cons];omega
structure Rect{α:Type}(m:List (List α))(n k:Nat):Prop where
 len:m.length=n
 row:∀r∈m,r.length=k
theorem Rect.map{α β:Type}{m:List (List α)}{n k:Nat}(h:Rect m n k)(f:α→β):Rect (m.map fun r=>r.map f) n k:=⟨by rw[List.length_map,h.len],fun r hr=>by
  obtain⟨s,hs,rfl⟩:=List.mem_map.1 hr;rw[List.length_map,h.row s hs]⟩
def at2(m:MQ)(i j:Nat):Rat:=(m.getD i []).getD j 0
theorem Rect.rowlen{α:Type}{m:List (List α)}{n k:Nat}(h:Rect m n k){i:Nat}(hi:i<n):(m.getD i []).length=k:=by
 have hl:i<m.length:=by rw[h.len];exact hi
 rw[gD,gE hl];exact h.row _ (List.getElem_mem hl)
theorem aWo{a b:MQ}{n k:Nat}(ha:Rect a n k)(hb:Rect b n k)(h:∀i j,i<n→j<k→at2 a i j=at2 b i j):a=b:=by
 apply List.ext_getElem
 ·rw[ha.len,hb.len]
 ·intro i h1 h2;have hi:i<n:=by rw[←ha.len];exact h1
  apply List.ext_getElem
  ·rw[ha.row _ (List.getElem_mem h1),hb.row _ (List.getElem_mem h2)]
  ·intro j k1 k2;have hj:j<k:=by rw[←ha.row _ (List.getElem_mem h1)];exact k1
   have:=h i j hi hj;unfold at2 at this;simp only[gD,gE h1,gE h2,Option.getD_some,gE k1,gE k2]at this;exact this
theorem jP{α:Type}(k:Nat)(f:Nat→α){j:Nat}(hj:j<k)(d:α):((List.range k).map f).getD j d=f j:=by
 rw[gD,List.getElem?_map,List.getElem?_range hj];rfl
theorem aSc{a:MQ}(b:MQ){n k:Nat}(h:a.length=n):Rect (aEz a b k) n k:=⟨by rw[aEz,List.length_map,h],fun r hr=>by
  obtain⟨s,_,rfl⟩:=List.mem_map.1 hr;simp[trQ]⟩
theorem aJy{a b:MQ}{n l k:Nat}(ha:Rect a n l){i j:Nat}(hi:i<n)(hj:j<k):at2 (aEz a b k) i j=sm l fun t=>at2 a i t*at2 b t j:=by
 have hl:i<a.length:=by rw[ha.len];exact hi
 have e1:at2 (aEz a b k) i j=xB (a.getD i []) (b.map fun r=>r.getD j 0):=by
  unfold at2 aEz;rw[gD,gD,List.getElem?_map,gE hl,Option.map_some,Option.getD_some,List.getElem?_map];have:(trQ b k)[j]?=some (b.map fun r=>r.getD j 0):=by unfold trQ;rw[List.getElem?_map,List.getElem?_range hj];rfl
  rw[this,gD,gE hl];rfl
 rw[e1,xB,ha.rowlen hi];refine bF _ fun t _=>?_;unfold at2;congr 1;rw[gD,List.getElem?_map,gD (l:=b)];cases b[t]?<;>rfl
theorem aWp(n:Nat):Rect (idQ n) n n:=⟨by simp[idQ],fun r hr=>by
 obtain⟨j,_,rfl⟩:=List.mem_map.1 hr;simp⟩
theorem aHp{n i j:Nat}(hi:i<n)(hj:j<n):at2 (idQ n) i j=if i=j then 1 else 0:=by
 unfold at2 idQ;rw[jP n _ hi,jP n _ hj]
theorem aWq{l:List (List UInt8)}(h:jV l=0):l.length≤40∧∀s∈l,dU s=0:=by
 unfold jV at h;split at h
 ·cases h
 ·refine⟨by omega,?_⟩;rename_i hl;clear hl;induction l with
  |nil=>intro s hs;cases hs
  |cons x l ih=>
   simp only[pN]at h;intro s hs;split at h
   ·rename_i h0;rcases List.mem_cons.1 hs with rfl|hs
    ·exact h0
    ·exact ih h s hs
   ·rename_i h0;exact absurd h h0
theorem aSd{l:List (List UInt8)}(h:∀s∈l,dU s=0):pN l=0:=by
 induction l with
 |nil=>rfl
 |cons x l ih=>rw[pN,if_pos (h x List.mem_cons_self),ih fun s hs=>h s (List.mem_cons_of_mem _ hs)]
theorem aSe{l:List (List UInt8)}(hl:l.length≤40)(h:∀s∈l,dU s=0):jV l=0:=by rw[jV,if_neg (by omega),aSd h]
structure VM(m:MT)(n k:Nat):Prop where
 rect:Rect m n k
 hn:n≤40
 hk:k≤40∨n=0
 ok:∀r∈m,∀s∈r,dU s=0
theorem aJz{n:Nat}:∀{m:MT},qZ n m=0→∀r∈m,r.length=n∧r.length≤40∧∀s∈r,dU s=0
 |[],_,r,hr=>by cases hr
 |x::m,h,r,hr=>by
  rw[qZ]at h;split at h
  ·cases h
  ·split at h
   ·rename_i h1;exact absurd h h1
   ·rename_i h0 h1;rcases List.mem_cons.1 hr with rfl|hr
    ·obtain⟨k1,k2⟩:=aWq (Decidable.not_not.1 h1);exact⟨Decidable.not_not.1 h0,k1,k2⟩
    ·exact aJz h r hr
theorem aCi{m:MT}(h:dC m=0):VM m m.length (wd m):=by
 unfold dC at h;split at h
 ·cases h
 ·rename_i hl;have hr:=aJz h;refine⟨⟨rfl,fun r k=>(hr r k).1⟩,by omega,?_,fun r k=>(hr r k).2.2⟩;cases m with
  |nil=>exact .inr rfl
  |cons x m=>exact .inl (hr x List.mem_cons_self).2.1
theorem VM.vals{m:MT}{n k:Nat}(h:VM m n k):Rect (bZ m) n k:=h.rect.map fM
theorem aKa{m:MQ}(h:m.all (fun r=>r.all bK)=true):txM m=(m.map fun r=>r.map aQ,0):=if_pos h
theorem aSf{m:MT}(h:m.length=0):wd m=0:=by rw[List.eq_nil_of_length_eq_zero h];rfl
end
section
open Go.RowKit
def SS(w:World)(u:Value)(l:List ByteArray):Prop:=∃A c,u= .slice A l.length c∧Reads w w.heap.size 1 A l.length (l.map Sv)
theorem SS.below{w w':World}{u:Value}{l:List ByteArray}(h:SS w u l)(hb:Below w.heap.size w w'):SS w' u l:=by
 obtain⟨A,c,e,h1⟩:=h;exact⟨A,c,e,(h1.below hb).more hb.size⟩
def SMat(w:World)(A:Option Addr)(n:Nat)(m:List (List ByteArray)):Prop:=∃vs,Reads w w.heap.size 1 A n vs∧m.length=n∧∀(i:Nat) (u:Value) (l:List ByteArray),vs[i]?=some u→m[i]?=some l→SS w u l
theorem SMat.below{w w':World}{A:Option Addr}{n:Nat}{m:List (List ByteArray)}(h:SMat w A n m)(hb:Below w.heap.size w w'):SMat w' A n m:=by
 obtain⟨vs,h1,h2,h3⟩:=h;exact⟨vs,(h1.below hb).more hb.size,h2,fun i u l a b=>(h3 i u l a b).below hb⟩
theorem SMat.at_{w:World}{A:Option Addr}{n:Nat}{m:List (List ByteArray)}(h:SMat w A n m){k:Nat}(hk:k<n)(l:List ByteArray)(hl:m[k]?=some l): ∃b off B c,A=some ⟨b,off,none⟩∧w.cell? ⟨b,off+k,none⟩=some (.slice B l.length c)∧Reads w w.heap.size 1 B l.length (l.map Sv):=by
 obtain⟨vs,h1,h2,h3⟩:=h;obtain⟨b,off,u,e,_,hu,hc⟩:=h1.at1 hk;obtain⟨B,c,rfl,hr⟩:=h3 k u l hu hl;exact⟨b,off,B,c,e,hc,hr⟩
def tx1(l:List ByteArray):List (List UInt8):=l.map SL
def tx2(m:List (List ByteArray)):MT:=m.map tx1
def Sh1(l:List ByteArray):Prop:=∀s∈l,s.size≤9223372036854775807
def Sh2(m:List (List ByteArray)):Prop:=∀l∈m,Sh1 l
theorem aXy(m:List (List ByteArray)):wd (tx2 m)=(m.head?.getD []).length:=by
 cases m with
 |nil=>rfl
 |cons l m=>simp[tx2,tx1,wd]
theorem aFb{α:Type}(m:List α)(x:α)(d:α)(h:m[0]?=some x):m.head?.getD d=x:=by
 cases m with
 |nil=>cases h
 |cons y m=>simpa using h
theorem aSg(l:List ByteArray)(n:Nat)(A:Option Addr)(c:Nat)(w:World)(hr:Reads w w.heap.size 1 A n (l.map Sv))(hs:Sh1 l)(htab:Tab w): Calls Tryz.prog 93 #[.slice A n c] w fun e w'=>e= .returned (I (jV (tx1 l)))∧Below w.heap.size w w':=by
 have hl:l.length=n:=by have:=hr.1;simpa using this
 by_cases h40:40<n
 ·have t:decide (40<(n:Int))=true:=decide_eq_true (by omega);have HF:=aH (show jV (tx1 l)=2 by rw[jV,if_pos (by rw[tx1,List.length_map];omega)]);clear h40;go_enter Tryz.func93,Tryz.ntmps93;go_wp2;go_ret;exact⟨aE HF.out.symm,Below.refl _ _⟩
 ·have t:decide (40<(n:Int))=false:=decide_eq_false (by omega);have HF:=aH (show jV (tx1 l)=pN (l.map SL) by rw[jV,if_neg (by rw[tx1,List.length_map];omega)];rfl);have HA:=aH (aRz l n A c w hr (by omega) hs htab);clear h40 hr htab hl;go_enter Tryz.func93,Tryz.ntmps93;go_wp2_with fail;refine HA.out.mono ?_;rintro e w1 ⟨rfl,hb⟩;have HB:=aH hb;clear hb HA;go_wp2;go_ret;exact⟨aE HF.out.symm,HB.out⟩
theorem lC(m:List (List ByteArray))(n:Nat)(A:Option Addr)(c:Nat)(w:World)(hm:SMat w A n m)(hs:Sh2 m)(htab:Tab w): Calls Tryz.prog 102 #[.slice A n c] w fun e w'=>e= .returned (I (dC (tx2 m)))∧Below w.heap.size w w':=by
 have hl:m.length=n:=by obtain⟨_,_,h,_⟩:=hm;exact h
 by_cases h40:40<n
 ·have t:decide (40<(n:Int))=true:=decide_eq_true (by omega);have HF:=aH (show dC (tx2 m)=2 by rw[dC,if_pos (by rw[tx2,List.length_map];omega)]);clear h40;go_enter Tryz.func102,Tryz.ntmps102;go_wp2;go_ret;exact⟨aE HF.out.symm,Below.refl _ _⟩
 ·have t:decide (40<(n:Int))=false:=decide_eq_false (by omega);have HF:=aH (show dC (tx2 m)=qZ (wd (tx2 m)) ((m.drop 0).map tx1) by rw[dC,if_neg (by rw[tx2,List.length_map];omega)];rfl);have HTB:=aH htab;have HS:=aH hs;have HM:=aH hm;have HL:=aH hl;have h41:n≤40:=by omega
  clear htab hs hm h40;go_enter Tryz.func102,Tryz.ntmps102;go_wp2;go_loopg [11] (n-0) (fun r v wr=>∃k:Nat,r=n-k∧v=I k∧k≤n∧Hid (Below w.heap.size w wr)∧Hid (dC (tx2 m)=qZ (wd (tx2 m)) ((m.drop k).map tx1)));case atStart=>exact⟨0,rfl,rfl,by omega,Below.refl _ _,HF⟩
  case round=>
   clear HF;obtain⟨k,rfl,rfl,hk,HB,HO⟩:=hrel;obtain⟨wa,rfl⟩:=wE wr;by_cases hlt:k<n
   ·obtain⟨x,hx⟩:∃x,m[k]?=some x:=⟨_,gE (by omega)⟩;obtain⟨x0,hx0⟩:∃x,m[0]?=some x:=⟨_,gE (by omega)⟩;have hm':=HM.out.below HB.out;obtain⟨b,off,B,d,rfl,hc,hr⟩:=hm'.at_ hlt x hx;obtain⟨b',off',B0,d0,e,hc0,hr0⟩:=hm'.at_ (show 0<n by omega) x0 hx0;injection e with e;injection e with e1 e2;subst e1 e2;rw[Nat.add_zero]at hc0;have HR:=aH hr;have HXS:=aH (HS.out x (List.mem_of_getElem? hx));have hdr:(m.drop k).map tx1=tx1 x::(m.drop (k+1)).map tx1:=by
     obtain⟨h1,h2⟩:=List.getElem?_eq_some_iff.1 hx;rw[List.drop_eq_getElem_cons h1,h2,List.map_cons]
    have hw:wd (tx2 m)=x0.length:=by rw[aXy,aFb m x0 _ hx0]
    have HO2:=aH (show dC (tx2 m)=if x.length≠x0.length then 3 else if jV (tx1 x)≠0 then jV (tx1 x)else qZ (wd (tx2 m)) ((m.drop (k+1)).map tx1) by
     rw[HO.out,hdr,hw,qZ,tx1,List.length_map])
    clear hm' hr hr0 hx hx0 hdr hw hl HO;by_cases hne:x.length=x0.length
    ·have tn:((x.length:Int) !=(x0.length:Int))=false:=by rw[hne];simp
     have HO3:=aH (show dC (tx2 m)=if jV (tx1 x)≠0 then jV (tx1 x)else qZ (wd (tx2 m)) ((m.drop (k+1)).map tx1) by rw[HO2.out,if_neg (by omega)]);have HC:=aH (aSg x x.length B d wa HR.out HXS.out (aO HTB.out HB.out));clear HO2 hne;go_wp2_with fail;refine HC.out.mono ?_;rintro e w1 ⟨rfl,hb⟩;have HB1:=aH (HB.out.trans (hb.mono HB.out.size));clear hb HB HC hc hc0;by_cases h0:jV (tx1 x)=0
     ·have HO4:=aH (show dC (tx2 m)=qZ (wd (tx2 m)) ((m.drop (k+1)).map tx1) by rw[HO3.out,if_neg (by omega)]);rw[h0];clear h0 HO3;go_wp2;go_roundg (n-(k+1));case measure=>omega
      case rel=>exact⟨k+1,rfl,by go_num,by omega,HB1,HO4⟩
     ·have HO4:=aH (show dC (tx2 m)=jV (tx1 x) by rw[HO3.out,if_pos h0]);have tc:(jV (tx1 x) !=0)=true:=bne_iff_ne.2 h0;generalize jV (tx1 x)=R at*;clear h0 HO3;go_wp2;go_ret;exact⟨aE HO4.out.symm,HB1.out⟩
    ·have tn:((x.length:Int) !=(x0.length:Int))=true:=bne_iff_ne.2 (by omega);have HO3:=aH (show dC (tx2 m)=3 by rw[HO2.out,if_pos hne]);clear HO2 hne;go_wp2;go_ret;exact⟨aE HO3.out.symm,HB.out⟩
   ·have HF:=aH (show dC (tx2 m)=0 by
     rw[HO.out,List.drop_of_length_le (by omega)];rfl)
    clear HO;go_wp2;go_ret;exact⟨aE HF.out.symm,HB.out⟩
def cP:List Int→Int
 |[]=>0
 |x::l=>if x≠0 then x else cP l
theorem oJ(l:List Int)(n:Nat)(A:Option Addr)(c:Nat)(w:World)(hr:Reads w w.heap.size 1 A n (l.map I))(hn:n≤1000000): Calls Tryz.prog 101 #[.slice A n c] w fun e w'=>e= .returned (I (cP l))∧w'=w:=by
 have hl:l.length=n:=by have:=hr.1;simpa using this
 have HRD:=aH hr;clear hr;go_enter Tryz.func101,Tryz.ntmps101;go_wp2;go_loopg [7] (n-0) (fun r v wr=>∃k:Nat,r=n-k∧v=I k∧k≤n∧wr=w∧Hid (cP l=cP (l.drop k)));case atStart=>exact⟨0,rfl,rfl,by omega,rfl,rfl⟩
 case round=>
  obtain⟨k,rfl,rfl,hk,rfl,HO⟩:=hrel;by_cases hlt:k<n
  ·obtain⟨x,hx⟩:∃x,l[k]'(by omega)=x:=⟨_,rfl⟩;obtain⟨b,off,u,rfl,_,hu,hc⟩:=HRD.out.at1 hlt;obtain rfl:u=I x:=by
    rw[List.getElem?_map,gE (by omega),hx]at hu;simpa using hu.symm
   have HO2:=aH (show cP l=if x≠0 then x else cP (l.drop (k+1)) by
    rw[HO.out,List.drop_eq_getElem_cons (by omega),hx];rfl)
   clear hu hx HO;by_cases h0:x=0
   ·have HO3:=aH (show cP l=cP (l.drop (k+1)) by rw[HO2.out,if_neg (by omega)]);subst h0;clear HO2;go_wp2;go_roundg (n-(k+1));case measure=>omega
    case rel=>exact⟨k+1,rfl,by go_num,by omega,rfl,HO3⟩
   ·have HO3:=aH (show cP l=x by rw[HO2.out,if_pos h0]);have tc:(x !=0)=true:=bne_iff_ne.2 h0;clear HO2;go_wp2;go_ret;exact⟨aE HO3.out.symm,rfl⟩
  ·have HF:=aH (show cP l=0 by rw[HO.out,List.drop_of_length_le (by omega)];rfl);clear HO;go_wp2;go_ret;exact⟨aE HF.out.symm,rfl⟩
theorem zV(m:List (List ByteArray))(n:Nat)(A:Option Addr)(c:Nat)(w:World)(hm:SMat w A n m): Calls Tryz.prog 103 #[.slice A n c] w fun e w'=>e= .returned (I (wd (tx2 m)))∧w'=w:=by
 have hl:m.length=n:=by obtain⟨_,_,h,_⟩:=hm;exact h
 by_cases h0:n=0
 ·have HW:=aH (show((wd (tx2 m):Nat):Int)=0 by rw[List.eq_nil_of_length_eq_zero (hl.trans h0)];rfl);subst h0;go_enter Tryz.func103,Tryz.ntmps103;go_wp2;go_ret;exact⟨aE HW.out.symm,rfl⟩
 ·obtain⟨x0,hx0⟩:∃x,m[0]?=some x:=⟨_,gE (by omega)⟩;obtain⟨b,off,B,d,rfl,hc,hr⟩:=hm.at_ (show 0<n by omega) x0 hx0;rw[Nat.add_zero]at hc;have HW:=aH (show wd (tx2 m)=x0.length by rw[aXy,aFb m x0 _ hx0]);have t:((n:Int)==0)=false:=beq_eq_false_iff_ne.2 (by omega);clear hr hx0;go_enter Tryz.func103,Tryz.ntmps103;go_wp2;go_ret;exact⟨aE (by rw[HW.out]),rfl⟩
end
end Go.Proofs.YtenbglfkdldheaaGreatDoor
