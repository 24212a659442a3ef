/- fine: are there no errors? rat.CheckAll. Determinants of matrices of rational numbers, given as functions of row and column: linear and alternating in the rows, triangular matrices. Plain facts. No program here. Package matrix in plain Lean: matrices of texts and of rational numbers, and the laws of the ring. No program here. The laws of package matrix that the keep's MatrixRing, MatrixTurns and MatrixUnits ask for, on the plain functions. No program here. matrix.CheckVec, Check, first, width; matrices of texts that are read. -/
import Derived.Test.YtenbglfkdldheaaGreatDoorYO
set_option maxRecDepth 100000
set_option maxHeartbeats 1000000
namespace Go.Proofs.YtenbglfkdldheaaGreatDoor
section
open Go.RowKit
def lZ(es:List Int):Bool:=es.all fun e=>e==0
theorem xY(w:World)(t:TypeId)(xs:List Value):Reads (w.alloc (.cells xs.toArray t)) (w.heap.size+1) 1 (some ⟨w.heap.size,0,none⟩) xs.length xs:=by
 refine⟨by simp,fun _=>⟨_,_,rfl,by omega,fun j u hu=>?_⟩⟩;rw[(Blk.new w t xs.toArray).cell];simpa using hu
theorem aTd(x:Int)(w:World):Calls Tryz.prog 86 #[I x] w fun e w'=>e= .returned (.bool (x !=0))∧w=w':=by
 go_enter Tryz.func86,Tryz.ntmps86;go_wp2;go_ret;exact⟨rfl,rfl⟩
theorem aOn(es:List Int)(n:Nat)(A:Option Addr)(c:Nat)(w:World)(B:Nat)(hr:Reads w B 1 A n (es.map I))(hn:n≤1000000): Calls Tryz.prog 141 #[.slice A n c,.func (.func 86) #[] #[]] w fun e w'=>(∃r,e= .returned (I r)∧decide (0≤r)= !lZ es)∧w=w':=by
 have hl:es.length=n:=by have:=hr.1;simpa using this
 go_enter Tryz.func141,Tryz.ntmps141;go_wp2;go_loopg [8] (n-0) (fun r v wr=>∃k:Nat,r=n-k∧v=I k∧k≤n∧w=wr∧Hid (lZ es=lZ (es.drop k)));case atStart=>exact⟨0,rfl,rfl,by omega,rfl,rfl⟩
 case round=>
  obtain⟨k,rfl,rfl,hk,rfl,HO⟩:=hrel;by_cases hlt:k<n
  ·obtain⟨b,off,u,rfl,_,hu,hc⟩:=hr.at1 hlt;obtain⟨x,hx⟩:∃x,es.getD k 0=x:=⟨_,rfl⟩;have hx2:es[k]'(by omega)=x:=by rw[←hx,gD,gE (by omega)];rfl
   obtain rfl:u=I x:=by
    rw[List.getElem?_map,gE (by omega),hx2]at hu;simpa using hu.symm
   have HO2:=aH (show lZ es=((x==0)&&lZ (es.drop (k+1))) by
    rw[HO.out,List.drop_eq_getElem_cons (by omega),hx2];rfl)
   have HL:=aH hl;clear hu hr hx hx2 HO hl;by_cases h0:x=0
   ·have tb:(x !=0)=false:=by rw[h0];rfl
    have HO3:=aH (show lZ es=lZ (es.drop (k+1)) by rw[HO2.out,h0];rfl);clear h0;go_wp2_with(go_at_call 86;refine(aTd x _).mono ?_;rintro e w' ⟨rfl,rfl⟩);go_roundg (n-(k+1));case measure=>omega
    case rel=>exact⟨k+1,rfl,by go_num,by omega,rfl,HO3⟩
   ·have tb:(x !=0)=true:=bne_iff_ne.2 h0;have HF:=aH (show decide (0≤(k:Int))= !lZ es by
     rw[HO2.out,beq_eq_false_iff_ne.2 h0,decide_eq_true (by omega)];rfl)
    clear h0;go_wp2_with(go_at_call 86;refine(aTd x _).mono ?_;rintro e w' ⟨rfl,rfl⟩);go_ret;exact⟨⟨_,rfl,HF.out⟩,rfl⟩
  ·have HF:=aH (show decide (0≤(-1:Int))= !lZ es by
    rw[HO.out,List.drop_of_length_le (by omega)];rfl)
   clear HO;go_wp2;go_ret;exact⟨⟨_,rfl,HF.out⟩,rfl⟩
theorem aFs(es:List Int)(n:Nat)(A:Option Addr)(c:Nat)(w:World)(B:Nat)(hr:Reads w B 1 A n (es.map I))(hn:n≤1000000): Calls Tryz.prog 32 #[.slice A n c] w fun e w'=>e= .returned (.bool (lZ es))∧w=w':=by
 have h41:∀w,Reads w B 1 A n (es.map I)→Calls Tryz.prog 85 #[.slice A n c,.func (.func 86) #[] #[]] w fun e w'=>e= .returned (.bool (!lZ es))∧w=w':=by
  intro w hr;have HX:=aH (aOn es n A c w B hr hn);clear hr;go_enter Tryz.func85,Tryz.ntmps85;go_wp2_with fail;refine HX.out.mono ?_;rintro e w1 ⟨⟨r,rfl,hr⟩,rfl⟩;have HR:=aH hr;clear hr HX;go_wp2;go_ret;exact⟨congrArg (fun b=>Ending.returned (.bool b)) HR.out,rfl⟩
 have H41:=aH (h41 w hr);clear h41 hr;go_enter Tryz.func32,Tryz.ntmps32;go_wp2_with fail;refine H41.out.mono ?_;rintro e w1 ⟨rfl,rfl⟩;go_wp2;go_ret;exact⟨by simp,rfl⟩
abbrev Sv(s:ByteArray):Value:= .string s
theorem xZ(l:List ByteArray)(n:Nat)(A:Option Addr)(c:Nat)(w:World)(hr:Reads w w.heap.size 1 A n (l.map Sv))(hn:n≤9223372036854775807)(hs:∀s∈l,s.size≤9223372036854775807)(htab:Tab w): Calls Tryz.prog 116 #[.slice A n c] w fun e w'=>e= .returned (I (gU (l.map SL)))∧Below w.heap.size w w':=by
 have hl:l.length=n:=by have:=hr.1;simpa using this
 have HTB:=aH htab;have HS:=aH hs;have HRD:=aH hr;clear htab hs hr;go_enter Tryz.func116,Tryz.ntmps116;go_wp2;go_loopg [8] (n-0) (fun r v wr=>∃k:Nat,r=n-k∧v=I k∧k≤n∧Hid (Below w.heap.size w wr)∧Hid (gU (l.map SL)=gU ((l.drop k).map SL)));case atStart=>exact⟨0,rfl,rfl,by omega,Below.refl _ _,rfl⟩
 case round=>
  obtain⟨k,rfl,rfl,hk,HB,HO⟩:=hrel;obtain⟨wa,rfl⟩:=wE wr;by_cases hlt:k<n
  ·obtain⟨x,hx⟩:∃x,l[k]'(by omega)=x:=⟨_,rfl⟩;obtain⟨b,off,u,rfl,_,hu,hc⟩:=(HRD.out.below HB.out).at1 hlt;obtain rfl:u=Sv x:=by
    rw[List.getElem?_map,gE (by omega),hx]at hu;simpa using hu.symm
   have HXS:=aH (HS.out x (by rw[←hx];exact List.getElem_mem _));have HO2:=aH (show gU (l.map SL)=if jI (SL x)=0 then gU ((l.drop (k+1)).map SL)else jI (SL x) by
    rw[HO.out,List.drop_eq_getElem_cons (by omega),hx];rfl)
   have HL:=aH hl;clear hu hx HO hl;go_wp2_with fail;refine(aSz x wa HXS.out (aR HTB.out HB.out)).mono ?_;rintro e w1 ⟨rfl,hb⟩;have HB1:=aH (HB.out.trans (hb.mono HB.out.size));clear hb HB hc;by_cases h0:jI (SL x)=0
   ·have HO3:=aH (show gU (l.map SL)=gU ((l.drop (k+1)).map SL) by rw[HO2.out,if_pos h0]);rw[h0];clear h0 HO2;go_wp2;go_roundg (n-(k+1));case measure=>omega
    case rel=>exact⟨k+1,rfl,by go_num,by omega,HB1,HO3⟩
   ·have HO3:=aH (show gU (l.map SL)=jI (SL x) by rw[HO2.out,if_neg h0]);have tc:(jI (SL x) !=0)=true:=bne_iff_ne.2 h0;generalize jI (SL x)=R at*;clear h0 HO2;go_wp2;go_ret;exact⟨aG HO3.out.symm,HB1.out⟩
  ·have HF:=aH (show gU (l.map SL)=0 by
    rw[HO.out,List.drop_of_length_le (by omega)];rfl)
   clear HO;go_wp2;go_ret;exact⟨aG HF.out.symm,HB.out⟩
end
section
def sm:Nat→(Nat→Rat)→Rat
 |0,_=>0
 |n+1,f=>sm n f+f n
theorem aT{f g:Nat→Rat}:∀(n:Nat),(∀i,i<n→f i=g i)→sm n f=sm n g
 |0,_=>rfl
 |n+1,h=>by rw[sm,sm,aT n fun i hi=>h i (by omega),h n (by omega)]
theorem fA{f:Nat→Rat}:∀(n:Nat),(∀i,i<n→f i=0)→sm n f=0
 |0,_=>rfl
 |n+1,h=>by rw[sm,fA n fun i hi=>h i (by omega),h n (by omega)];grind
theorem aCw(a b:Rat)(f g:Nat→Rat):∀(n:Nat),sm n (fun i=>a*f i+b*g i)=a*sm n f+b*sm n g
 |0=>by simp only[sm];grind
 |n+1=>by rw[sm,sm,sm,aCw a b f g n];grind
theorem kK(a:Rat)(f:Nat→Rat):∀(n:Nat),sm n (fun i=>a*f i)=a*sm n f
 |0=>by simp only[sm];grind
 |n+1=>by rw[sm,sm,kK a f n];grind
theorem rA(f g:Nat→Rat):∀(n:Nat),sm n (fun i=>f i+g i)=sm n f+sm n g
 |0=>by simp only[sm];grind
 |n+1=>by rw[sm,sm,sm,rA f g n];grind
theorem lF{f:Nat→Rat}(k:Nat):∀(n:Nat),k<n→(∀i,i<n→i≠k→f i=0)→sm n f=f k
 |0,h,_=>absurd h (by omega)
 |n+1,h,hz=>by
  rw[sm];by_cases e:n=k
  ·rw[fA n fun i hi=>hz i (by omega) (by omega),e];grind
  ·rw[lF k n (by omega) fun i hi hk=>hz i (by omega) hk,hz n (by omega) e];grind
theorem aCx{f:Nat→Rat}(k l:Nat)(hkl:k<l):∀(n:Nat),l<n→(∀i,i<n→i≠k→i≠l→f i=0)→sm n f=f k+f l
 |0,h,_=>absurd h (by omega)
 |n+1,h,hz=>by
  rw[sm];by_cases e:n=l
  ·rw[lF k n (by omega) fun i hi hk=>hz i (by omega) hk (by omega),e]
  ·rw[aCx k l hkl n (by omega) fun i hi hk hl=>hz i (by omega) hk hl,hz n (by omega) (by omega) e];grind
theorem aCy(f:Nat→Rat):∀(n:Nat),sm (n+1) f=f 0+sm n (fun i=>f (i+1))
 |0=>by simp only[sm];grind
 |n+1=>by rw[sm,aCy f n,sm];grind
theorem vT(f:Nat→Nat→Rat)(n:Nat):∀(m:Nat),sm m (fun i=>sm n (fun j=>f i j))=sm n (fun j=>sm m (fun i=>f i j))
 |0=>by rw[sm,fA n];intro i _;rfl
 |m+1=>by rw[sm,vT f n m,←rA];exact aT n fun j _=>rfl
def sk(i r:Nat):Nat:=if r<i then r else r+1
def sg(i:Nat):Rat:=if i%2=0 then 1 else-1
def det:Nat→(Nat→Nat→Rat)→Rat
 |0,_=>1
 |n+1,A=>sm (n+1) fun i=>sg i*A i 0*det n (fun r c=>A (sk i r) (c+1))
theorem dG{A B:Nat→Nat→Rat}:∀(n:Nat),(∀i j,i<n→j<n→A i j=B i j)→det n A=det n B:=by
 intro n;induction n generalizing A B with
 |zero=>intro _;rfl
 |succ n ih=>
  intro h;rw[det,det];refine aT _ fun i hi=>?_;rw[h i 0 hi (by omega),ih fun r c hr hc=>h _ _ (by unfold sk;split<;>omega) (by omega)]
def upd(A:Nat→Nat→Rat)(k:Nat)(u:Nat→Rat):Nat→Nat→Rat:=fun r=>if r=k then u else A r
theorem aY(A:Nat→Nat→Rat)(k:Nat)(u:Nat→Rat):upd A k u k=u:=if_pos rfl
theorem cP(A:Nat→Nat→Rat){k r:Nat}(u:Nat→Rat)(h:r≠k):upd A k u r=A r:=if_neg h
theorem fJ(A:Nat→Nat→Rat)(k:Nat):upd A k (A k)=A:=by
 funext r;unfold upd;split
 ·rename_i h;rw[h]
 ·rfl
theorem gC(A:Nat→Nat→Rat){k l:Nat}(h:k≠l)(u v:Nat→Rat):upd (upd A k u) l v=upd (upd A l v) k u:=by
 funext r;unfold upd;split
 ·rename_i h1;rw[if_neg (by omega)]
 ·rfl
theorem rB(A:Nat→Nat→Rat)(k:Nat)(u:Nat→Rat):(fun r c=>upd A k u (sk k r) (c+1))=fun r c=>A (sk k r) (c+1):=by
 funext r c;rw[cP A u (by unfold sk;split<;>omega)]
theorem yA(A:Nat→Nat→Rat){i k:Nat}(u:Nat→Rat)(h:i≠k): (fun r c=>upd A k u (sk i r) (c+1))=upd (fun r c=>A (sk i r) (c+1)) (if k<i then k else k-1) (fun c=>u (c+1)):=by
 funext r c;by_cases e:r=if k<i then k else k-1
 ·have e2:sk i r=k:=by
   rw[e];unfold sk;by_cases hk:k<i
   ·rw[if_pos hk,if_pos hk]
   ·rw[if_neg hk,if_neg (by omega)];omega
  rw[e2,aY,e,aY]
 ·have e2:sk i r≠k:=by
   intro hc;apply e;unfold sk at hc;split at hc
   ·rw[if_pos (by omega)];exact hc
   ·rw[if_neg (by omega)];omega
  rw[cP _ _ e2,cP _ _ e]
theorem mY(a b:Rat)(u v:Nat→Rat):∀(n:Nat) (A:Nat→Nat→Rat) (k:Nat),k<n→ det n (upd A k (fun j=>a*u j+b*v j))=a*det n (upd A k u)+b*det n (upd A k v):=by
 intro n;induction n generalizing u v with
 |zero=>intro A k h;omega
 |succ n ih=>
  intro A k hk;rw[det,det,det,←aCw];refine aT _ fun i hi=>?_;by_cases e:i=k
  ·subst e;rw[rB,rB,rB,aY,aY,aY];grind
  ·rw[yA _ _ e,yA _ _ e,yA _ _ e,cP _ _ e,cP _ _ e,cP _ _ e];rw[ih (fun c=>u (c+1)) (fun c=>v (c+1)) _ _ (by split<;>omega)];grind
theorem aFt(a:Rat)(n:Nat)(A:Nat→Nat→Rat)(k:Nat)(hk:k<n)(u:Nat→Rat):det n (upd A k (fun j=>a*u j))=a*det n (upd A k u):=by
 have h:=mY a 0 u u n A k hk;rw[show(fun j=>a*u j+0*u j)=fun j=>a*u j by funext j;grind]at h;rw[h];grind
theorem aLh:∀(n:Nat) (A:Nat→Nat→Rat) (k:Nat),k+1<n→(∀j,A k j=A (k+1) j)→det n A=0:=by
 intro n;induction n with
 |zero=>intro A k h;omega
 |succ n ih=>
  intro A k hk h;rw[det,aCx k (k+1) (by omega) (n+1) hk]
  ·have e:(fun r c=>A (sk k r) (c+1))=fun r c=>A (sk (k+1) r) (c+1):=by
    funext r c;unfold sk;by_cases h1:r<k
    ·rw[if_pos h1,if_pos (by omega)]
    ·by_cases h2:r=k
     ·rw[if_neg h1,if_pos (by omega),h2,h]
     ·rw[if_neg h1,if_neg (by omega)]
   have es:sg (k+1)=-sg k:=by
    unfold sg;rcases Nat.mod_two_eq_zero_or_one k with h1|h1
    ·have h2:¬(k+1)%2=0:=by omega
     rw[if_pos h1,if_neg h2]
    ·have h2:(k+1)%2=0:=by omega
     have h3:¬k%2=0:=by omega
     rw[if_neg h3,if_pos h2];grind
   rw[e,es,h 0];grind
  ·intro i hi h1 h2;rw[ih (fun r c=>A (sk i r) (c+1)) (if k<i then k else k-1) (by split<;>omega)]
   ·grind
   ·intro j;unfold sk;by_cases hk:k<i
    ·rw[if_pos hk,if_pos hk,if_pos (by omega),h]
    ·rw[if_neg hk,if_neg (by omega),if_neg (by omega)];rw[show k-1+1=k by omega,h]
theorem aCz(n:Nat)(A:Nat→Nat→Rat)(k:Nat)(hk:k+1<n):det n (upd (upd A k (A (k+1))) (k+1) (A k))=-det n A:=by
 have hz:∀u:Nat→Rat,det n (upd (upd A k u) (k+1) u)=0:=fun u=>aLh n _ k hk fun j=>by
  rw[aY,cP _ _ (by omega),aY]
 have h1:=hz (fun j=>1*A k j+1*A (k+1) j);rw[mY 1 1 _ _ n _ _ hk,gC A (by omega) _ (A k),gC A (by omega) _ (A (k+1)),mY 1 1 _ _ n _ _ (by omega),mY 1 1 _ _ n _ _ (by omega)]at h1;rw[gC A (by omega) (A k) (A k)|>.symm,gC A (k:=k) (by omega) (A (k+1)) (A (k+1))|>.symm,hz,hz]at h1;have e1:upd (upd A (k+1) (A (k+1))) k (A k)=A:=by rw[fJ,fJ]
 rw[e1]at h1;rw[gC A (by omega)];grind
theorem aTe(n:Nat):∀(d:Nat) (A:Nat→Nat→Rat) (i:Nat),i+d+1<n→(∀j,A i j=A (i+d+1) j)→det n A=0:=by
 intro d;induction d with
 |zero=>intro A i h he;exact aLh n A i h he
 |succ d ih=>
  intro A i h he;have h1:=aCz n A (i+d+1) (by omega);have h2:det n (upd (upd A (i+d+1) (A (i+d+1+1))) (i+d+1+1) (A (i+d+1)))=0:=ih _ i (by omega) fun j=>by
   rw[cP _ _ (by omega),cP _ _ (by omega),cP _ _ (by omega),aY];exact he j
  rw[h2]at h1;grind
theorem oN{n:Nat}{A:Nat→Nat→Rat}{i k:Nat}(hi:i<n)(hk:k<n)(hne:i≠k)(h:∀j,A i j=A k j):det n A=0:=by
 rcases Nat.lt_or_gt_of_ne hne with h1|h1
 ·exact aTe n (k-i-1) A i (by omega) fun j=>by rw[h,show i+(k-i-1)+1=k by omega]
 ·exact aTe n (i-k-1) A k (by omega) fun j=>by rw[←h,show k+(i-k-1)+1=i by omega]
theorem jO{n:Nat}{A:Nat→Nat→Rat}{i:Nat}(hi:i<n)(h:∀j,A i j=0):det n A=0:=by
 have e:=aFt 0 n A i hi (A i);rw[show(fun j=>0*A i j)=A i by funext j;rw[h];grind,fJ]at e;rw[e];grind
def pd:Nat→(Nat→Rat)→Rat
 |0,_=>1
 |n+1,f=>f 0*pd n (fun i=>f (i+1))
theorem aXg:∀(n:Nat) (A:Nat→Nat→Rat),(∀i j,i<n→j<i→A i j=0)→det n A=pd n fun i=>A i i:=by
 intro n;induction n with
 |zero=>intro A _;rfl
 |succ n ih=>
  intro A h;rw[det,lF 0 (n+1) (by omega),pd]
  ·rw[ih (fun r c=>A (sk 0 r) (c+1))]
   ·have e:∀r,sk 0 r=r+1:=fun r=>by unfold sk;rw[if_neg (by omega)]
    simp only[e];unfold sg;rw[if_pos rfl];grind
   ·intro i j hi hj;unfold sk;rw[if_neg (by omega)];exact h _ _ (by omega) (by omega)
  ·intro i hi h0;rw[h i 0 hi (by omega)];grind
theorem aTf{f:Nat→Rat}:∀(n:Nat),(∀i,i<n→f i=1)→pd n f=1
 |0,_=>rfl
 |n+1,h=>by rw[pd,h 0 (by omega),aTf n fun i hi=>h _ (by omega)];grind
theorem aLi(f:Nat→Rat):∀(n:Nat),pd (n+1) f=pd n f*f n
 |0=>by simp only[pd];grind
 |n+1=>by rw[pd,aLi (fun i=>f (i+1)) n,pd];grind
theorem aIt(n:Nat):det n (fun i j=>if i=j then 1 else 0)=1:=by
 rw[aXg n _ fun i j _ hj=>if_neg (by omega)];exact aTf n fun i _=>if_pos rfl
end
section
open Go.Lib
abbrev MT:=List (List (List UInt8))
abbrev MQ:=List (List Rat)
def wd:MT→Nat
 |[]=>0
 |r::_=>r.length
def txV(l:List Rat):List (List UInt8)×Int:=if l.all cG=true then(l.map bH,0)else([],2)
def mA(a b:List Rat):Rat:=sm a.length fun i=>a.getD i 0*b.getD i 0
def trQ(m:MQ)(k:Nat):MQ:=(List.range k).map fun j=>m.map fun r=>r.getD j 0
def aFu(a b:MQ)(k:Nat):MQ:=a.map fun r=>(trQ b k).map fun c=>mA r c
def idQ(n:Nat):MQ:=(List.range n).map fun i=>(List.range n).map fun j=>if i=j then 1 else 0
theorem aXh(z:Int):(itoa z).length≤(decDigits z.natAbs).length+1:=by
 unfold itoa;split
 ·rw[List.length_cons];exact Nat.le_refl _
 ·rw[show z.toNat=z.natAbs by omega];exact Nat.le_succ _
theorem aTg{q:Rat}(h:cG q=true):(bH q).length≤4002:=by
 rw[cG,Bool.and_eq_true,lU,lU,decide_eq_true_iff,decide_eq_true_iff]at h;have:=aXh q.num;unfold bH;split
 ·omega
 ·rw[List.length_append,List.length_cons];omega
structure Rect{α:Type}(m:List (List α))(n k:Nat):Prop where
 len:m.length=n
 row:∀r∈m,r.length=k
def at2(m:MQ)(i j:Nat):Rat:=(m.getD i []).getD j 0
theorem Rect.rowlen{α:Type}{m:List (List α)}{n k:Nat}(h:Rect m n k){i:Nat}(hi:i<n):(m.getD i []).length=k:=by
 have hl:i<m.length:=by rw[h.len];exact hi
 rw[gD,gE hl];exact h.row _ (List.getElem_mem hl)
theorem aXi{a b:MQ}{n k:Nat}(ha:Rect a n k)(hb:Rect b n k)(h:∀i j,i<n→j<k→at2 a i j=at2 b i j):a=b:=by
 apply List.ext_getElem
 ·rw[ha.len,hb.len]
 ·intro i h1 h2;have hi:i<n:=by rw[←ha.len];exact h1
  apply List.ext_getElem
  ·rw[ha.row _ (List.getElem_mem h1),hb.row _ (List.getElem_mem h2)]
  ·intro j k1 k2;have hj:j<k:=by rw[←ha.row _ (List.getElem_mem h1)];exact k1
   have:=h i j hi hj;unfold at2 at this;simp only[gD,gE h1,gE h2,Option.getD_some,gE k1,gE k2]at this;exact this
theorem oO{α:Type}(k:Nat)(f:Nat→α){j:Nat}(hj:j<k)(d:α):((List.range k).map f).getD j d=f j:=by
 rw[gD,List.getElem?_map,List.getElem?_range hj];rfl
theorem aTh{a:MQ}(b:MQ){n k:Nat}(h:a.length=n):Rect (aFu a b k) n k:=⟨by rw[aFu,List.length_map,h],fun r hr=>by
  obtain⟨s,_,rfl⟩:=List.mem_map.1 hr;simp[trQ]⟩
theorem aLj{a b:MQ}{n l k:Nat}(ha:Rect a n l){i j:Nat}(hi:i<n)(hj:j<k):at2 (aFu a b k) i j=sm l fun t=>at2 a i t*at2 b t j:=by
 have hl:i<a.length:=by rw[ha.len];exact hi
 have e1:at2 (aFu a b k) i j=mA (a.getD i []) (b.map fun r=>r.getD j 0):=by
  unfold at2 aFu;rw[gD,gD,List.getElem?_map,gE hl,Option.map_some,Option.getD_some,List.getElem?_map];have:(trQ b k)[j]?=some (b.map fun r=>r.getD j 0):=by unfold trQ;rw[List.getElem?_map,List.getElem?_range hj];rfl
  rw[this,gD,gE hl];rfl
 rw[e1,mA,ha.rowlen hi];refine aT _ fun t _=>?_;unfold at2;congr 1;rw[gD,List.getElem?_map,gD (l:=b)];cases b[t]?<;>rfl
theorem aXj(n:Nat):Rect (idQ n) n n:=⟨by simp[idQ],fun r hr=>by
 obtain⟨j,_,rfl⟩:=List.mem_map.1 hr;simp⟩
theorem aIu{n i j:Nat}(hi:i<n)(hj:j<n):at2 (idQ n) i j=if i=j then 1 else 0:=by
 unfold at2 idQ;rw[oO n _ hi,oO n _ hj]
theorem aFv{l:List (List UInt8)}(h:∀s∈l,jI s=0):gU l=0:=by
 induction l with
 |nil=>rfl
 |cons x l ih=>rw[gU,if_pos (h x List.mem_cons_self),ih fun s hs=>h s (List.mem_cons_of_mem _ hs)]
end
section
open Go.RowKit
theorem aTi{α:Type}(m:List α)(x:α)(d:α)(h:m[0]?=some x):m.head?.getD d=x:=by
 cases m with
 |nil=>cases h
 |cons y m=>simpa using h
end
end Go.Proofs.YtenbglfkdldheaaGreatDoor
