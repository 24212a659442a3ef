/- More on determinants of matrices given as functions: along the first row, the transposed matrix, dependent rows, Cramer's rule; alternating forms. Plain facts. No program here. Elimination in plain Lean: what lin.Reduce computes, and what stays true. No program here. lin.Reduce on lists of rows. No program here. The sizes of the numbers of an elimination: quotients of minors. No program here. All numbers of an elimination are of at most 700000 words. No program here. Determinants of products, rank and transposed matrices, kernels: plain facts from eliminations. No program here. Eliminations of the first columns alone; columns without pivots; vectors of the kernel. No program here. The states within one column of an elimination. No program here. What lin.Det computes is the determinant. No program here. Package solve in plain Lean: what its functions answer, and the law of systems. No program here. Package solve in plain Lean: bases and kernels. No program here. Package solve in plain Lean: inverses and determinants. No program here. -/
import Derived.Test.YtenbglfkdldheaaGreatDoorUP
namespace Go.Proofs.YtenbglfkdldheaaGreatDoor
theorem aKg(i:Nat):sg (i+1)=-sg i:=by
 unfold sg;rcases Nat.mod_two_eq_zero_or_one i with h1|h1
 ·have h2:¬(i+1)%2=0:=by omega
  rw[if_pos h1,if_neg h2]
 ·have h2:(i+1)%2=0:=by omega
  have h3:¬i%2=0:=by omega
  rw[if_neg h3,if_pos h2];grind
theorem aKh(r:Nat):sk 0 r=r+1:=by unfold sk;rw[if_neg (by omega)]
theorem rB(i:Nat):sk (i+1) 0=0:=by unfold sk;rw[if_pos (by omega)]
theorem aKi(i r:Nat):sk (i+1) (r+1)=sk i r+1:=by
 unfold sk;by_cases h:r<i
 ·rw[if_pos h,if_pos (by omega)]
 ·rw[if_neg h,if_neg (by omega)]
theorem aWt:∀(n:Nat) (A:Nat→Nat→Rat),det (n+1) A=sm (n+1) fun j=>sg j*A 0 j*det n (fun r c=>A (r+1) (sk j c)):=by
 intro n;induction n with
 |zero=>intro A;simp only[det,sm]
 |succ n ih=>
  intro A;rw[det,aCg _ (n+1),aCg _ (n+1)];have e1:∀i,det (n+1) (fun r c=>A (sk (i+1) r) (c+1))=sm (n+1) fun j=>sg j*A 0 (j+1)*det n (fun r c=>A (sk i r+1) (sk j c+1)):=fun i=>by
   rw[ih];refine bF _ fun j _=>?_;rw[rB];congr 2;funext r c;rw[aKi]
  have e2:∀j,det (n+1) (fun r c=>A (r+1) (sk (j+1) c))=sm (n+1) fun i=>sg i*A (i+1) 0*det n (fun r c=>A (sk i r+1) (sk j c+1)):=fun j=>by
   rw[det];refine bF _ fun i _=>?_;rw[rB];congr 2;funext r c;rw[aKi]
  rw[show(fun r c=>A (sk 0 r) (c+1))=fun r c=>A (r+1) (sk 0 c) by funext r c;rw[aKh,aKh]];congr 1;simp only[e1,e2,←kJ];rw[uK];refine bF _ fun j _=>bF _ fun i _=>?_;rw[aKg,aKg];grind
theorem aCk:∀(n:Nat) (A:Nat→Nat→Rat),det n (fun i j=>A j i)=det n A:=by
 intro n;induction n with
 |zero=>intro A;rfl
 |succ n ih=>
  intro A;rw[det,aWt];refine bF _ fun i _=>?_;rw[←ih]
structure Alt(n:Nat)(F:(Nat→Nat→Rat)→Rat):Prop where
 lin:∀(a b:Rat) (u v:Nat→Rat) (A:Nat→Nat→Rat) (k:Nat),k<n→F (upd A k (fun j=>a*u j+b*v j))=a*F (upd A k u)+b*F (upd A k v)
 same:∀(A:Nat→Nat→Rat) (i k:Nat),i<n→k<n→i≠k→A i=A k→F A=0
 congr:∀(A B:Nat→Nat→Rat),(∀i,i<n→A i=B i)→F A=F B
section
variable {n:Nat} {F:(Nat→Nat→Rat)→Rat}
theorem Alt.smul(h:Alt n F)(a:Rat)(A:Nat→Nat→Rat){k:Nat}(hk:k<n)(u:Nat→Rat):F (upd A k (fun j=>a*u j))=a*F (upd A k u):=by
 have e:=h.lin a 0 u u A k hk;rw[show(fun j=>a*u j+0*u j)=fun j=>a*u j by funext j;grind]at e;rw[e];grind
theorem Alt.zero_row(h:Alt n F){A:Nat→Nat→Rat}{i:Nat}(hi:i<n)(hz:∀j,A i j=0):F A=0:=by
 have e:=h.smul 0 A hi (A i);rw[show(fun j=>0*A i j)=A i by funext j;rw[hz];grind,eS]at e;rw[e];grind
theorem Alt.addrow(h:Alt n F)(A:Nat→Nat→Rat){i k:Nat}(hi:i<n)(hk:k<n)(hne:i≠k)(a:Rat):F (upd A i (fun j=>A i j+a*A k j))=F A:=by
 have e:=h.lin 1 a (A i) (A k) A i hi;rw[show(fun j=>1*A i j+a*A k j)=fun j=>A i j+a*A k j by funext j;grind]at e;rw[e,eS,h.same (upd A i (A k)) i k hi hk hne (by rw[bC,cN _ _ (Ne.symm hne)])];grind
theorem Alt.swap(h:Alt n F)(A:Nat→Nat→Rat){i k:Nat}(hi:i<n)(hk:k<n)(hne:i≠k):F (upd (upd A i (A k)) k (A i))=-F A:=by
 have hz:∀u:Nat→Rat,F (upd (upd A i u) k u)=0:=fun u=>h.same _ i k hi hk hne (by
  rw[bC,cN _ _ hne,bC])
 have h1:=hz (fun j=>1*A i j+1*A k j);rw[h.lin 1 1 _ _ _ _ hk,fN A hne _ (A i),fN A hne _ (A k),h.lin 1 1 _ _ _ _ hi,h.lin 1 1 _ _ _ _ hi]at h1;rw[(fN A hne (A i) (A i)).symm,(fN A hne (A k) (A k)).symm,hz,hz]at h1;have e1:upd (upd A k (A k)) i (A i)=A:=by rw[eS,eS]
 rw[e1]at h1;rw[fN A hne];grind
theorem Alt.elim_(h:Alt n F)(A:Nat→Nat→Rat)(g:Nat→Rat){r:Nat}(hr:r<n):∀m,m≤n→F (fun i j=>if i=r∨m≤i then A i j else A i j-g i*A r j)=F A:=by
 intro m;induction m with
 |zero=>intro _;exact h.congr _ _ fun i _=>by funext j;rw[if_pos (.inr (by omega))]
 |succ m ih=>
  intro hm;rw[←ih (by omega)];by_cases e:m=r
  ·refine h.congr _ _ fun i _=>?_;funext j;by_cases hi:i=r
   ·rw[if_pos (.inl hi),if_pos (.inl hi)]
   ·by_cases h2:m≤i
    ·rw[if_pos (.inr (by omega)),if_pos (.inr h2)]
    ·rw[if_neg (by omega),if_neg (by omega)]
  ·rw[←h.addrow (fun i j=>if i=r∨m≤i then A i j else A i j-g i*A r j) (i:=m) (k:=r) (by omega) hr e (-g m)];refine h.congr _ _ fun i _=>?_;funext j;by_cases hi:i=m
   ·subst hi;rw[bC,if_neg (by omega),if_pos (.inr lR),if_pos (.inl rfl)];grind
   ·rw[cN _ _ hi];by_cases h2:i=r
    ·rw[if_pos (.inl h2),if_pos (.inl h2)]
    ·by_cases h3:m≤i
     ·rw[if_pos (.inr (by omega)),if_pos (.inr h3)]
     ·rw[if_neg (by omega),if_neg (by omega)]
theorem Alt.elim(h:Alt n F)(A:Nat→Nat→Rat)(g:Nat→Rat){r:Nat}(hr:r<n):F (fun i j=>if i=r then A r j else A i j-g i*A r j)=F A:=by
 rw[←h.elim_ A g hr n lR];refine h.congr _ _ fun i hi=>?_;funext j;by_cases h2:i=r
 ·subst h2;rw[if_pos rfl,if_pos (.inl rfl)]
 ·rw[if_neg h2,if_neg (by omega)]
theorem Alt.sum(h:Alt n F)(A:Nat→Nat→Rat){i:Nat}(hi:i<n)(y:Nat→Rat)(R:Nat→Nat→Rat):∀m,F (upd A i (fun j=>sm m fun k=>y k*R k j))=sm m fun k=>y k*F (upd A i (R k))
 |0=>by
  rw[sm];exact h.zero_row hi fun j=>by rw[bC];rfl
 |m+1=>by
  have e:=h.lin 1 (y m) (fun j=>sm m fun k=>y k*R k j) (R m) A i hi;rw[show(fun j=>1*(sm m fun k=>y k*R k j)+y m*R m j)=fun j=>sm (m+1) fun k=>y k*R k j by funext j;rw[sm];grind]at e;rw[e,h.sum A hi y R m,sm];grind
end
theorem det_alt(n:Nat):Alt n (det n) where
 lin a b u v A k hk:=mA a b u v n A k hk
 same A i k hi hk hne he:=nN hi hk hne fun j=>by rw[he]
 congr A B h:=dK n fun i j hi _=>by rw[h i hi]
theorem aSv(A:Nat→Nat→Rat)(k:Nat)(u:Nat→Rat)(γ:Nat→Nat):(fun i j=>upd A k u i (γ j))=upd (fun i j=>A i (γ j)) k (fun j=>u (γ j)):=by
 funext i j;by_cases h:i=k
 ·rw[h,bC,bC]
 ·rw[cN _ _ h,cN _ _ h]
theorem nQ(n:Nat)(γ:Nat→Nat):Alt n (fun X=>det n fun i j=>X i (γ j)) where
 lin a b u v A k hk:=by simp only[aSv];exact mA a b _ _ n _ k hk
 same A i k hi hk hne he:=nN hi hk hne fun j=>by rw[he]
 congr A B h:=dK n fun i j hi _=>by rw[h i hi]
theorem aWu{n:Nat}{B:Nat→Nat→Rat}{y:Nat→Rat}{i:Nat}(hi:i<n)(hy:y i≠0)(h:∀j,j<n→(sm n fun k=>y k*B k j)=0):det n B=0:=by
 have e:=(det_alt n).sum B hi y B n;have hz:det n (upd B i (fun j=>sm n fun k=>y k*B k j))=0:=by
  rw[dK (B:=upd B i (fun _=>0)) n fun a j _ hj=>?_]
  ·exact mB hi fun j=>by rw[bC]
  ·by_cases ha:a=i
   ·rw[ha,bC,bC,h j hj]
   ·rw[cN _ _ ha,cN _ _ ha]
 rw[hz,lZ i n hi]at e
 ·rw[eS]at e;rcases Rat.mul_eq_zero.1 e.symm with h1|h1
  ·exact absurd h1 hy
  ·exact h1
 ·intro k hk hki;rw[nN hi hk (Ne.symm hki) fun j=>by rw[bC,cN _ _ hki]];grind
theorem aZk{n:Nat}{B:Nat→Nat→Rat}{x b:Nat→Rat}(h:∀s,s<n→b s=sm n fun u=>B s u*x u){t:Nat}(ht:t<n):det n (fun s u=>if u=t then b s else B s u)=x t*det n B:=by
 rw[←aCk n (fun s u=>if u=t then b s else B s u),←aCk n B];have e:=(det_alt n).sum (fun i j=>B j i) ht x (fun i j=>B j i) n;rw[lZ t n ht,eS (fun i j=>B j i)]at e
 ·rw[←e];refine dK n fun i j _ hj=>?_;by_cases hi:i=t
  ·subst hi;rw[if_pos rfl,bC,h j hj];exact bF _ fun u _=>by grind
  ·rw[if_neg hi,cN _ _ hi]
 ·intro k hk hkt;rw[nN ht hk (Ne.symm hkt) fun j=>by rw[bC,cN _ _ hkt]];grind
def tau(r p i:Nat):Nat:=if i=r then p else if i=p then r else i
theorem kK{r p i n:Nat}(hr:r<n)(hp:p<n)(hi:i<n):tau r p i<n:=by unfold tau;split<;>(try split)<;>omega
theorem uL{r p i j:Nat}(h:tau r p i=tau r p j):i=j:=by
 unfold tau at h;split at h<;>split at h<;>(try split at h)<;>(try split at h)<;>omega
theorem aWv(r p i:Nat):tau r p (tau r p i)=i:=by
 unfold tau;by_cases h1:i=r
 ·rw[if_pos h1];by_cases h2:p=r
  ·rw[if_pos h2];omega
  ·rw[if_neg h2,if_pos rfl];omega
 ·by_cases h2:i=p
  ·rw[if_neg h1,if_pos h2,if_pos rfl];omega
  ·rw[if_neg h1,if_neg h2,if_neg h1,if_neg h2]
theorem jE{r p i:Nat}(hp:r≤p)(hi:i<r):tau r p i=i:=by unfold tau;rw[if_neg (by omega),if_neg (by omega)]
theorem aSw{r p i:Nat}(hp:r≤p)(hi:r≤i):r≤tau r p i:=by unfold tau;split<;>(try split)<;>omega
structure Prm(n:Nat)(π:Nat→Nat):Prop where
 lt:∀i,i<n→π i<n
 inj:∀i j,i<n→j<n→π i=π j→i=j
 onto:∀k,k<n→∃i,i<n∧π i=k
structure RI(n:Nat)(M A:Nat→Nat→Rat)(k:Nat)(pv:List Nat)(π:Nat→Nat)(δ ε:Rat):Prop where
 few:pv.length≤n
 lt:∀t,t<pv.length→pv.getD t 0<k
 inc:∀t u,t<u→u<pv.length→pv.getD t 0<pv.getD u 0
 unit:∀t i,t<pv.length→i<n→A i (pv.getD t 0)=if i=t then 1 else 0
 left:∀t j,t<pv.length→j<pv.getD t 0→A t j=0
 low:∀i j,pv.length≤i→i<n→j<k→A i j=0
 prm:Prm n π
 back:∀i j,i<n→M (π i) j=(sm pv.length fun t=>M (π i) (pv.getD t 0)*A t j)+(if i<pv.length then 0 else A i j)
 dne:δ≠0
 minor:∀(s:Nat) (F:(Nat→Nat→Rat)→Rat) (f:Nat→Nat),pv.length≤s→Alt s F→(∀i,i<pv.length→f i=i)→(∀i,i<s→f i<n)→(∀i j,i<s→j<s→f i=f j→i=j)→F (fun i=>M (π (f i)))=δ*F (fun i=>A (f i))
 ene:ε≠0
 sign:∀(F:(Nat→Nat→Rat)→Rat) (X:Nat→Nat→Rat),Alt n F→F (fun i=>X (π i))=ε*F X
theorem RI.start(n:Nat)(M:Nat→Nat→Rat):RI n M M 0 [] id 1 1 where
 few:=by simp
 lt t h:=by simp at h
 inc t u _ h:=by simp at h
 unit t i h:=by simp at h
 left t j h:=by simp at h
 low i j _ _ h:=by omega
 prm:=⟨fun i h=>h,fun i j _ _ h=>h,fun k hk=>⟨k,hk,rfl⟩⟩
 back i j _:=by simp only[List.length_nil,sm,id,Nat.not_lt_zero,if_false];grind
 dne:=by decide
 minor s F f _ _ _ _ _:=by simp only[id];grind
 ene:=by decide
 sign F X _:=by simp only[id];grind
section
variable {n:Nat} {M A:Nat→Nat→Rat} {k:Nat} {pv:List Nat} {π:Nat→Nat} {δ ε:Rat}
theorem RI.none(h:RI n M A k pv π δ ε)(hz:∀i,pv.length≤i→i<n→A i k=0):RI n M A (k+1) pv π δ ε:={h with
  lt:=fun t ht=>Nat.lt_succ_of_lt (h.lt t ht)
  low:=fun i j h1 h2 h3=>by
   by_cases e:j=k
   ·rw[e];exact hz i h1 h2
   ·exact h.low i j h1 h2 (by omega)}
theorem aNh(X:Nat→Nat→Rat){r p:Nat}(h:r≠p):(fun i=>X (tau r p i))=upd (upd X r (X p)) p (X r):=by
 funext i;unfold tau;by_cases h1:i=r
 ·rw[if_pos h1,cN _ _ (by omega),h1,bC]
 ·by_cases h2:i=p
  ·rw[if_neg h1,if_pos h2,h2,bC]
  ·rw[if_neg h1,if_neg h2,cN _ _ h2,cN _ _ h1]
theorem RI.swap(h:RI n M A k pv π δ ε){p:Nat}(hp:pv.length≤p)(hn:p<n):∃ε',RI n M (fun i=>A (tau pv.length p i)) k pv (fun i=>π (tau pv.length p i)) δ ε':=by
 have hr:pv.length<n:=by omega
 refine⟨if pv.length=p then ε else-ε,?_⟩;exact{
  few := h.few
  lt:=h.lt
  inc:=h.inc
  unit:=fun t i ht hi=>by
   rw[h.unit t _ ht (kK hr hn hi)];by_cases e:i=t
   ·rw[if_pos e,if_pos (by rw[e];exact jE hp ht)]
   ·rw[if_neg e,if_neg (fun h2=>e (by
     have h3:tau pv.length p i=tau pv.length p t:=by rw[h2,jE hp ht]
     exact uL h3))]
  left:=fun t j ht hj=>by
   show A (tau pv.length p t) j=0;rw[jE hp ht];exact h.left t j ht hj
  low:=fun i j h1 h2 h3=>h.low _ j (aSw hp h1) (kK hr hn h2) h3
  prm:=⟨fun i hi=>h.prm.lt _ (kK hr hn hi),fun i j hi hj e=>uL (h.prm.inj _ _ (kK hr hn hi) (kK hr hn hj) e),fun k hk=>by
   obtain⟨i,hi,e⟩:=h.prm.onto k hk;exact⟨tau pv.length p i,kK hr hn hi,by show π (tau _ _ (tau _ _ i))=k;rw[aWv];exact e⟩⟩
  back:=fun i j hi=>by
   rw[h.back _ j (kK hr hn hi)];congr 1
   ·exact bF _ fun t ht=>by rw[jE hp ht]
   ·by_cases e:i<pv.length
    ·rw[if_pos e,if_pos (by rw[jE hp e];exact e)]
    ·rw[if_neg e,if_neg (by have:=aSw hp (show pv.length≤i by omega);omega)]
  dne:=h.dne
  minor:=fun s F f hs hF h1 h2 h3=>h.minor s F (fun i=>tau pv.length p (f i)) hs hF (fun i hi=>by
   show tau _ _ (f i)=i;rw[h1 i hi,jE hp hi]) (fun i hi=>kK hr hn (h2 i hi)) (fun i j hi hj e=>h3 i j hi hj (uL e))
  ene:=by
   split
   ·exact h.ene
   ·exact fun e=>h.ene (by grind)
  sign:=fun F X hF=>by
   by_cases e:pv.length=p
   ·rw[if_pos e,←h.sign F X hF];refine hF.congr _ _ fun i _=>?_;rw[show tau pv.length p i=i by unfold tau;split<;>(try split)<;>omega]
   ·rw[if_neg e];have h1:=aNh (fun i=>X (π i)) e;have h2:=hF.swap (fun i=>X (π i)) hr hn e;rw[←h1,h.sign F X hF]at h2;rw[h2];grind}
def pvt(A:Nat→Nat→Rat)(r k:Nat):Nat→Nat→Rat:=fun i j=>if i=r then A r j/A r k else A i j-A i k*(A r j/A r k)
theorem aAa{l:List Nat}{k t:Nat}:(l++[k]).getD t 0=if t<l.length then l.getD t 0 else if t=l.length then k else 0:=by
 rw[gD,List.getElem?_append];by_cases h:t<l.length
 ·rw[if_pos h,if_pos h,gD]
 ·rw[if_neg h,if_neg h];by_cases e:t=l.length
  ·rw[if_pos e,e,Nat.sub_self];rfl
  ·rw[if_neg e,List.getElem?_eq_none (by simp;omega)];rfl
theorem fC{l:List Nat}{k t:Nat}(h:t<l.length):(l++[k]).getD t 0=l.getD t 0:=by rw[aAa,if_pos h]
theorem gL{l:List Nat}{k:Nat}:(l++[k]).getD l.length 0=k:=by rw[aAa,if_neg (by omega),if_pos rfl]
theorem hJ(d:Rat):(0:Rat)/d=0:=by rw[Rat.div_def];grind
theorem aAb{d:Rat}(h:d≠0):d/d=1:=by rw[Rat.div_def];exact Rat.mul_inv_cancel d h
theorem iT{d:Rat}(h:d≠0)(x:Rat):d*(x/d)=x:=by
 rw[Rat.div_def,Rat.mul_comm,Rat.mul_assoc,Rat.mul_comm d⁻¹,Rat.mul_inv_cancel d h,Rat.mul_one]
theorem RI.pivot(h:RI n M A k pv π δ ε)(hr:pv.length<n)(hd:A pv.length k≠0):RI n M (pvt A pv.length k) (k+1) (pv++[k]) π (δ*A pv.length k) ε:=by
 have hl:(pv++[k]).length=pv.length+1:=by simp
 have h0:∀j,j<k→A pv.length j=0:=fun j hj=>h.low _ j lR hr hj;exact{
  few := by rw [hl]; omega
  lt:=fun t ht=>by
   rw[hl]at ht;by_cases e:t<pv.length
   ·rw[fC e];have:=h.lt t e;omega
   ·obtain rfl:t=pv.length:=by omega
    rw[gL];omega
  inc:=fun t u ht hu=>by
   rw[hl]at hu;rw[fC (show t<pv.length by omega)];by_cases e:u<pv.length
   ·rw[fC e];exact h.inc t u ht e
   ·obtain rfl:u=pv.length:=by omega
    rw[gL];exact h.lt t ht
  unit:=fun t i ht hi=>by
   rw[hl]at ht;by_cases e:t<pv.length
   ·rw[fC e];have hz:A pv.length (pv.getD t 0)=0:=by rw[h.unit t _ e hr,if_neg (by omega)]
    unfold pvt;rw[hz,hJ];by_cases e2:i=pv.length
    ·rw[if_pos e2,if_neg (by omega)]
    ·rw[if_neg e2,h.unit t i e hi];grind
   ·obtain rfl:t=pv.length:=by omega
    rw[gL];unfold pvt;rw[aAb hd];by_cases e2:i=pv.length
    ·rw[if_pos e2,if_pos e2]
    ·rw[if_neg e2,if_neg e2];grind
  left:=fun t j ht hj=>by
   rw[hl]at ht;by_cases e:t<pv.length
   ·rw[fC e]at hj;have hjk:j<k:=by have:=h.lt t e;omega
    unfold pvt;rw[if_neg (by omega),h0 j hjk,h.left t j e hj,hJ];grind
   ·obtain rfl:t=pv.length:=by omega
    rw[gL]at hj;unfold pvt;rw[if_pos rfl,h0 j hj,hJ]
  low:=fun i j h1 h2 h3=>by
   rw[hl]at h1;unfold pvt;rw[if_neg (by omega)];by_cases e:j=k
   ·rw[e,aAb hd];grind
   ·rw[h0 j (by omega),h.low i j (by omega) h2 (by omega),hJ];grind
  prm:=h.prm
  back:=fun i j hi=>by
   rw[hl,sm,gL];have e1:=h.back i j hi;have e2:=h.back i k hi;have e3:(sm pv.length fun t=>M (π i) ((pv++[k]).getD t 0)*pvt A pv.length k t j)=1*(sm pv.length fun t=>M (π i) (pv.getD t 0)*A t j)+(-(A pv.length j/A pv.length k))*(sm pv.length fun t=>M (π i) (pv.getD t 0)*A t k):=by
    rw[←aCe];refine bF _ fun t ht=>?_;rw[fC ht];unfold pvt;rw[if_neg (by omega)];grind
   have hq:=iT hd (A pv.length j);rw[e3];generalize(sm pv.length fun t=>M (π i) (pv.getD t 0)*A t j)=s1 at*;generalize(sm pv.length fun t=>M (π i) (pv.getD t 0)*A t k)=s2 at*;have e4:pvt A pv.length k pv.length j=A pv.length j/A pv.length k:=if_pos rfl;rw[e4,e1,e2];generalize hqq:A pv.length j/A pv.length k=q at*;rcases Nat.lt_trichotomy i pv.length with hlt|heq|hgt
   ·rw[if_pos hlt,if_pos hlt,if_pos (by omega)];grind
   ·rw[if_neg (by omega),if_neg (by omega),if_pos (by omega),heq];grind
   ·rw[if_neg (by omega),if_neg (by omega),if_neg (by omega)];have e5:pvt A pv.length k i j=A i j-A i k*q:=by unfold pvt;rw[if_neg (by omega),hqq]
    rw[e5];grind
  dne:=fun e=>by
   rcases Rat.mul_eq_zero.1 e with h1|h1
   ·exact h.dne h1
   ·exact hd h1
  minor:=fun s F f hs hF h1 h2 h3=>by
   rw[hl]at hs h1;rw[h.minor s F f (by omega) hF (fun i hi=>h1 i (by omega)) h2 h3];have hfr:f pv.length=pv.length:=h1 _ (by omega);have e1:=hF.smul (1/A pv.length k) (fun i=>A (f i)) (show pv.length<s by omega) (A (f pv.length));rw[eS (fun i=>A (f i))]at e1;have e2:=hF.elim (upd (fun i=>A (f i)) pv.length (fun j=>1/A pv.length k*A (f pv.length) j)) (fun i=>A (f i) k) (show pv.length<s by omega);rw[e1]at e2;have e3:F (fun i=>pvt A pv.length k (f i))=1/A pv.length k*F (fun i=>A (f i)):=by
    rw[←e2];refine hF.congr _ _ fun i hi=>?_;funext j;by_cases e:i=pv.length
    ·rw[if_pos e,e,hfr,bC];unfold pvt;rw[if_pos rfl];rw[Rat.div_def,Rat.div_def];grind
    ·rw[if_neg e,bC,cN _ _ e,hfr];unfold pvt;rw[if_neg (fun h4=>e (h3 _ _ hi (by omega) (by rw[h4,hfr])))];rw[Rat.div_def,Rat.div_def];grind
   rw[e3];have e4:=iT hd 1;generalize F (fun i=>A (f i))=x at*;generalize 1/A pv.length k=y at*;grind
  ene:=h.ene
  sign:=h.sign}
end
def nzAt(k:Nat):List (List Rat)→Nat→Nat
 |[],p=>p
 |r::l,p=>if r.getD k 0=0 then nzAt k l (p+1)else p
def nR(k:Nat)(d:Rat)(r:List Rat):List Rat:=r.mapIdx fun j x=>if k≤j then x/d else x
def jS(k:Nat)(pr r:List Rat):List Rat:=r.mapIdx fun j x=>if k≤j then x-r.getD k 0*pr.getD j 0 else x
def swQ(m:MQ)(r p:Nat):MQ:=(m.set r (m.getD p [])).set p (m.getD r [])
def iN(m:MQ)(r k:Nat):List Rat:=nR k (at2 m r k) (m.getD r [])
def pvQ(m:MQ)(r k:Nat):MQ:=m.mapIdx fun i row=>if i=r then iN m r k else jS k (iN m r k) row
def tP(s:MQ×List Nat)(k:Nat):MQ×List Nat:=if s.1.length≤nzAt k (s.1.drop s.2.length) s.2.length then s else
 (pvQ (swQ s.1 s.2.length (nzAt k (s.1.drop s.2.length) s.2.length)) s.2.length k,s.2++[k])
def cA(m:MQ):Nat→MQ×List Nat
 |0=>(m,[])
 |k+1=>tP (cA m k) k
theorem aAc(k:Nat):∀(l:List (List Rat)) (p:Nat),∃j,nzAt k l p=p+j∧j≤l.length∧(∀i,i<j→(l.getD i []).getD k 0=0)∧(j<l.length→(l.getD j []).getD k 0≠0)
 |[],p=>⟨0,rfl,by simp,fun i hi=>by omega,fun h=>by simp at h⟩
 |r::l,p=>by
  rw[nzAt];by_cases h:r.getD k 0=0
  ·rw[if_pos h];obtain⟨j,h1,h2,h3,h4⟩:=aAc k l (p+1);refine⟨j+1,by rw[h1];omega,by simp;omega,fun i hi=>?_,fun hj=>h4 (by simpa using hj)⟩;match i with
   |0=>exact h
   |i+1=>exact h3 i (by omega)
  ·rw[if_neg h];exact⟨0,rfl,by simp,fun i hi=>by omega,fun _=>h⟩
theorem pT{α:Type}(l:List α)(r i:Nat)(d:α):(l.drop r).getD i d=l.getD (r+i) d:=by
 rw[gD,List.getElem?_drop,gD]
theorem aSx(m:MQ)(r k:Nat)(hr:r≤m.length):r≤nzAt k (m.drop r) r∧nzAt k (m.drop r) r≤m.length∧(∀i,r≤i→i<nzAt k (m.drop r) r→at2 m i k=0)∧(nzAt k (m.drop r) r<m.length→at2 m (nzAt k (m.drop r) r) k≠0):=by
 obtain⟨j,h1,h2,h3,h4⟩:=aAc k (m.drop r) r;rw[List.length_drop]at h2 h4;rw[h1];refine⟨by omega,by omega,fun i hi1 hi2=>?_,fun h=>?_⟩
 ·have:=h3 (i-r) (by omega);rw[pT,show r+(i-r)=i by omega]at this;exact this
 ·have:=h4 (by omega);rw[pT]at this;exact this
theorem dM{α β:Type}(l:List α)(f:Nat→α→β)(i:Nat)(d:α)(e:β)(hi:i<l.length):(l.mapIdx f).getD i e=f i (l.getD i d):=by
 rw[gD,List.getElem?_mapIdx,gD,gE hi];rfl
theorem eU{α β:Type}(l:List α)(f:Nat→α→β)(i:Nat)(e:β)(hi:l.length≤i):(l.mapIdx f).getD i e=e:=by
 rw[gD,List.getElem?_eq_none (by simpa using hi)];rfl
theorem mH{α:Type}(l:List α)(i:Nat)(e:α)(hi:l.length≤i):l.getD i e=e:=by
 rw[gD,List.getElem?_eq_none hi];rfl
theorem aSy(k:Nat)(d:Rat)(r:List Rat)(j:Nat):(nR k d r).getD j 0=if k≤j then r.getD j 0/d else r.getD j 0:=by
 unfold nR;by_cases h:j<r.length
 ·rw[dM r _ j 0 0 h]
 ·rw[eU _ _ _ _ (by omega),mH r j 0 (by omega),hJ];split<;>rfl
theorem aSz(k:Nat)(pr r:List Rat)(j:Nat)(hl:pr.length=r.length):(jS k pr r).getD j 0=if k≤j then r.getD j 0-r.getD k 0*pr.getD j 0 else r.getD j 0:=by
 unfold jS;by_cases h:j<r.length
 ·rw[dM r _ j 0 0 h]
 ·rw[eU _ _ _ _ (by omega),mH r j 0 (by omega),mH pr j 0 (by omega)];split
  ·grind
  ·rfl
theorem dX{m:MQ}{n w i:Nat}(h:Rect m n w)(hi:i<n):(m.getD i []).length=w:=h.rowlen hi
theorem aFe{m:MQ}{n w r p:Nat}(h:Rect m n w)(hr:r<n)(hp:p<n):Rect (swQ m r p) n w:=by
 have h1:=dX h hr;have h2:=dX h hp;refine⟨by unfold swQ;rw[List.length_set,List.length_set];exact h.1,fun row hrow=>?_⟩;unfold swQ at hrow;rcases List.mem_or_eq_of_mem_set hrow with h3|h3
 ·rcases List.mem_or_eq_of_mem_set h3 with h4|h4
  ·exact h.2 row h4
  ·rw[h4];exact h2
 ·rw[h3];exact h1
theorem aHq{m:MQ}{r p i:Nat}(hr:r<m.length)(hp:p<m.length):(swQ m r p).getD i []=m.getD (tau r p i) []:=by
 unfold swQ tau;rw[gD,List.getElem?_set];by_cases h1:i=p
 ·subst h1;rw[if_pos rfl,if_pos (by simpa using hp)];by_cases h2:i=r
  ·rw[if_pos h2,h2];rfl
  ·rw[if_neg h2,if_pos rfl];rfl
 ·rw[if_neg (Ne.symm h1),List.getElem?_set];by_cases h2:i=r
  ·subst h2;rw[if_pos rfl,if_pos hr,if_pos rfl];rfl
  ·rw[if_neg (Ne.symm h2),if_neg h2,if_neg h1,gD]
theorem aTa{m:MQ}{n w r k:Nat}(h:Rect m n w)(hr:r<n):Rect (pvQ m r k) n w:=by
 refine⟨by unfold pvQ;rw[List.length_mapIdx];exact h.1,fun row hrow=>?_⟩;unfold pvQ at hrow;obtain⟨i,hi,e⟩:=List.mem_mapIdx.1 hrow;rw[←e];have hpl:(iN m r k).length=w:=by unfold iN nR;rw[List.length_mapIdx];exact dX h hr
 split
 ·exact hpl
 ·unfold jS;rw[List.length_mapIdx];exact h.2 _ (List.getElem_mem hi)
theorem aZl{m:MQ}{n w r k:Nat}(h:Rect m n w)(hr:r<n)(h0:∀j,j<k→at2 m r j=0){i:Nat}(hi:i<n)(j:Nat):at2 (pvQ m r k) i j=pvt (at2 m) r k i j:=by
 have hpr:∀j,(iN m r k).getD j 0=at2 m r j/at2 m r k:=fun j=>by
  unfold iN;rw[aSy];split
  ·rfl
  ·have:=h0 j (by omega);rw[this,hJ];exact this
 have hpl:(iN m r k).length=w:=by unfold iN nR;rw[List.length_mapIdx];exact dX h hr
 show((pvQ m r k).getD i []).getD j 0=_;unfold pvQ;rw[dM m _ i [] [] (by rw[h.1];exact hi)];unfold pvt;by_cases e:i=r
 ·rw[if_pos e,if_pos e,hpr]
 ·rw[if_neg e,if_neg e,aSz _ _ _ _ (by rw[hpl,dX h hi]),hpr];by_cases hk:k≤j
  ·rw[if_pos hk];rfl
  ·rw[if_neg hk,h0 j (by omega),hJ];show at2 m i j=at2 m i j-at2 m i k*0;grind
theorem RI.congr{n:Nat}{M A B:Nat→Nat→Rat}{k:Nat}{pv:List Nat}{π:Nat→Nat}{δ ε:Rat}(h:RI n M A k pv π δ ε)(e:∀i,i<n→B i=A i):RI n M B k pv π δ ε:={h with
  unit:=fun t i ht hi=>by rw[e i hi];exact h.unit t i ht hi
  left:=fun t j ht hj=>by rw[e t (by have:=h.few;omega)];exact h.left t j ht hj
  low:=fun i j h1 h2 h3=>by rw[e i h2];exact h.low i j h1 h2 h3
  back:=fun i j hi=>by
   rw[h.back i j hi,e i hi];congr 1;exact bF _ fun t ht=>by rw[e t (by have:=h.few;omega)]
  minor:=fun s F f hs hF h1 h2 h3=>by
   rw[h.minor s F f hs hF h1 h2 h3];congr 1;exact hF.congr _ _ fun i hi=>(e _ (h2 i hi)).symm}
structure Red(m:MQ)(n w k:Nat)(s:MQ×List Nat):Prop where
 rect:Rect s.1 n w
 inv:∃π δ ε,RI n (at2 m) (at2 s.1) k s.2 π δ ε
theorem Red.few{m:MQ}{n w k:Nat}{s:MQ×List Nat}(h:Red m n w k s):s.2.length≤n:=by
 obtain⟨_,_,_,h1⟩:=h.inv;exact h1.few
theorem Red.step{m:MQ}{n w k:Nat}{s:MQ×List Nat}(h:Red m n w k s):Red m n w (k+1) (tP s k):=by
 obtain⟨π,δ,ε,hI⟩:=h.inv;have hn:=h.rect.1;have hf:=hI.few;obtain⟨h1,h2,h3,h4⟩:=aSx s.1 s.2.length k (by omega);unfold tP;by_cases hp:s.1.length≤nzAt k (s.1.drop s.2.length) s.2.length
 ·rw[if_pos hp];exact⟨h.rect,π,δ,ε,hI.none fun i hi1 hi2=>h3 i hi1 (by omega)⟩
 ·rw[if_neg hp];generalize nzAt k (s.1.drop s.2.length) s.2.length=p at*;have hpn:p<n:=by omega
  have hrn:s.2.length<n:=by omega
  obtain⟨ε',hS⟩:=hI.swap h1 hpn;have hR:=aFe h.rect hrn hpn;have ha:∀i,at2 (swQ s.1 s.2.length p) i=fun j=>at2 s.1 (tau s.2.length p i) j:=fun i=>by
   funext j;unfold at2;rw[aHq (by omega) (by omega)]
  have hS':RI n (at2 m) (at2 (swQ s.1 s.2.length p)) k s.2 _ δ ε':=hS.congr fun i _=>ha i;have hd:at2 (swQ s.1 s.2.length p) s.2.length k≠0:=by
   rw[ha];show at2 s.1 (tau s.2.length p s.2.length) k≠0;rw[show tau s.2.length p s.2.length=p by unfold tau;rw[if_pos rfl]];exact h4 (by omega)
  have hP:=hS'.pivot hrn hd;refine⟨aTa hR hrn,_,_,_,hP.congr fun i hi=>?_⟩;funext j;exact aZl hR hrn (fun j hj=>hS'.low _ j lR hrn hj) hi j
theorem gM{m:MQ}{n w:Nat}(h:Rect m n w):∀k,Red m n w k (cA m k)
 |0=>⟨h,id,1,1,RI.start n (at2 m)⟩
 |k+1=>(gM h k).step
def IF(N:Nat)(x:Rat):Prop:=∃z:Int,x=(z:Rat)∧Fits N z
theorem IF.mono{N M:Nat}{x:Rat}(h:IF N x)(hm:N≤M):IF M x:=by
 obtain⟨z,e,hz⟩:=h;exact⟨z,e,hz.mono hm⟩
theorem IF.zero(N:Nat):IF N 0:=⟨0,rfl,yQ N⟩
theorem IF.mul{N M:Nat}{x y:Rat}(hx:IF N x)(hy:IF M y):IF (N+M) (x*y):=by
 obtain⟨a,rfl,ha⟩:=hx;obtain⟨b,rfl,hb⟩:=hy;exact⟨a*b,by rw[Rat.intCast_mul],ha.mul hb⟩
theorem IF.add{N:Nat}{x y:Rat}(hx:IF N x)(hy:IF N y):IF (N+1) (x+y):=by
 obtain⟨a,rfl,ha⟩:=hx;obtain⟨b,rfl,hb⟩:=hy;exact⟨a+b,by rw[Rat.intCast_add],ha.add hb⟩
theorem IF.neg{N:Nat}{x:Rat}(hx:IF N x):IF N (-x):=by
 obtain⟨a,rfl,ha⟩:=hx;exact⟨-a,by rw[Rat.intCast_neg],ha.neg⟩
theorem IF.sub{N:Nat}{x y:Rat}(hx:IF N x)(hy:IF N y):IF (N+1) (x-y):=by
 rw[Rat.sub_eq_add_neg];exact hx.add hy.neg
theorem IF.sum{N:Nat}{f:Nat→Rat}:∀(n:Nat),(∀i,i<n→IF N (f i))→IF (N+n) (sm n f)
 |0,_=>IF.zero _
 |n+1,h=>by
  rw[sm];exact(IF.sum n fun i hi=>h i (by omega)).add ((h n (by omega)).mono (by omega))
theorem IF.sg_mul{N:Nat}{x:Rat}(i:Nat)(h:IF N x):IF N (sg i*x):=by
 unfold sg;split
 ·rw[Rat.one_mul];exact h
 ·rw[show(-1:Rat)*x=-x by grind];exact h.neg
theorem IF.det{Z:Nat}:∀(n:Nat) (A:Nat→Nat→Rat),(∀i j,i<n→j<n→IF Z (A i j))→IF (n*(Z+n+1)+1) (det n A):=by
 intro n;induction n with
 |zero=>intro A _;exact⟨1,rfl,gF _ (by omega) _ (by decide) (by decide)⟩
 |succ n ih=>
  intro A h;rw[Proofs.YtenbglfkdldheaaGreatDoor.det];have hs:=IF.sum (N:=Z+(n*(Z+n+1)+1)) (f:=fun i=>sg i*A i 0*Proofs.YtenbglfkdldheaaGreatDoor.det n (fun r c=>A (sk i r) (c+1))) (n+1) fun i hi=>
   ((h i 0 hi (by omega)).sg_mul i).mul (ih (fun r c=>A (sk i r) (c+1)) fun a b ha hb=>h _ _ (by unfold sk;split<;>omega) (by omega))
  refine hs.mono ?_;have e1:(n+1)*(Z+(n+1)+1)=n*(Z+n+1)+n+(Z+n+1+1):=by
   rw[Nat.add_mul,Nat.one_mul,show Z+(n+1)+1=(Z+n+1)+1 by omega,Nat.mul_add,Nat.mul_one]
  rw[e1];omega
theorem aAd{N:Nat}{x a b:Rat}(ha:IF N a)(hb:IF N b)(h0:b≠0)(h:x*b=a)(_h1:1≤N):FitR N x:=by
 obtain⟨p,rfl,hp⟩:=ha;obtain⟨q,rfl,hq⟩:=hb;have e:x=Rat.divInt p q:=by
  rw[Rat.divInt_eq_div,←h,Rat.div_def,Rat.mul_assoc,Rat.mul_inv_cancel _ h0,Rat.mul_one]
 have hle:=jB p q;rw[←e]at hle;have hq0:q≠0:=fun e=>h0 (by rw[e];rfl);refine⟨?_,?_⟩
 ·unfold Fits at hp⊢;have:=hle.1;omega
 ·unfold Fits at hq⊢;have h2:=hle.2;have:max 1 q.natAbs=q.natAbs:=by omega
  rw[this]at h2;show((x.den:Int).natAbs:Int)<_;rw[Int.natAbs_natCast];omega
theorem aNi{n:Nat}(A:Nat→Nat→Rat)(g:Nat→Rat):∀m,m≤n→det n (fun i j=>if i<m then g i*A i j else A i j)=pd m g*det n A:=by
 intro m;induction m with
 |zero=>intro _;rw[pd,Rat.one_mul];exact dK n fun i j _ _=>by rw[if_neg (by omega)]
 |succ m ih=>
  intro hm;rw[aJx,show pd m g*g m*det n A=g m*(pd m g*det n A) by grind,←ih (by omega)];have e:=aEy (g m) n (fun i j=>if i<m then g i*A i j else A i j) m (by omega) (A m);have e2:upd (fun i j=>if i<m then g i*A i j else A i j) m (A m)=fun i j=>if i<m then g i*A i j else A i j:=by
   funext i j;by_cases h:i=m
   ·rw[h,bC,if_neg (by omega)]
   ·rw[cN _ _ h]
  rw[e2]at e;rw[←e];refine dK n fun i j _ _=>?_;by_cases h:i=m
  ·rw[h,bC,if_pos (by omega)]
  ·rw[cN _ _ h];by_cases h2:i<m
   ·rw[if_pos h2,if_pos (by omega)]
   ·rw[if_neg h2,if_neg (by omega)]
def cO:List Rat→Nat
 |[]=>1
 |x::l=>x.den*cO l
theorem oL{N:Nat}:∀(l:List Rat),(∀x∈l,FitR N x)→Fits (N*l.length+1) (cO l:Int)
 |[],_=>gF _ (by omega) _ (by decide) (by decide)
 |x::l,h=>by
  have h1:=(h x (by simp)).2.mul (oL l fun y hy=>h y (by simp[hy]));have e:((cO (x::l):Nat):Int)=(x.den:Int)*(cO l:Int):=by rw[cO,Int.natCast_mul]
  rw[e];refine h1.mono ?_;rw[List.length_cons,Nat.mul_add];omega
theorem oM:∀(l:List Rat),0<cO l
 |[]=>by decide
 |x::l=>Nat.mul_pos x.den_pos (oM l)
theorem aAe{N:Nat}:∀(l:List Rat),(∀x∈l,FitR N x)→∀x∈l,IF (N*l.length+1) ((cO l:Rat)*x)
 |[],_,x,hx=>by simp at hx
 |y::l,h,x,hx=>by
  have hl:=oL l fun y hy=>h y (by simp[hy]);have hlen:N*(y::l).length=N*l.length+N:=by rw[List.length_cons,Nat.mul_add,Nat.mul_one]
  have e:((cO (y::l):Nat):Rat)=((y.den:Nat):Rat)*(cO l:Rat):=by rw[cO,Rat.natCast_mul]
  rw[e,hlen];rcases List.mem_cons.1 hx with rfl|hx
  ·refine⟨x.num*(cO l:Int),?_,((h x (by simp)).1.mul hl).mono (by omega)⟩;have e2:(x.num:Rat)=x*((x.den:Nat):Rat):=by
    have h1:=Rat.num_divInt_den x;rw[Rat.divInt_eq_div]at h1;have hd:(((x.den:Nat):Int):Rat)≠0:=by
     have:=x.den_pos;intro e0;have:(x.den:Int)=0:=by exact_mod_cast e0
     omega
    have h2:=iT hd (x.num:Rat);rw[h1]at h2;rw[←h2,Rat.mul_comm];rfl
   rw[Rat.intCast_mul,e2];show _=x*((x.den:Nat):Rat)*((cO l:Nat):Rat);grind
  ·have ih:=aAe l (fun y hy=>h y (by simp[hy])) x hx;have h1:IF N ((y.den:Nat):Rat):=⟨(y.den:Int),rfl,(h y (by simp)).2⟩;have:=h1.mul ih;rw[show((y.den:Nat):Rat)*(cO l:Rat)*x=((y.den:Nat):Rat)*((cO l:Rat)*x) by grind];exact this.mono (by omega)
theorem kL{n:Nat}(A:Nat→Nat→Rat)(g:Nat→Rat):det n (fun i j=>g i*A i j)=pd n g*det n A:=by
 rw[←aNi A g n (Nat.le_refl n)];exact dK n fun i j hi _=>by rw[if_pos hi]
theorem aTb{g:Nat→Rat}:∀(n:Nat),(∀i,i<n→g i≠0)→pd n g≠0
 |0,_=>by rw[pd];decide
 |n+1,h=>by
  rw[pd];intro e;rcases Rat.mul_eq_zero.1 e with h1|h1
  ·exact h 0 (by omega) h1
  ·exact aTb n (fun i hi=>h _ (by omega)) h1
structure Whole(n Z:Nat)(M:Nat→Nat→Rat)(D:Nat→Rat):Prop where
 ne:∀i,i<n→D i≠0
 fit:∀i,i<n→IF Z (D i)
 mul:∀i j,i<n→IF Z (D i*M i j)
theorem aKj{n:Nat}{M A:Nat→Nat→Rat}{k:Nat}{pv:List Nat}{π:Nat→Nat}{δ ε:Rat}(h:RI n M A k pv π δ ε){Z:Nat}{D:Nat→Rat}(hD:Whole n Z M D)(i j:Nat)(hi:i<n): FitR (Z+(n*(Z+n+1)+1)+n+1) (A i j):=by
 have hf:=h.few;have hr:pv.length*(Z+pv.length+1)+1≤n*(Z+n+1)+1:=by
  have:=Nat.mul_le_mul hf (show Z+pv.length+1≤Z+n+1 by omega);omega
 --the minor of the pivots
 have hm:=h.minor pv.length (fun X=>det pv.length fun i j=>X i (pv.getD j 0)) id lR (nQ _ _) (fun _ _=>rfl) (fun i hi=>by show i<n;omega) (fun i j _ _ e=>e)
 have hid : det pv.length (fun i j => A (id i) (pv.getD j 0)) = 1 := by
  rw [← aHo pv.length];exact dK _ fun a b ha hb=>h.unit b a hb (by show a<n;omega)
 simp only[id]at hm hid;rw[hid,Rat.mul_one]at hm;have hP:=aTb (g:=fun i=>D (π i)) pv.length fun i hi=>hD.ne _ (h.prm.lt i (by omega));generalize hPP:pd pv.length (fun i=>D (π i))=P at*;have hδ:IF (n*(Z+n+1)+1) (P*δ):=by
  rw[←hm,←hPP,←kL];exact(IF.det pv.length _ fun a b ha _=>hD.mul _ _ (h.prm.lt a (by omega))).mono hr
 have hδ0:P*δ≠0:=fun e=>by
  rcases Rat.mul_eq_zero.1 e with h1|h1
  ·exact hP h1
  ·exact h.dne h1
 --rows with pivots
 have hrow:∀t j,t<pv.length→IF (n*(Z+n+1)+1) (A t j*(P*δ)):=fun t j ht=>by
  have hc:=aZk (n:=pv.length) (B:=fun s u=>M (π s) (pv.getD u 0)) (x:=fun u=>A u j) (b:=fun s=>M (π s) j) (fun s hs=>by
   rw[h.back s j (by omega),if_pos hs];grind) ht
  rw[hm]at hc;have e:A t j*(P*δ)=pd pv.length (fun i=>D (π i))*det pv.length (fun s u=>if u=t then M (π s) j else M (π s) (pv.getD u 0)):=by
   rw[hc,hPP];grind
  rw[e,←kL];refine(IF.det pv.length _ fun a b ha _=>?_).mono hr;by_cases hb:b=t
  ·rw[if_pos hb];exact hD.mul _ _ (h.prm.lt a (by omega))
  ·rw[if_neg hb];exact hD.mul _ _ (h.prm.lt a (by omega))
 by_cases hir:i<pv.length
 ·exact(aAd (hrow i j hir) hδ hδ0 rfl (by omega)).mono (by omega)
 ·--the other rows
  have hρ:=h.prm.lt i hi
  have hb := h.back i j hi
  rw [if_neg hir] at hb
  have hDρ := hD.ne _ hρ
  have key : A i j * (D (π i) * (P * δ)) = D (π i) * M (π i) j * (P * δ) - sm pv.length fun t => D (π i) * M (π i) (pv.getD t 0) * (A t j * (P * δ)) := by
   have e : (sm pv.length fun t => D (π i) * M (π i) (pv.getD t 0) * (A t j * (P * δ))) = (D (π i) * (P * δ)) * sm pv.length fun t => M (π i) (pv.getD t 0) * A t j := by
    rw[←kJ];exact bF _ fun t _=>by grind
   rw [e, hb]
   grind
  have h1 : IF (Z + (n * (Z + n + 1) + 1) + n) (D (π i) * M (π i) j * (P * δ)) := ((hD.mul _ j hρ).mul hδ).mono (by omega);have h2:IF (Z+(n*(Z+n+1)+1)+n) (sm pv.length fun t=>D (π i)*M (π i) (pv.getD t 0)*(A t j*(P*δ))):=(IF.sum (N:=Z+(n*(Z+n+1)+1)) pv.length fun t ht=>(hD.mul _ _ hρ).mul (hrow t j ht)).mono (by omega)
  have h3:=h1.sub h2;rw[←key]at h3;refine aAd h3 (((hD.fit _ hρ).mul hδ).mono (by omega)) (fun e=>?_) rfl (by omega);rcases Rat.mul_eq_zero.1 e with h4|h4
  ·exact hDρ h4
  ·exact hδ0 h4
theorem aAf{m:MQ}{n w i:Nat}(h:Rect m n w)(hi:i<n):m.getD i []∈m:=by
 rw[gD,gE (by rw[h.1];exact hi)];exact List.getElem_mem _
theorem aFf{N w:Nat}(l:List Rat)(h:∀x∈l,FitR N x)(hl:l.length=w)(j:Nat):IF (N*w+1) ((cO l:Rat)*l.getD j 0):=by
 subst hl;by_cases hj:j<l.length
 ·refine aAe l h _ ?_;rw[gD,gE hj];exact List.getElem_mem _
 ·rw[mH l j 0 (by omega),Rat.mul_zero];exact IF.zero _
theorem aTc{m:MQ}{n w N:Nat}(h:Rect m n w)(hf:∀r∈m,∀x∈r,FitR N x):Whole n (N*w+1) (at2 m) (fun i=>(cO (m.getD i []):Rat)) where
 ne i hi:=by
  have:=oM (m.getD i []);intro e;have e:cO (m.getD i [])=0:=by exact_mod_cast e
  omega
 fit i hi:=by
  have h1:=oL (m.getD i []) (hf _ (aAf h hi));rw[dX h hi]at h1;exact⟨_,rfl,h1⟩
 mul i j hi:=aFf _ (hf _ (aAf h hi)) (dX h hi) j
def Bnd(m:MQ)(n:Nat):Prop:=∀k i j,i<n→FitR 700000 (at2 (cA m k).1 i j)
section
variable {n w:Nat} {M A:Nat→Nat→Rat} {k:Nat} {pv:List Nat} {π:Nat→Nat} {δ ε:Rat}
theorem RI.null(h:RI n M A k pv π δ ε){x:Nat→Rat}(hx:∀i,i<n→(sm w fun j=>A i j*x j)=0):∀i,i<n→(sm w fun j=>M i j*x j)=0:=by
 intro i hi;obtain⟨a,ha,rfl⟩:=h.prm.onto i hi;have e:(sm w fun j=>M (π a) j*x j)=(sm pv.length fun t=>M (π a) (pv.getD t 0)*sm w fun j=>A t j*x j)+(if a<pv.length then 0 else sm w fun j=>A a j*x j):=by
  have e1:∀t,M (π a) (pv.getD t 0)*(sm w fun j=>A t j*x j)=sm w fun j=>M (π a) (pv.getD t 0)*(A t j*x j):=fun t=>by rw[kJ]
  simp only[e1];rw[uK];by_cases hr:a<pv.length
  ·rw[if_pos hr,Rat.add_zero];refine bF _ fun j _=>?_;rw[h.back a j ha,if_pos hr,Rat.add_zero,Rat.mul_comm,←kJ];exact bF _ fun t _=>by grind
  ·rw[if_neg hr,←sL];refine bF _ fun j _=>?_;rw[h.back a j ha,if_neg hr,Rat.add_mul,Rat.mul_comm (sm _ _),←kJ];congr 1;exact bF _ fun t _=>by grind
 rw[e,fQ pv.length fun t ht=>by rw[hx t (by have:=h.few;omega)];grind];split
 ·grind
 ·rw[hx a ha];grind
theorem RI.piv_ge(h:RI n M A k pv π δ ε):∀t,t<pv.length→t≤pv.getD t 0
 |0,_=>Nat.zero_le _
 |t+1,ht=>by
  have h1:=h.piv_ge t (by omega);have h2:=h.inc t (t+1) (by omega) ht;omega
theorem RI.piv_id(h:RI n M A w pv π δ ε)(hl:pv.length=w):∀t,t<w→pv.getD t 0=t:=by
 have key:∀d t,t+d+1=w→pv.getD t 0=t:=by
  intro d;induction d with
  |zero=>
   intro t ht;have h1:=h.piv_ge t (by omega);have h2:=h.lt t (by omega);omega
  |succ d ih=>
   intro t ht;have h1:=h.piv_ge t (by omega);have h2:=ih (t+1) (by omega);have h3:=h.inc t (t+1) (by omega) (by omega);omega
 intro t ht;exact key (w-t-1) t (by omega)
end
theorem getD_take_{α:Type}(r:List α){k c:Nat}(h:k<c)(d:α):(r.take c).getD k d=r.getD k d:=by
 rw[gD,List.getElem?_take,if_pos h,gD]
theorem lI{α β:Type}(f:List α→List β)(hf:f []=[])(m:List (List α))(i:Nat):(m.map f).getD i []=f (m.getD i []):=by
 rw[gD,List.getElem?_map,gD];cases m[i]? with
 |none=>exact hf.symm
 |some x=>rfl
theorem aTd(m:MQ){c k:Nat}(h:k<c)(i:Nat):at2 (m.map fun r=>r.take c) i k=at2 m i k:=by
 unfold at2;rw[lI (fun r=>r.take c) (by simp) m i,getD_take_ _ h]
theorem aAg{k c:Nat}(h:k<c):∀(l:List (List Rat)) (p:Nat),nzAt k (l.map fun r=>r.take c) p=nzAt k l p
 |[],_=>rfl
 |r::l,p=>by rw[List.map_cons,nzAt,nzAt,getD_take_ r h,aAg h l]
theorem aHr(k:Nat)(d:Rat)(r:List Rat)(c:Nat):nR k d (r.take c)=(nR k d r).take c:=by
 apply List.ext_getElem?;intro j;unfold nR;rw[List.getElem?_mapIdx,List.getElem?_take,List.getElem?_take,List.getElem?_mapIdx];by_cases hj:j<c
 ·rw[if_pos hj,if_pos hj]
 ·rw[if_neg hj,if_neg hj];rfl
theorem aHs{k c:Nat}(h:k<c)(pr r:List Rat):jS k (pr.take c) (r.take c)=(jS k pr r).take c:=by
 apply List.ext_getElem?;intro j;unfold jS;rw[List.getElem?_mapIdx,List.getElem?_take,List.getElem?_take,List.getElem?_mapIdx];by_cases hj:j<c
 ·rw[if_pos hj,if_pos hj,getD_take_ r h,getD_take_ pr hj]
 ·rw[if_neg hj,if_neg hj];rfl
theorem aTe(m:MQ)(r p c:Nat):swQ (m.map fun x=>x.take c) r p=(swQ m r p).map fun x=>x.take c:=by
 unfold swQ;rw[lI (fun x=>x.take c) (by simp),lI (fun x=>x.take c) (by simp),List.map_set,List.map_set]
theorem xD(m:MQ)(r:Nat){k c:Nat}(h:k<c):iN (m.map fun x=>x.take c) r k=(iN m r k).take c:=by
 unfold iN;rw[aTd m h,lI (fun x=>x.take c) (by simp),aHr]
theorem aTf(m:MQ)(r:Nat){k c:Nat}(h:k<c):pvQ (m.map fun x=>x.take c) r k=(pvQ m r k).map fun x=>x.take c:=by
 apply List.ext_getElem?;intro i;unfold pvQ;rw[List.getElem?_mapIdx,List.getElem?_map,List.getElem?_map,List.getElem?_mapIdx];cases m[i]? with
 |none=>rfl
 |some x=>
  simp only[Option.map_some];congr 1;by_cases e:i=r
  ·rw[if_pos e,if_pos e,xD m r h]
  ·rw[if_neg e,if_neg e,xD m r h,aHs h]
theorem aTg(m:MQ)(c:Nat):∀k,k≤c→cA (m.map fun x=>x.take c) k=((cA m k).1.map (fun x=>x.take c),(cA m k).2)
 |0,_=>rfl
 |k+1,h=>by
  rw[cA,cA,aTg m c k (by omega)];unfold tP;simp only;rw[List.length_map,←List.map_drop,aAg (by omega)];split
  ·rfl
  ·rw[aTe,aTf _ _ (by omega)]
theorem aTh(s:MQ×List Nat)(k:Nat):(tP s k).2=s.2∨(tP s k).2=s.2++[k]:=by
 unfold tP;split
 ·exact .inl rfl
 ·exact .inr rfl
theorem aNj{s:MQ×List Nat}(h:s.2.length=s.1.length)(k:Nat):tP s k=s:=by
 unfold tP;rw[List.drop_of_length_le (by omega),nzAt,if_pos (by omega)]
theorem aAh{m:MQ}{n w:Nat}(hm:Rect m n w){k:Nat}(h:(cA m k).2.length=n):∀d,cA m (k+d)=cA m k
 |0=>rfl
 |d+1=>by
  rw[←Nat.add_assoc,cA,aAh hm h d];exact aNj (by rw[h,(gM hm k).rect.1]) _
theorem aZm{m:MQ}{n w:Nat}(hm:Rect m n w)(k:Nat):∀p∈(cA m k).2,p<k:=fun p hp=>by
 obtain⟨π,δ,ε,hI⟩:=(gM hm k).inv;obtain⟨t,ht,e⟩:=List.mem_iff_getElem.1 hp;have:=hI.lt t ht;rw[gD,gE ht,Option.getD_some,e]at this;exact this
def pD(pv:List Nat)(w:Nat):List Nat:=(List.range w).filter fun k=> !pv.contains k
theorem pU(pv:List Nat)(w:Nat):pD pv (w+1)=pD pv w++if pv.contains w=true then[]else[w]:=by
 unfold pD;rw[List.range_succ,List.filter_append];congr 1;by_cases h:pv.contains w=true
 ·rw[if_pos h,List.filter_cons_of_neg (by rw[h];decide)];rfl
 ·rw[if_neg h,List.filter_cons_of_pos (by simpa using h)];rfl
theorem xE(pv:List Nat)(w:Nat):∀k,k≤w→pD (pv++[w]) k=pD pv k
 |0,_=>rfl
 |k+1,h=>by
  rw[pU,pU,xE pv w k (by omega)];congr 1;have e:(pv++[w]).contains k=pv.contains k:=by
   rw[Bool.eq_iff_iff,List.contains_iff_mem,List.contains_iff_mem,List.mem_append];constructor
   ·rintro(h1|h1)
    ·exact h1
    ·simp at h1;omega
   ·exact .inl
  rw[e]
theorem aAi{m:MQ}{n w:Nat}(hm:Rect m n w):∀k,(pD (cA m k).2 k).length+(cA m k).2.length=k
 |0=>rfl
 |k+1=>by
  have ih:=aAi hm k;rw[pU,List.length_append];rcases aTh (cA m k) k with h|h
  ·have e:(cA m (k+1)).2=(cA m k).2:=h;rw[e];have hk:¬((cA m k).2.contains k=true):=fun hc=>by
    have:=aZm hm k k (List.contains_iff_mem.1 hc);omega
   rw[if_neg hk];simp only[List.length_cons,List.length_nil];omega
  ·have e:(cA m (k+1)).2=(cA m k).2++[k]:=h;rw[e,xE _ _ _ lR,if_pos (by simp),List.length_append];simp only[List.length_cons,List.length_nil];omega
theorem aNk{pv:List Nat}{w f:Nat}:f∈pD pv w↔f<w∧f∉pv:=by
 unfold pD;rw[List.mem_filter,List.mem_range];simp
def nS(A:MQ)(pv:List Nat)(w f:Nat):Nat→List Rat
 |0=>(List.replicate w 0).set f 1
 |t+1=>(nS A pv w f t).set (pv.getD t 0) (-(at2 A t f))
theorem aFg(A:MQ)(pv:List Nat)(w f:Nat):∀t,(nS A pv w f t).length=w
 |0=>by simp[nS]
 |t+1=>by rw[nS,List.length_set,aFg A pv w f t]
theorem fY{α:Type}(l:List α)(i j:Nat)(x d:α):(l.set i x).getD j d=if i=j∧j<l.length then x else l.getD j d:=by
 rw[gD,List.getElem?_set,gD];by_cases h:i=j
 ·by_cases h2:j<l.length
  ·rw[if_pos h,if_pos (by omega),if_pos ⟨h,h2⟩];rfl
  ·rw[if_pos h,if_neg (by omega),if_neg (fun k=>h2 k.2),List.getElem?_eq_none (by omega)]
 ·rw[if_neg h,if_neg (fun k=>h k.1)]
section
variable {n w:Nat} {M:Nat→Nat→Rat} {A:MQ} {pv:List Nat} {π:Nat→Nat} {δ ε:Rat}
theorem sN(h:RI n M (at2 A) w pv π δ ε){f:Nat}(hf:f<w)(hp:f∉pv):∀t,t≤pv.length→(nS A pv w f t).getD f 0=1
 |0,_=>by rw[nS,fY,if_pos ⟨rfl,by simpa using hf⟩]
 |t+1,ht=>by
  rw[nS,fY,if_neg (fun k=>hp (by
   rw[←k.1,gD,gE (by omega)];exact List.getElem_mem _)),sN h hf hp t (by omega)]
theorem xF{f j:Nat}(hj:j≠f):∀t,(∀u,u<t→pv.getD u 0≠j)→(nS A pv w f t).getD j 0=0
 |0,_=>by
  rw[nS,fY,if_neg (fun k=>hj k.1.symm),gD,List.getElem?_replicate];split<;>rfl
 |t+1,h=>by rw[nS,fY,if_neg (fun k=>h t (by omega) k.1),xF hj t fun u hu=>h u (by omega)]
theorem RI.distinct(h:RI n M (at2 A) w pv π δ ε){t u:Nat}(ht:t<pv.length)(hu:u<pv.length)(he:pv.getD t 0=pv.getD u 0):t=u:=by
 rcases Nat.lt_trichotomy t u with h1|h1|h1
 ·have:=h.inc t u h1 hu;omega
 ·exact h1
 ·have:=h.inc u t h1 ht;omega
theorem aFh(h:RI n M (at2 A) w pv π δ ε){f u:Nat}:∀t,t≤pv.length→u<t→(nS A pv w f t).getD (pv.getD u 0) 0=-(at2 A u f)
 |0,_,hu=>by omega
 |t+1,ht,hu=>by
  rw[nS,fY];by_cases e:u=t
  ·subst e;rw[if_pos ⟨rfl,by rw[aFg];exact h.lt u (by omega)⟩]
  ·rw[if_neg (fun k=>e (h.distinct (by omega) (by omega) k.1.symm)),aFh h t (by omega) (by omega)]
theorem aNl(h:RI n M (at2 A) w pv π δ ε){f:Nat}(hf:f<w)(hp:f∉pv):∀i,i<n→(sm w fun j=>M i j*(nS A pv w f pv.length).getD j 0)=0:=by
 refine h.null fun i hi=>?_;have hfp:∀u,u<pv.length→pv.getD u 0≠f:=fun u hu e=>hp (by
  rw[←e,gD,gE hu];exact List.getElem_mem _)
 by_cases hir:i<pv.length
 ·have hz:∀j,j<w→j≠f→j≠pv.getD i 0→at2 A i j*(nS A pv w f pv.length).getD j 0=0:=fun j _ hj1 hj2=>by
   by_cases e:∃u,u<pv.length∧pv.getD u 0=j
   ·obtain⟨u,hu,rfl⟩:=e;rw[h.unit u i hu hi,if_neg (fun e=>hj2 (by rw[e]))];grind
   ·rw[xF hj1 pv.length fun u hu he=>e ⟨u,hu,he⟩];grind
  have hpw:=h.lt i hir;have hpf:=hfp i hir;have e1:at2 A i f*(nS A pv w f pv.length).getD f 0=at2 A i f:=by rw[sN h hf hp _ lR,Rat.mul_one]
  have e2:at2 A i (pv.getD i 0)*(nS A pv w f pv.length).getD (pv.getD i 0) 0=-(at2 A i f):=by
   rw[aFh h pv.length lR hir,h.unit i i hir hi,if_pos rfl,Rat.one_mul]
  rcases Nat.lt_or_gt_of_ne hpf with h1|h1
  ·rw[aCf (pv.getD i 0) f h1 w hf fun j hj a b=>hz j hj b a,e1,e2];grind
  ·rw[aCf f (pv.getD i 0) h1 w hpw fun j hj a b=>hz j hj a b,e1,e2];grind
 ·exact fQ w fun j hj=>by rw[h.low i j (by omega) hi hj];grind
end
def scP(k j:Nat)(d:Rat)(r:List Rat):List Rat:=r.mapIdx fun i x=>if k≤i∧i<j then x/d else x
theorem lJ{α:Type}(r:List α)(f:Nat→α→α)(h:∀i x,r[i]?=some x→f i x=x):r.mapIdx f=r:=by
 apply List.ext_getElem?;intro i;rw[List.getElem?_mapIdx];cases e:r[i]? with
 |none=>rfl
 |some x=>show some (f i x)=some x;rw[h i x e]
theorem aKk(k j:Nat)(d:Rat)(r:List Rat):(scP k j d r).length=r.length:=List.length_mapIdx
theorem aNm(k:Nat)(d:Rat)(r:List Rat):scP k k d r=r:=lJ r _ fun i x _=>if_neg (by omega)
theorem aWw(k:Nat)(d:Rat)(r:List Rat):scP k r.length d r=nR k d r:=by
 apply List.ext_getElem?;intro i;unfold scP nR;rw[List.getElem?_mapIdx,List.getElem?_mapIdx];cases e:r[i]? with
 |none=>rfl
 |some x=>
  have hi:=(List.getElem?_eq_some_iff.1 e).1;simp only[Option.map_some];by_cases hk:k≤i
  ·rw[if_pos ⟨hk,hi⟩,if_pos hk]
  ·rw[if_neg (fun h=>hk h.1),if_neg hk]
theorem aZn(k j:Nat)(d:Rat)(r:List Rat)(i:Nat)(hi:j≤i):(scP k j d r).getD i 0=r.getD i 0:=by
 unfold scP;by_cases h:i<r.length
 ·rw[dM r _ i 0 0 h,if_neg (by omega)]
 ·rw[eU _ _ _ _ (by omega),mH r i 0 (by omega)]
theorem aWx{k j:Nat}(d:Rat)(r:List Rat)(hk:k≤j)(hj:j<r.length):(scP k j d r).set j (r.getD j 0/d)=scP k (j+1) d r:=by
 apply List.ext_getElem?;intro i;unfold scP;rw[List.getElem?_set,List.getElem?_mapIdx,List.getElem?_mapIdx,List.length_mapIdx];by_cases e:j=i
 ·subst e;rw[if_pos rfl,if_pos hj,gE hj,gD,gE hj];simp only[Option.map_some];rw[if_pos ⟨hk,by omega⟩];rfl
 ·rw[if_neg e];cases r[i]? with
  |none=>rfl
  |some x=>
   simp only[Option.map_some];by_cases h:k≤i∧i<j
   ·rw[if_pos h,if_pos ⟨h.1,by omega⟩]
   ·rw[if_neg h,if_neg (by omega)]
def elP(k j:Nat)(f:Rat)(pr r:List Rat):List Rat:=r.mapIdx fun i x=>if k≤i∧i<j then x-f*pr.getD i 0 else x
theorem aWy(k j:Nat)(f:Rat)(pr r:List Rat):(elP k j f pr r).length=r.length:=List.length_mapIdx
theorem aNn(k:Nat)(f:Rat)(pr r:List Rat):elP k k f pr r=r:=lJ r _ fun i x _=>if_neg (by omega)
theorem aWz(k:Nat)(pr r:List Rat):elP k r.length (r.getD k 0) pr r=jS k pr r:=by
 apply List.ext_getElem?;intro i;unfold elP jS;rw[List.getElem?_mapIdx,List.getElem?_mapIdx];cases e:r[i]? with
 |none=>rfl
 |some x=>
  have hi:=(List.getElem?_eq_some_iff.1 e).1;simp only[Option.map_some];by_cases hk:k≤i
  ·rw[if_pos ⟨hk,hi⟩,if_pos hk]
  ·rw[if_neg (fun h=>hk h.1),if_neg hk]
theorem aZo(k j:Nat)(f:Rat)(pr r:List Rat)(i:Nat)(hi:j≤i):(elP k j f pr r).getD i 0=r.getD i 0:=by
 unfold elP;by_cases h:i<r.length
 ·rw[dM r _ i 0 0 h,if_neg (by omega)]
 ·rw[eU _ _ _ _ (by omega),mH r i 0 (by omega)]
theorem aXa{k j:Nat}(f:Rat)(pr r:List Rat)(hk:k≤j)(hj:j<r.length):(elP k j f pr r).set j (r.getD j 0-f*pr.getD j 0)=elP k (j+1) f pr r:=by
 apply List.ext_getElem?;intro i;unfold elP;rw[List.getElem?_set,List.getElem?_mapIdx,List.getElem?_mapIdx,List.length_mapIdx];by_cases e:j=i
 ·subst e;rw[if_pos rfl,if_pos hj,gE hj,gD,gE hj];simp only[Option.map_some];rw[if_pos ⟨hk,by omega⟩];rfl
 ·rw[if_neg e];cases r[i]? with
  |none=>rfl
  |some x=>
   simp only[Option.map_some];by_cases h:k≤i∧i<j
   ·rw[if_pos h,if_pos ⟨h.1,by omega⟩]
   ·rw[if_neg h,if_neg (by omega)]
theorem aTi{k j:Nat}(f:Rat)(pr r:List Rat)(h0:pr.getD j 0=0):elP k (j+1) f pr r=elP k j f pr r:=by
 apply List.ext_getElem?;intro i;unfold elP;rw[List.getElem?_mapIdx,List.getElem?_mapIdx];cases r[i]? with
 |none=>rfl
 |some x=>
  simp only[Option.map_some];by_cases h:k≤i∧i<j
  ·rw[if_pos h,if_pos ⟨h.1,by omega⟩]
  ·rw[if_neg h];by_cases e:i=j
   ·subst e;by_cases hk:k≤i
    ·rw[if_pos ⟨hk,by omega⟩,h0];congr 1;grind
    ·rw[if_neg (fun h=>hk h.1)]
   ·rw[if_neg (by omega)]
def elM(k:Nat)(pr:List Rat)(rr i:Nat)(m:MQ):MQ:=m.mapIdx fun a row=>if a<i∧a≠rr then jS k pr row else row
theorem aXb(k:Nat)(pr:List Rat)(rr i:Nat)(m:MQ):(elM k pr rr i m).length=m.length:=List.length_mapIdx
theorem aNo(k:Nat)(pr:List Rat)(rr:Nat)(m:MQ):elM k pr rr 0 m=m:=lJ m _ fun a x _=>if_neg (by omega)
theorem aKl(k:Nat)(pr:List Rat)(rr i:Nat)(m:MQ)(a:Nat)(ha:i≤a∨a=rr):(elM k pr rr i m).getD a []=m.getD a []:=by
 unfold elM;by_cases h:a<m.length
 ·rw[dM m _ a [] [] h,if_neg (by omega)]
 ·rw[eU _ _ _ _ (by omega),mH m a [] (by omega)]
theorem aHt{k:Nat}{pr r:List Rat}(h0:r.getD k 0=0):jS k pr r=r:=by
 unfold jS;rw[h0];refine lJ r _ fun i x _=>?_;split
 ·grind
 ·rfl
theorem aXc{k:Nat}(pr:List Rat){rr i:Nat}(m:MQ)(hi:i<m.length)(hr:i≠rr):(elM k pr rr i m).set i (jS k pr (m.getD i []))=elM k pr rr (i+1) m:=by
 apply List.ext_getElem?;intro a;unfold elM;rw[List.getElem?_set,List.getElem?_mapIdx,List.getElem?_mapIdx,List.length_mapIdx];by_cases e:i=a
 ·subst e;rw[if_pos rfl,if_pos hi,gE hi,gD,gE hi];simp only[Option.map_some];rw[if_pos ⟨by omega,hr⟩];rfl
 ·rw[if_neg e];cases m[a]? with
  |none=>rfl
  |some x=>
   simp only[Option.map_some];by_cases h:a<i∧a≠rr
   ·rw[if_pos h,if_pos ⟨by omega,h.2⟩]
   ·rw[if_neg h,if_neg (by omega)]
theorem aFi{k:Nat}(pr:List Rat){rr i:Nat}(m:MQ)(h:i=rr∨(m.getD i []).getD k 0=0):elM k pr rr (i+1) m=elM k pr rr i m:=by
 apply List.ext_getElem?;intro a;unfold elM;rw[List.getElem?_mapIdx,List.getElem?_mapIdx];cases e:m[a]? with
 |none=>rfl
 |some x=>
  simp only[Option.map_some];by_cases h1:a<i∧a≠rr
  ·rw[if_pos h1,if_pos ⟨by omega,h1.2⟩]
  ·rw[if_neg h1];by_cases h2:a=i∧a≠rr
   ·obtain⟨rfl,h3⟩:=h2;rw[if_pos ⟨by omega,h3⟩];rcases h with h|h
    ·exact absurd h h3
    ·have hx:m.getD a []=x:=by rw[gD,e];rfl
     rw[hx]at h;rw[aHt h]
   ·rw[if_neg (by omega)]
theorem aXd{k rr:Nat}(m:MQ)(hr:rr<m.length):elM k (iN m rr k) rr m.length (m.set rr (iN m rr k))=pvQ m rr k:=by
 apply List.ext_getElem?;intro a;unfold elM pvQ;rw[List.getElem?_mapIdx,List.getElem?_mapIdx,List.getElem?_set];by_cases e:rr=a
 ·subst e;rw[if_pos rfl,if_pos hr,gE hr];simp only[Option.map_some];rw[if_neg (fun h=>h.2 rfl),if_pos trivial]
 ·rw[if_neg e];cases e2:m[a]? with
  |none=>rfl
  |some x=>
   have ha:=(List.getElem?_eq_some_iff.1 e2).1;simp only[Option.map_some];rw[if_pos ⟨ha,Ne.symm e⟩,if_neg (Ne.symm e)]
theorem pE{α:Type}(l:List (List α))(i:Nat):l.set i (l.getD i [])=l:=by
 apply List.ext_getElem?;intro a;rw[List.getElem?_set];by_cases e:i=a
 ·subst e;rw[if_pos rfl,gD];by_cases h:i<l.length
  ·rw[if_pos h,gE h];rfl
  ·rw[if_neg h,List.getElem?_eq_none (by omega)]
 ·rw[if_neg e]
theorem aNp{k p:Nat}{A:MQ}(hp:p<A.length):nzAt k (A.drop p) p=if at2 A p k=0 then nzAt k (A.drop (p+1)) (p+1)else p:=by
 rw[List.drop_eq_getElem_cons hp,nzAt];have hx:A.getD p []=A[p]:=by rw[gD,gE hp];rfl
 have e:at2 A p k=(A[p]).getD k 0:=by unfold at2;rw[hx]
 rw[e]
theorem aTj{k:Nat}{A:MQ}:nzAt k (A.drop A.length) A.length=A.length:=by rw[List.drop_of_length_le lR,nzAt]
def dQ(m:MQ)(n:Nat):MQ:=m.mapIdx fun i r=>r++(List.replicate n 0).set i 1
theorem aCl{l:List Rat}(h:l.all bK=true):txV l=(l.map aQ,0):=if_pos h
theorem xG{l:List Rat}(h:l.all bK=true)(hl:l.length≤40):jV (l.map aQ)=0∧kD (l.map aQ)=l:=by
 rw[List.all_eq_true]at h;refine⟨aSe (by rw[List.length_map];exact hl) fun s hs=>?_,?_⟩
 ·obtain⟨q,hq,rfl⟩:=List.mem_map.1 hs;exact(qX q (h q hq)).1
 ·unfold kD;rw[List.map_map]
  conv => rhs; rw [← List.map_id l]
  exact List.map_congr_left fun q hq => (qX q (h q hq)).2
theorem rC(m:MQ)(n:Nat):(dQ m n).length=m.length:=List.length_mapIdx
theorem fZ{m:MQ}{n:Nat}(h:Rect m n n):Rect (dQ m n) n (n+n):=by
 refine⟨by rw[rC,h.1],fun r hr=>?_⟩;obtain⟨i,hi,rfl⟩:=List.mem_mapIdx.1 hr;rw[List.length_append,h.2 _ (List.getElem_mem hi),List.length_set,List.length_replicate]
theorem aTk{m:MQ}{n:Nat}(h:Rect m n n){i:Nat}(hi:i<n):(dQ m n).getD i []=m.getD i []++(List.replicate n 0).set i 1:=by
 unfold dQ;rw[dM m _ i [] [] (by rw[h.1];exact hi)]
theorem aXe(n i j:Nat)(hi:i<n):((List.replicate n (0:Rat)).set i 1).getD j 0=if i=j then 1 else 0:=by
 rw[fY,List.length_replicate];by_cases e:i=j
 ·rw[if_pos ⟨e,by omega⟩,if_pos e]
 ·rw[if_neg fun h=>e h.1,if_neg e,gD,List.getElem?_replicate];split<;>rfl
theorem rD{m:MQ}{n:Nat}(h:Rect m n n){i j:Nat}(hi:i<n):at2 (dQ m n) i j=if j<n then at2 m i j else if i=j-n then 1 else 0:=by
 have hl:=dX h hi;unfold at2;rw[aTk h hi,gD,List.getElem?_append,hl];by_cases e:j<n
 ·rw[if_pos e,if_pos e,←gD]
 ·rw[if_neg e,if_neg e,←gD,aXe n i _ hi]
def yJ(m:MQ)(n:Nat):MQ:=(cA (dQ m n) n).1.map fun r=>r.drop n
theorem aTl{m:MQ}{n:Nat}(h:Rect m n n):Rect (yJ m n) n n:=by
 have hR:=(gM (fZ h) n).rect;refine⟨by rw[yJ,List.length_map,hR.1],fun r hr=>?_⟩;obtain⟨s,hs,rfl⟩:=List.mem_map.1 hr;rw[List.length_drop,hR.2 s hs];omega
theorem aKm{m:MQ}{n:Nat}(i j:Nat):at2 (yJ m n) i j=at2 (cA (dQ m n) n).1 i (n+j):=by
 unfold at2 yJ;rw[lI (fun r:List Rat=>r.drop n) (by simp),pT]
theorem aKn{m:MQ}{n:Nat}(h:Rect m n n):(cA (dQ m n) n).2.length<n↔det n (at2 m)=0:=by
 obtain⟨π,δ,ε,hI⟩:=(gM (fZ h) n).inv;have h1:=hI.minor n (fun X=>det n fun i j=>X i j) id hI.few (nQ n id) (fun _ _=>rfl) (fun i hi=>hi) (fun i j _ _ e=>e);have h2:=hI.sign (fun X=>det n fun i j=>X i j) (at2 (dQ m n)) (nQ n id);simp only[id]at h1 h2;have h3:det n (fun i j=>at2 (dQ m n) i j)=det n (at2 m):=dK n fun i j hi hj=>by rw[rD h hi,if_pos hj]
 rw[h2,h3]at h1;constructor
 ·intro hl;have h4:det n (fun i j=>at2 (cA (dQ m n) n).1 i j)=0:=by
   rw[dK (B:=fun i j=>if i=(cA (dQ m n) n).2.length then 0 else at2 (cA (dQ m n) n).1 i j) n fun i j hi hj=>?_]
   ·exact mB hl fun j=>if_pos rfl
   ·by_cases e:i=(cA (dQ m n) n).2.length
    ·rw[if_pos e,e];exact hI.low _ _ lR hl hj
    ·rw[if_neg e]
  rw[h4,Rat.mul_zero]at h1;exact(Rat.mul_eq_zero.1 h1).resolve_left hI.ene
 ·intro hd;have hfew:=hI.few;rcases Nat.lt_or_ge (cA (dQ m n) n).2.length n with hl|hl
  ·exact hl
  ·exfalso;have hid:=hI.piv_id (show _=n by omega);have h4:det n (fun i j=>at2 (cA (dQ m n) n).1 i j)=1:=by
    rw[←aHo n];refine dK n fun i j hi hj=>?_;have:=hI.unit j i (by omega) hi;rw[hid j hj]at this;exact this
   rw[h4,hd,Rat.mul_zero,Rat.mul_one]at h1;exact hI.dne h1.symm
theorem aTm{m:MQ}{n:Nat}(h:Rect m n n)(hf:¬(cA (dQ m n) n).2.length<n):aEz m (yJ m n) n=idQ n:=by
 obtain⟨π,δ,ε,hI⟩:=(gM (fZ h) n).inv;have hfew:=hI.few;have hl:(cA (dQ m n) n).2.length=n:=by omega
 have hid:=hI.piv_id hl;refine aWo (aSc _ h.1) (aWp n) fun i j hi hj=>?_;rw[aJy h hi hj,aHp hi hj];obtain⟨a,ha,rfl⟩:=hI.prm.onto i hi;have h1:=hI.back a (n+j) ha;rw[hl,if_pos ha,rD h hi,if_neg (by omega),show n+j-n=j by omega,Rat.add_zero]at h1;rw[h1];refine bF n fun t ht=>?_;rw[hid t ht,rD h hi,if_pos ht,aKm]
theorem aHu{n:Nat}{M:Nat→Nat→Rat}(hd:det n M≠0){x:Nat→Rat}(hx:∀i,i<n→(sm n fun k=>M i k*x k)=0):∀i,i<n→x i=0:=by
 intro i hi;rcases Decidable.em (x i=0)with h|h
 ·exact h
 ·exfalso;apply hd;rw[←aCk];refine aWu (y:=x) hi h fun j hj=>?_;rw[←hx j hj];exact bF n fun k _=>by rw[Rat.mul_comm]
end Go.Proofs.YtenbglfkdldheaaGreatDoor
