/- shiftFact. Transfers: by how much flows grow is linear; the sizes; the plain law of ShiftBack. Plain facts. Bridges, and the islands of a network without one branch: the plain law of ShiftBridges. -/
import Derived.Test.YtenbglfkdldheaaGreatDoorVXE
namespace Go.Proofs.YtenbglfkdldheaaGreatDoor
section
open Go.RowKit
end
section
theorem aTi(u v nb:Nat):(gr0 u v nb).length=nb:=by simp[gr0]
theorem aVr{u v nb:Nat}{j:Nat}(hj:j<nb)(_hu:u<nb)(hv:v<nb):(gr0 u v nb).getD j 0=(if u=j then 1 else 0)-(if v=j then 1 else 0):=by
 have h1:∀x,x<nb→((List.replicate nb (0:Rat)).set u ((List.replicate nb (0:Rat)).getD u 0+1)).getD x 0=if u=x then 1 else 0:=fun x hx=>by
  rw[dO,qV,qV,List.length_replicate];by_cases e:u=x
  ·rw[if_pos ⟨e,hx⟩,if_pos e];grind
  ·rw[if_neg (fun h=>e h.1),if_neg e]
 unfold gr0;rw[dO,h1 v hv,h1 j hj,List.length_set,List.length_replicate];by_cases e:v=j
 ·subst e;rw[if_pos ⟨rfl,hv⟩,if_pos rfl]
 ·rw[if_neg (fun h=>e h.1),if_neg e];grind
theorem aPz(k:Rat)(x a:List Rat):lG x (gL k a)=k*lG x a:=by
 unfold lG;rw[←lX];exact aV _ fun i _=>by rw[kM];grind
theorem aLc(k:Rat)(free:List Int)(a:List Rat):bN free (gL k a)=gL k (bN free a):=by
 refine jX (by simp[gL,bN]) fun j hj=>?_;have hj:j<free.length:=by simpa[bN]using hj
 rw[kM,jD hj,jD hj,kM]
theorem aIm(n:NetD)(k:Rat)(a:List Rat):thN n (gL k a)=gL k (thN n a):=by
 refine jX (by simp[gL,cV]) fun j _=>?_;rw[kM,jN,jN];unfold dF xN;split
 ·rw[aLc,aPz]
 ·grind
theorem pY{l:List (Int×Int)}(k:Nat){j:Int}(h:0≤j):bH (l.eraseIdx k) j=bH l (if j<k then j else j+1):=by
 obtain⟨m,rfl⟩:∃m:Nat,j=m:=Int.eq_ofNat_of_zero_le h;simp only[bH,gD,List.getElem?_eraseIdx,Int.toNat_natCast];by_cases e:m<k
 ·rw[if_pos e,if_pos (by omega),Int.toNat_natCast]
 ·rw[if_neg e,if_neg (by omega),show((m:Int)+1).toNat=m+1 by omega]
theorem aGh{l:List (Int×Int)}{k:Nat}(hk:k<l.length)(u v:Int):Conn (l.eraseIdx k) (But (l.eraseIdx k) (-1)) u v↔Conn l (But l k) u v:=by
 have hl:(l.eraseIdx k).length+1=l.length:=by rw[List.length_eraseIdx_of_lt hk];omega
 constructor
 ·refine fun h=>h.carry fun j hj=>?_;obtain⟨h1,h2,-⟩:=hj;refine⟨if j<k then j else j+1,?_,pY k h1⟩;split
  ·exact⟨h1,by omega,by omega⟩
  ·exact⟨by omega,by omega,by omega⟩
 ·refine fun h=>h.carry fun j hj=>?_;obtain⟨h1,h2,h3⟩:=hj;by_cases e:j<k
  ·refine⟨j,⟨h1,by omega,by omega⟩,?_⟩;rw[pY k h1,if_pos e]
  ·refine⟨j-1,⟨by omega,by omega,by omega⟩,?_⟩;rw[pY k (by omega),if_neg (by omega),Int.sub_add_cancel]
theorem sS{α β:Type}(f:α→β)(l:List α)(k:Nat):(l.eraseIdx k).map f=(l.map f).eraseIdx k:=by
 apply List.ext_getElem?;intro i;rw[List.getElem?_map,List.getElem?_eraseIdx,List.getElem?_eraseIdx,List.getElem?_map,List.getElem?_map];split<;>rfl
theorem aLd(n:NetD)(k:Nat):aQ (cD n k)=(aQ n).eraseIdx k:=by
 exact sS _ n.branches k
theorem aLe{n:NetD}(hc:aW n=0){k:Nat}(hk:k<n.branches.length):aB (cD n k)=parts (fX (aI n)).toNat (aQ n) k:=by
 have hV:=lE hc;have hW:=lE (fR hc k);have he:=fM hW;rw[vM hW];refine vL he (fM hV) fun u v=>?_;rw[aLd];exact aGh (by simpa[aQ]using hk) u v
theorem aQa{n:NetD}{k:Nat}(hk:k<n.branches.length):(aQ n).getD k (0,0)=((bB n).getD k 0,(toL n).getD k 0):=by
 simp[aQ,bB,toL,hk,aM]
end
end Go.Proofs.YtenbglfkdldheaaGreatDoor
