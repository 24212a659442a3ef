/- shiftFact. Transfers: by how much flows grow is linear; the sizes; the plain law of ShiftBack. Plain facts. Bridges, and the islands of a network without one branch: the plain law of ShiftBridges. -/
import Derived.Test.YtenbglfkdldheaaGreatDoorYXE
namespace Go.Proofs.YtenbglfkdldheaaGreatDoor
section
open Go.RowKit
end
section
theorem aMa(u v nb:Nat):(gr0 u v nb).length=nb:=by simp[gr0]
theorem aUr{u v nb:Nat}{j:Nat}(hj:j<nb)(_hu:u<nb)(hv:v<nb):(gr0 u v nb).getD j 0=(if u=j then 1 else 0)-(if v=j then 1 else 0):=by
 have h1:∀x,x<nb→((List.replicate nb (0:Rat)).set u ((List.replicate nb (0:Rat)).getD u 0+1)).getD x 0=if u=x then 1 else 0:=fun x hx=>by
  rw[cW,rW,rW,List.length_replicate];by_cases e:u=x
  ·rw[if_pos ⟨e,hx⟩,if_pos e];grind
  ·rw[if_neg (fun h=>e h.1),if_neg e]
 unfold gr0;rw[cW,h1 v hv,h1 j hj,List.length_set,List.length_replicate];by_cases e:v=j
 ·subst e;rw[if_pos ⟨rfl,hv⟩,if_pos rfl]
 ·rw[if_neg (fun h=>e h.1),if_neg e];grind
theorem aUs(k:Rat)(x a:List Rat):mA x (gM k a)=k*mA x a:=by
 unfold mA;rw[←kK];exact aT _ fun i _=>by rw[kZ];grind
theorem aPi(k:Rat)(free:List Int)(a:List Rat):bO free (gM k a)=gM k (bO free a):=by
 refine kE (by simp[gM,bO]) fun j hj=>?_;have hj:j<free.length:=by simpa[bO]using hj
 rw[kZ,gW hj,gW hj,kZ]
theorem aMb(n:NetD)(k:Rat)(a:List Rat):thN n (gM k a)=gM k (thN n a):=by
 refine kE (by simp[gM,cX]) fun j _=>?_;rw[kZ,iX,iX];unfold dF xN;split
 ·rw[aPi,aUs]
 ·grind
theorem bAw{frm tu:List Int}{B th:List Rat}{k i:Nat}(hi:i<k):(grK frm tu B th k).getD i 0=aRa frm tu B th i:=by
 unfold grK;rw[gD,List.getElem?_map,List.getElem?_range hi];rfl
theorem aPj{n:NetD}(h:VNet n)(hb:n.branches.length≤10){u v:Nat}(hu:u<nbN n)(hv:v<nbN n):Small n (gr0 u v (nbN n)):=fun i=>by
 have hK:IB (10^3) (1000:Rat):=⟨1000,rfl,by decide⟩;have hx:IB (10^1) ((gr0 u v (nbN n)).getD i 0):=by
  by_cases hi:i<nbN n
  ·rw[aUr hi hu hv];have h1:∀p:Prop,∀[Decidable p],IB 1 (if p then(1:Rat)else 0):=fun p _=>by
    split
    ·exact⟨1,rfl,by decide⟩
    ·exact IB.zero _
   exact((h1 _).sub (h1 _)).mono (by decide)
  ·rw[gD,List.getElem?_eq_none (by rw[aMa];omega)];exact IB.zero _
 exact IB.ten (k:=3+(80+1)) (eG hK (eG (aKs h hb) hx)) (by omega)
theorem rG{l:List (Int×Int)}(k:Nat){j:Int}(h:0≤j):bM (l.eraseIdx k) j=bM l (if j<k then j else j+1):=by
 obtain⟨m,rfl⟩:∃m:Nat,j=m:=Int.eq_ofNat_of_zero_le h;simp only[bM,gD,List.getElem?_eraseIdx,Int.toNat_natCast];by_cases e:m<k
 ·rw[if_pos e,if_pos (by omega),Int.toNat_natCast]
 ·rw[if_neg e,if_neg (by omega),show((m:Int)+1).toNat=m+1 by omega]
theorem aJm{l:List (Int×Int)}{k:Nat}(hk:k<l.length)(u v:Int):Conn (l.eraseIdx k) (But (l.eraseIdx k) (-1)) u v↔Conn l (But l k) u v:=by
 have hl:(l.eraseIdx k).length+1=l.length:=by rw[List.length_eraseIdx_of_lt hk];omega
 constructor
 ·refine fun h=>h.carry fun j hj=>?_;obtain⟨h1,h2,-⟩:=hj;refine⟨if j<k then j else j+1,?_,rG k h1⟩;split
  ·exact⟨h1,by omega,by omega⟩
  ·exact⟨by omega,by omega,by omega⟩
 ·refine fun h=>h.carry fun j hj=>?_;obtain⟨h1,h2,h3⟩:=hj;by_cases e:j<k
  ·refine⟨j,⟨h1,by omega,by omega⟩,?_⟩;rw[rG k h1,if_pos e]
  ·refine⟨j-1,⟨by omega,by omega,by omega⟩,?_⟩;rw[rG k (by omega),if_neg (by omega),Int.sub_add_cancel]
theorem uA{α β:Type}(f:α→β)(l:List α)(k:Nat):(l.eraseIdx k).map f=(l.map f).eraseIdx k:=by
 apply List.ext_getElem?;intro i;rw[List.getElem?_map,List.getElem?_eraseIdx,List.getElem?_eraseIdx,List.getElem?_map,List.getElem?_map];split<;>rfl
theorem aPk(n:NetD)(k:Nat):aP (fD n k)=(aP n).eraseIdx k:=by
 exact uA _ n.branches k
theorem aPl{n:NetD}(hc:bI n=0){k:Nat}(hk:k<n.branches.length):aB (fD n k)=parts (gA (aF n)).toNat (aP n) k:=by
 have hV:=lD hc;have hW:=lD (eJ hc k);have he:=fO hW;rw[xB hW];refine xA he (fO hV) fun u v=>?_;rw[aPk];exact aJm (by simpa[aP]using hk) u v
theorem aUt{n:NetD}{k:Nat}(hk:k<n.branches.length):(aP n).getD k (0,0)=((aW n).getD k 0,(toL n).getD k 0):=by
 simp[aP,aW,toL,hk,aK]
end
end Go.Proofs.YtenbglfkdldheaaGreatDoor
