/- slices.Equal at vectors of texts, matrix.Same. flow.Verify. -/
import Derived.Test.YtenbglfkdldheaaGreatDoorUFK
set_option maxRecDepth 100000
set_option maxHeartbeats 1000000
namespace Go.Proofs.YtenbglfkdldheaaGreatDoor
open Go.RowKit
theorem aVi{x y:ByteArray}(h:x≠y):(x.toList==y.toList)=false:=(Lib.bytes_beq_false_iff x y).2 h
theorem lT(xs ys:List ByteArray)(n m:Nat)(A B:Option Addr)(c d:Nat)(w:World)(hx:Reads w w.heap.size 1 A n (xs.map Sv))(hy:Reads w w.heap.size 1 B m (ys.map Sv))(hn:n≤1000000): Calls Tryz.prog 29 #[.slice A n c,.slice B m d] w fun e w'=>e= .returned (.bool (decide (xs=ys)))∧Below w.heap.size w w':=by
 have hxl:xs.length=n:=by have:=hx.1;simpa using this
 have hyl:ys.length=m:=by have:=hy.1;simpa using this
 by_cases hl:n=m
 ·subst hl;have HX:=aH hx;have HY:=aH hy;have HXL:=aH hxl;have HYL:=aH hyl;clear hx hy hxl hyl;go_enter Tryz.func29,Tryz.ntmps29;go_wp2;go_loopg [13] (n-0) (fun r v wr=>∃k:Nat,r=n-k∧v=I k∧k≤n∧Hid (Below w.heap.size w wr)∧Hid (xs.take k=ys.take k));case atStart=>exact⟨0,rfl,rfl,by omega,Below.refl _ _,rfl⟩
  case round=>
   obtain⟨k,rfl,rfl,hk,HB,HO⟩:=hrel;obtain⟨wa,rfl⟩:=wE wr;by_cases hlt:k<n
   ·obtain⟨x,hx⟩:∃x,xs[k]?=some x:=⟨_,gE (by rw[HXL.out];exact hlt)⟩;obtain⟨y,hy⟩:∃y,ys[k]?=some y:=⟨_,gE (by rw[HYL.out];exact hlt)⟩;obtain⟨b1,o1,u,rfl,_,hu,hc⟩:=(HX.out.below HB.out).at1 hlt;obtain⟨b2,o2,v,rfl,_,hv,hd⟩:=(HY.out.below HB.out).at1 hlt;obtain rfl:u=Sv x:=by
     rw[List.getElem?_map,hx]at hu;simpa using hu.symm
    obtain rfl:v=Sv y:=by
     rw[List.getElem?_map,hy]at hv;simpa using hv.symm
    by_cases hxy:x=y
    ·subst hxy;have HN:=aH (show xs.take (k+1)=ys.take (k+1) by rw[List.take_add_one,List.take_add_one,HO.out,hx,hy]);have tt:(x.toList==x.toList)=true:=beq_self_eq_true _;clear hu hv hx hy HO;go_wp2;go_quiet (fail);go_wp2;go_roundg (n-(k+1));case measure=>omega
     case rel=>exact⟨k+1,rfl,by go_num,by omega,aH (below_drewN HB.out _),HN⟩
    ·have HF:=aH (show decide (xs=ys)=false from decide_eq_false fun h=>hxy (by rw[h,hy]at hx;exact(Option.some.inj hx).symm));have tt:(x.toList==y.toList)=false:=aVi hxy;clear hu hv hx hy HO hxy;go_wp2;go_quiet (fail);go_wp2;go_ret;exact⟨cX HF.out.symm,below_drewN HB.out _⟩
   ·have HF:=aH (show decide (xs=ys)=true by
     have:=HO.out;rw[List.take_of_length_le (by rw[HXL.out];omega),List.take_of_length_le (by rw[HYL.out];omega)]at this;exact decide_eq_true this)
    clear HO;go_wp2;go_ret;exact⟨cX HF.out.symm,HB.out⟩
 ·have t:((n:Int) !=(m:Int))=true:=bne_iff_ne.2 (by omega);have HF:=aH (show decide (xs=ys)=false from decide_eq_false fun h=>hl (by rw[←hxl,←hyl,h]));clear hx hy hxl hyl;go_enter Tryz.func29,Tryz.ntmps29;go_wp2;go_ret;exact⟨cX HF.out.symm,Below.refl _ _⟩
theorem aLx(xs ys:List ByteArray)(n m:Nat)(A B:Option Addr)(c d:Nat)(w:World)(hx:Reads w w.heap.size 1 A n (xs.map Sv))(hy:Reads w w.heap.size 1 B m (ys.map Sv))(hn:n≤1000000): Calls Tryz.prog 106 #[.slice A n c,.slice B m d] w fun e w'=>e= .returned (.bool (decide (xs=ys)))∧Below w.heap.size w w':=by
 have HC:=aH (lT xs ys n m A B c d w hx hy hn);clear hx hy;go_enter Tryz.func106,Tryz.ntmps106;go_wp2_with fail;refine HC.out.mono ?_;rintro e w1 ⟨rfl,hb⟩;have HB:=aH hb;clear hb HC;go_wp2;go_ret;exact⟨rfl,HB.out⟩
theorem aGv(xs ys:List (List ByteArray))(n m:Nat)(A B:Option Addr)(c d:Nat)(w:World)(hx:SMat w A n xs)(hy:SMat w B m ys)(hn:n≤1000000)(hw:∀l∈xs,l.length≤1000000): Calls Tryz.prog 105 #[.slice A n c,.slice B m d,.func (.func 106) #[] #[]] w fun e w'=>e= .returned (.bool (decide (xs=ys)))∧Below w.heap.size w w':=by
 have hxl:xs.length=n:=by obtain⟨_,_,h,_⟩:=hx;exact h
 have hyl:ys.length=m:=by obtain⟨_,_,h,_⟩:=hy;exact h
 by_cases hl:n=m
 ·subst hl;have HX:=aH hx;have HY:=aH hy;have HXL:=aH hxl;have HYL:=aH hyl;have HW:=aH hw;clear hx hy hxl hyl hw;go_enter Tryz.func105,Tryz.ntmps105;go_wp2;go_loopg [17] (n-0) (fun r v wr=>∃k:Nat,r=n-k∧v=I k∧k≤n∧Hid (Below w.heap.size w wr)∧Hid (xs.take k=ys.take k));case atStart=>exact⟨0,rfl,rfl,by omega,Below.refl _ _,rfl⟩
  case round=>
   obtain⟨k,rfl,rfl,hk,HB,HO⟩:=hrel;obtain⟨wa,rfl⟩:=wE wr;by_cases hlt:k<n
   ·obtain⟨x,hx⟩:∃x,xs[k]?=some x:=⟨_,gE (by rw[HXL.out];exact hlt)⟩;obtain⟨y,hy⟩:∃y,ys[k]?=some y:=⟨_,gE (by rw[HYL.out];exact hlt)⟩;obtain⟨b1,o1,B1,c1,rfl,hc,hrx⟩:=(HX.out.below HB.out).at_ hlt x hx;obtain⟨b2,o2,B2,c2,rfl,hd,hry⟩:=(HY.out.below HB.out).at_ hlt y hy;have HC:=aH (aLx x y x.length y.length B1 B2 c1 c2 wa hrx hry (HW.out x (List.mem_of_getElem? hx)));have HXK:=aH hx;have HYK:=aH hy;clear hrx hry hx hy;go_wp2_with fail;refine HC.out.mono ?_;rintro e w1 ⟨rfl,hb⟩;have HB1:=aH (HB.out.trans (hb.mono HB.out.size));clear hb HC HB hc hd;generalize hlx:x.length=lx at*;generalize hly:y.length=ly at*;clear hlx hly;by_cases hxy:x=y
    ·have HN:=aH (show xs.take (k+1)=ys.take (k+1) by rw[List.take_add_one,List.take_add_one,HO.out,HXK.out,HYK.out,hxy]);rw[decide_eq_true hxy];clear HO HXK HYK hxy;go_wp2;go_roundg (n-(k+1));case measure=>omega
     case rel=>exact⟨k+1,rfl,by go_num,by omega,HB1,HN⟩
    ·have HF:=aH (show decide (xs=ys)=false from decide_eq_false fun h=>hxy (by
      have h1:=HXK.out;rw[h,HYK.out]at h1;exact(Option.some.inj h1).symm))
     rw[decide_eq_false hxy];clear HO HXK HYK hxy;go_wp2;go_ret;exact⟨cX HF.out.symm,HB1.out⟩
   ·have HF:=aH (show decide (xs=ys)=true by
     have:=HO.out;rw[List.take_of_length_le (by rw[HXL.out];omega),List.take_of_length_le (by rw[HYL.out];omega)]at this;exact decide_eq_true this)
    clear HO;go_wp2;go_ret;exact⟨cX HF.out.symm,HB.out⟩
 ·have t:((n:Int) !=(m:Int))=true:=bne_iff_ne.2 (by omega);have HF:=aH (show decide (xs=ys)=false from decide_eq_false fun h=>hl (by rw[←hxl,←hyl,h]));clear hx hy hxl hyl hw;go_enter Tryz.func105,Tryz.ntmps105;go_wp2;go_ret;exact⟨cX HF.out.symm,Below.refl _ _⟩
theorem aDk(xs ys:List (List ByteArray))(n m:Nat)(A B:Option Addr)(c d:Nat)(w:World)(hx:SMat w A n xs)(hy:SMat w B m ys)(hn:n≤1000000)(hw:∀l∈xs,l.length≤1000000): Calls Tryz.prog 45 #[.slice A n c,.slice B m d] w fun e w'=>e= .returned (.bool (decide (xs=ys)))∧Below w.heap.size w w':=by
 have HC:=aH (aGv xs ys n m A B c d w hx hy hn hw);clear hx hy hw;go_enter Tryz.func45,Tryz.ntmps45;go_wp2_with fail;refine HC.out.mono ?_;rintro e w1 ⟨rfl,hb⟩;have HB:=aH hb;clear hb HC;go_wp2;go_ret;exact⟨rfl,HB.out⟩
theorem aBf{a b:List ByteArray}(h:tx1 a=tx1 b):a=b:=by
 induction a generalizing b with
 |nil=>cases b with
  |nil=>rfl
  |cons y b=>simp[tx1]at h
 |cons x a ih=>cases b with
  |nil=>simp[tx1]at h
  |cons y b=>
   simp only[tx1,List.map_cons,List.cons.injEq]at h;rw[wV h.1,ih h.2]
theorem MF.ms{n:NetD}{base g:Nat}{w:World}(h:MF w base g n):∃rs qs v,MS w base g rs (isO (aI n) (aC n) (bB n) (toL n) (aF n)) qs (tsO (bLQ n) (cLQ n)) v:=by
 obtain⟨rs,qs,v,vs,hS,_⟩:=h;exact⟨rs,qs,v,hS⟩
theorem aPz{n:NetD}(hV:VNet n){base g:Nat}{w:World}(h:MF w base g n):Calls Tryz.prog 92 #[.pointer (some ⟨g,0,none⟩)] w fun e w'=>e= .returned (I (nbN n:Nat))∧w'=w:=by
 obtain⟨rs,qs,v,hS⟩:=h.ms;exact buses_fw base g rs _ qs _ v w hS (by have:=iK hV;show(aC n).length≤1000;omega)
end Go.Proofs.YtenbglfkdldheaaGreatDoor
