/- slices.Equal at vectors of texts, matrix.Same. flow.Verify. -/
import Derived.Test.YtenbglfkdldheaaGreatDoorYFK
set_option maxRecDepth 100000
set_option maxHeartbeats 1000000
namespace Go.Proofs.YtenbglfkdldheaaGreatDoor
open Go.RowKit
theorem aWf{x y:ByteArray}(h:x≠y):(x.toList==y.toList)=false:=(Lib.bytes_beq_false_iff x y).2 h
theorem aHy(xs ys:List ByteArray)(n m:Nat)(A B:Option Addr)(c d:Nat)(w:World)(hx:Reads w w.heap.size 1 A n (xs.map Sv))(hy:Reads w w.heap.size 1 B m (ys.map Sv))(hn:n≤1000000): Calls Tryz.prog 29 #[.slice A n c,.slice B m d] w fun e w'=>e= .returned (.bool (decide (xs=ys)))∧Below w.heap.size w w':=by
 have hxl:xs.length=n:=by have:=hx.1;simpa using this
 have hyl:ys.length=m:=by have:=hy.1;simpa using this
 by_cases hl:n=m
 ·subst hl;have HX:=aH hx;have HY:=aH hy;have HXL:=aH hxl;have HYL:=aH hyl;clear hx hy hxl hyl;go_enter Tryz.func29,Tryz.ntmps29;go_wp2;go_loopg [13] (n-0) (fun r v wr=>∃k:Nat,r=n-k∧v=I k∧k≤n∧Hid (Below w.heap.size w wr)∧Hid (xs.take k=ys.take k));case atStart=>exact⟨0,rfl,rfl,by omega,Below.refl _ _,rfl⟩
  case round=>
   obtain⟨k,rfl,rfl,hk,HB,HO⟩:=hrel;obtain⟨wa,rfl⟩:=wE wr;by_cases hlt:k<n
   ·obtain⟨x,hx⟩:∃x,xs[k]?=some x:=⟨_,gE (by rw[HXL.out];exact hlt)⟩;obtain⟨y,hy⟩:∃y,ys[k]?=some y:=⟨_,gE (by rw[HYL.out];exact hlt)⟩;obtain⟨b1,o1,u,rfl,_,hu,hc⟩:=(HX.out.below HB.out).at1 hlt;obtain⟨b2,o2,v,rfl,_,hv,hd⟩:=(HY.out.below HB.out).at1 hlt;obtain rfl:u=Sv x:=by
     rw[List.getElem?_map,hx]at hu;simpa using hu.symm
    obtain rfl:v=Sv y:=by
     rw[List.getElem?_map,hy]at hv;simpa using hv.symm
    by_cases hxy:x=y
    ·subst hxy;have HN:=aH (show xs.take (k+1)=ys.take (k+1) by rw[List.take_add_one,List.take_add_one,HO.out,hx,hy]);have tt:(x.toList==x.toList)=true:=beq_self_eq_true _;clear hu hv hx hy HO;go_wp2;go_quiet (fail);go_wp2;go_roundg (n-(k+1));case measure=>omega
     case rel=>exact⟨k+1,rfl,by go_num,by omega,aH (below_drewN HB.out _),HN⟩
    ·have HF:=aH (show decide (xs=ys)=false from decide_eq_false fun h=>hxy (by rw[h,hy]at hx;exact(Option.some.inj hx).symm));have tt:(x.toList==y.toList)=false:=aWf hxy;clear hu hv hx hy HO hxy;go_wp2;go_quiet (fail);go_wp2;go_ret;exact⟨eC HF.out.symm,below_drewN HB.out _⟩
   ·have HF:=aH (show decide (xs=ys)=true by
     have:=HO.out;rw[List.take_of_length_le (by rw[HXL.out];omega),List.take_of_length_le (by rw[HYL.out];omega)]at this;exact decide_eq_true this)
    clear HO;go_wp2;go_ret;exact⟨eC HF.out.symm,HB.out⟩
 ·have t:((n:Int) !=(m:Int))=true:=bne_iff_ne.2 (by omega);have HF:=aH (show decide (xs=ys)=false from decide_eq_false fun h=>hl (by rw[←hxl,←hyl,h]));clear hx hy hxl hyl;go_enter Tryz.func29,Tryz.ntmps29;go_wp2;go_ret;exact⟨eC HF.out.symm,Below.refl _ _⟩
end Go.Proofs.YtenbglfkdldheaaGreatDoor
