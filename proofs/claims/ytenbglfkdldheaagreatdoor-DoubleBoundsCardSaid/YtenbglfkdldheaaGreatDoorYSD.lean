/- lin.Det. -/
import Derived.Test.YtenbglfkdldheaaGreatDoorYSC
namespace Go.Proofs.YtenbglfkdldheaaGreatDoor
open Go.RowKit
section
variable {P:Program} {ops:Array Oper} {Q:Exit→Act→World→Prop} {md:Region.Mode} {S:World→Prop} {c:Nat}
theorem aGl{i j:Nat}{o1 o2:Oper}{fuel:Nat}{listed:Array Bool}{a:Act}{w:World}(hr:Region.ready md ops listed=[i,j])(h1:ops[i]?=some o1)(h2:ops[j]?=some o2) (k1:∀K':Act→World→Prop,Shut (∀a w,((listed.setIfInBounds i true).getD c true=false→S w)→bW P md ops Q S c fuel (listed.setIfInBounds i true) a w→K' a w)→if Region.wanted o1 (yielded ops a.tmps)=true then Oper.wp P o1 a w K' Q else K' (a.put o1.dst undef) w)
  (k2:∀K':Act→World→Prop,Shut (∀a w,((listed.setIfInBounds j true).getD c true=false→S w)→bW P md ops Q S c fuel (listed.setIfInBounds j true) a w→K' a w)→if Region.wanted o2 (yielded ops a.tmps)=true then Oper.wp P o2 a w K' Q else K' (a.put o2.dst undef) w):bW P md ops Q S c (fuel+1) listed a w:=by
 refine⟨fun h0=>(by rw[hr]at h0;cases h0),fun x hx=>?_⟩;rw[hr]at hx;rcases List.mem_cons.1 hx with rfl|hx
 ·exact wpOp_step h1 (fun K' hK=>k1 K' (fun a w hS hW=>hK a w ⟨hS,hW⟩))
 ·obtain rfl:x=j:=by simpa using hx
  exact wpOp_step h2 (fun K' hK=>k2 K' (fun a w hS hW=>hK a w ⟨hS,hW⟩))
end
end Go.Proofs.YtenbglfkdldheaaGreatDoor
