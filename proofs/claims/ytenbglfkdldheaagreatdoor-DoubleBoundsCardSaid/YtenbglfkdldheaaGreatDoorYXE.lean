/- shift.Factors. shift.Line. -/
import Derived.Test.YtenbglfkdldheaaGreatDoorYXD
namespace Go.Proofs.YtenbglfkdldheaaGreatDoor
open Go.RowKit
theorem aUq{n:NetD}(h:VNet n):NetBy n:=by
 have h1:=h.hn;have h2:=h.hw;have h3:=h.hb;have h4:=h.hg;have h5:=h.hl;have h6:=h.hs;exact⟨by omega,by omega,by omega,by omega,by omega,by omega⟩
theorem vX{n:NetD}{k:Nat}(hk:k<n.branches.length):(fD n k).branches.length+1=n.branches.length:=by
 show(n.branches.eraseIdx k).length+1=_;rw[List.length_eraseIdx_of_lt hk];omega
theorem vY{n:NetD}(h:VNet n){k:Nat}(hk:k<n.branches.length):(aW n).getD k 0∈aF n∧(toL n).getD k 0∈aF n:=by
 have hm:∀x∈n.nodes,aK n x∈aF n:=fun x hx=>by
  have:=iY hx;rw[aK,at_];exact bY (by rw[dP h];omega)
 obtain⟨h1,h2,-,-⟩:=h.br _ (List.getElem_mem hk);constructor
 ·simpa[aW,gD,hk]using hm _ h1
 ·simpa[toL,gD,hk]using hm _ h2
end Go.Proofs.YtenbglfkdldheaaGreatDoor
