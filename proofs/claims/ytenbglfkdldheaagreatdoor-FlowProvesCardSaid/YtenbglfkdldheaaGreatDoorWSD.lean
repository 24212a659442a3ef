/- lin.Det. -/
import Derived.Test.YtenbglfkdldheaaGreatDoorWSC
import Derived.Test.YtenbglfkdldheaaGreatDoorWSA
import Derived.Test.YtenbglfkdldheaaGreatDoorWR
import Derived.Deep.DeepCutAuto
namespace Go.Proofs.YtenbglfkdldheaaGreatDoor
open Go.RowKit
section
variable {P : Program} {ops : Array Oper} {Q : Exit → Act → World → Prop} {md : Region.Mode} {S : World → Prop} {c : Nat}
end
end Go.Proofs.YtenbglfkdldheaaGreatDoor
