/- gridhallkeep1.pick. -/
import Derived.Test.YtenbglfkdldheaaGreatDoorUA
import Derived.Test.YtenbglfkdldheaaGreatDoorUG
set_option maxRecDepth 100000
set_option maxHeartbeats 400000
namespace Go.Proofs.YtenbglfkdldheaaGreatDoor
open Go.RowKit
def zW(x n:Int):Int:=IntKind.u64.wrap x%n
theorem tJ(x:Int){n:Int}(h:0<n):0≤zW x n∧zW x n<n:=⟨Int.emod_nonneg _ (by omega),Int.emod_lt_of_pos _ h⟩
theorem aWr(x n:Int)(w:World)(h0:0<n)(h1:n≤1000000):Calls Tryz.prog 17 #[I x,I n] w fun e w'=>e= .returned (I (zW x n))∧w'=w:=by
 have hb:=tJ x h0;have hn:IntKind.u64.wrap n=n:=by rw[IntKind.wrap_u64];omega
 have HE:=aH (show wrap64 ((IntKind.u64.wrap x).tmod n)=zW x n by
  rw[show(IntKind.u64.wrap x).tmod n=zW x n from Int.tmod_eq_emod_of_nonneg (by rw[IntKind.wrap_u64];exact Int.emod_nonneg _ (by decide))];exact IntWalk.wrap64_in _ (by omega))
 have hz:(n==0)=false:=by simp;omega
 clear hb;go_enter Tryz.func17,Tryz.ntmps17;go_wp2;go_ret;exact⟨by rw[←HE.out];rfl,rfl⟩
end Go.Proofs.YtenbglfkdldheaaGreatDoor
