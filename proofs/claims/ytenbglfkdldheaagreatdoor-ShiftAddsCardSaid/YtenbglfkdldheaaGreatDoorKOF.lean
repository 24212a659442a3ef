/- topology.Of. -/
import Derived.Test.YtenbglfkdldheaaGreatDoorKGB
set_option maxRecDepth 100000
set_option maxHeartbeats 1000000
namespace Go.Proofs.YtenbglfkdldheaaGreatDoor
open Go.RowKit
def ofL(n:NetD):(List Int×List Int)×Int:=if aT n=0 then((aC n,aA n),0)else(([],[]),aT n)
def aXp(w:World)(r:(List Int×List Int)×Int)(e:Ending)(w':World):Prop:=∃bv iv,e= .returned (.tuple #[.agg #[bv,iv],I r.2])∧Row w' w.heap.size 3 1 bv r.1.1.length (r.1.1.map I)∧Row w' w.heap.size 3 1 iv r.1.2.length (r.1.2.map I)∧Below w.heap.size w w'
theorem aLn(n:NetD)(v:NetV)(w:World)(hN:Net w n v):Calls Tryz.prog 15 #[v.val n] w (aXp w (ofL n)):=by
 have hb0:=gJ w (Obj.cells (v.parts n) 29) (Obj.cells #[Value.slice none 0 0,Value.slice none 0 0] 33);have HC:=aH (gK n v _ (hN.below hb0));have HB0:=aH hb0;have HN:=aH hN;have HD:=aH (show ofL n=if aT n=0 then((aC n,aA n),0)else(([],[]),aT n)from rfl);have HBX:=aH ((Blk.new w 29 (v.parts n)).alloc (Obj.cells #[Value.slice none 0 0,Value.slice none 0 0] 33));have HRX:Hid (Blk ((w.alloc (Obj.cells (v.parts n) 29)).alloc (Obj.cells #[Value.slice none 0 0,Value.slice none 0 0] 33)) (w.heap.size+1) 33 #[Value.slice none 0 0,Value.slice none 0 0]):=by
  have:=Blk.new (w.alloc (Obj.cells (v.parts n) 29)) 33 #[Value.slice none 0 0,Value.slice none 0 0];rw[World.size_alloc w]at this;exact this
 have HVN:=aH (@aAq n);have HGT:=aH (fun w hn hv=>aAb n v w hn hv);clear hb0 hN;unfold NetV.val NetV.parts at*;obtain⟨er,her⟩:∃er,aT n=er:=⟨_,rfl⟩;rw[her]at HC HD HVN;clear her;go_enter Tryz.func15,Tryz.ntmps15;go_wp2_with fail;refine HC.out.mono ?_;rintro e w1 ⟨rfl,hb1⟩;have hz1:w.heap.size+1+1≤w1.heap.size:=by have:=hb1.size;simpa using this
 have HBX1:=aH (HBX.out.below hb1 (by simp;omega));have HRX1:=aH (HRX.out.below hb1 (by simp));have HBE:=aH (HB0.out.trans (hb1.mono HB0.out.size));clear hb1 HBX HRX HC HB0;by_cases h0:er=0
 ·subst h0;have HD2:=aH (show ofL n=((aC n,aA n),0) by rw[HD.out];simp);have x0:=HBX1.out.cell 0;have x1:=HBX1.out.cell 1;have x2:=HBX1.out.cell 2;have x3:=HBX1.out.cell 3;have x4:=HBX1.out.cell 4;have x5:=HBX1.out.cell 5;have HG:=aH (HGT.out w1 (HN.out.below HBE.out).net (HVN.out rfl));go_wp2_with fail;refine HG.out.mono ?_;rintro e w2 ⟨bv,iv,rfl,hr1,hr2,hb2⟩;obtain⟨bA,bc,rfl⟩:=hr1.val;obtain⟨iA,ic,rfl⟩:=hr2.val;have hR2:=HRX1.out.below hb2 HRX1.out.lt;have r0:=hR2.cell 0;have r1:=hR2.cell 1;have g0:=hR2.frozen 0;have g1:=hR2.frozen 1;have HRB:=aH hr1;have HRI:=aH hr2;have HBE2:=aH (HBE.out.trans (hb2.mono HBE.out.size));clear hr1 hr2 hb2 hR2 HG HGT x0 x1 x2 x3 x4 x5;generalize aC n=bus at*;generalize aA n=isl at*;go_wp2;refine bodyPost_ret (v:= .tuple #[.agg #[Value.slice bA bus.length bc,Value.slice iA isl.length ic],I 0]) (by simp[results,go_sem,r0,r1]) rfl ?_;rw[HD2.out];refine⟨_,_,rfl,?_,?_,(HBE2.out.setCell (by simp) _).setCell (by simp) _⟩
  ·exact(((HRB.out.set_away (fun g hg=>by have:=(HRB.out.own_block hg).1;simp;omega) _).set_away (fun g hg=>by have:=(HRB.out.own_block hg).1;simp;omega) _)).less (by omega)
  ·exact(((HRI.out.set_away (fun g hg=>by have:=(HRI.out.own_block hg).1;simp;omega) _).set_away (fun g hg=>by have:=(HRI.out.own_block hg).1;simp;omega) _)).less (by omega)
 ·have t1:(er==0)=false:=beq_eq_false_iff_ne.2 h0;have t2:(er !=0)=true:=by rw[bne_iff_ne];exact h0
  have HD2:=aH (show ofL n=(([],[]),er) by rw[HD.out,if_neg h0]);have r0:=HRX1.out.cell 0;have r1:=HRX1.out.cell 1;have g0:=HRX1.out.frozen 0;have g1:=HRX1.out.frozen 1;clear h0;go_wp2;refine bodyPost_ret (v:= .tuple #[.agg #[Value.slice none 0 0,Value.slice none 0 0],I er]) (by simp[results,go_sem,r0,r1]) rfl ?_;rw[HD2.out];exact⟨_,_,rfl,Row.nil _ _ _ _,Row.nil _ _ _ _,(HBE.out.setCell (by simp) _).setCell (by simp) _⟩
end Go.Proofs.YtenbglfkdldheaaGreatDoor
