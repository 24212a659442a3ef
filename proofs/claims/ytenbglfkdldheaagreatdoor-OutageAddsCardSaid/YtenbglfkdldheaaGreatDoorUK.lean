/- Rational numbers in memory. large.Ratio. -/
import Derived.Test.YtenbglfkdldheaaGreatDoorUI
set_option maxRecDepth 100000
set_option maxHeartbeats 4000000
namespace Go.Proofs.YtenbglfkdldheaaGreatDoor
open Go.RowKit
abbrev aM:TypeId:=122
structure Vr(w:World)(g:Nat)(x0 x1 x2 x3:Value):Prop where
 c0:w.cell? ⟨g,0,none⟩=some x0
 c1:w.cell? ⟨g,1,none⟩=some x1
 c2:w.cell? ⟨g,2,none⟩=some x2
 c3:w.cell? ⟨g,3,none⟩=some x3
 f0:w.frozen? ⟨g,0,none⟩=false
 f1:w.frozen? ⟨g,1,none⟩=false
 f2:w.frozen? ⟨g,2,none⟩=false
 f3:w.frozen? ⟨g,3,none⟩=false
section
variable {w w':World} {g g':Nat} {x0 x1 x2 x3:Value}
theorem Vr.lt(h:Vr w g x0 x1 x2 x3):g<w.heap.size:=World.block_lt_of_cell? w ⟨g,0,none⟩ h.c0
theorem Vr.below(h:Vr w g x0 x1 x2 x3)(hb:Below w.heap.size w w'):Vr w' g x0 x1 x2 x3:=⟨(hb.cell (p:=⟨g,0,none⟩) h.lt).trans h.c0,(hb.cell (p:=⟨g,1,none⟩) h.lt).trans h.c1,(hb.cell (p:=⟨g,2,none⟩) h.lt).trans h.c2,(hb.cell (p:=⟨g,3,none⟩) h.lt).trans h.c3,(hb.frozen (p:=⟨g,0,none⟩) h.lt).trans h.f0,(hb.frozen (p:=⟨g,1,none⟩) h.lt).trans h.f1,(hb.frozen (p:=⟨g,2,none⟩) h.lt).trans h.f2,(hb.frozen (p:=⟨g,3,none⟩) h.lt).trans h.f3⟩
theorem Blk.vr{t:TypeId}(h:Blk w g t #[x0,x1,x2,x3]):Vr w g x0 x1 x2 x3:=⟨h.cell 0,h.cell 1,h.cell 2,h.cell 3,h.frozen 0,h.frozen 1,h.frozen 2,h.frozen 3⟩
theorem Vr.alloc(h:Vr w g x0 x1 x2 x3)(o:Obj):Vr (w.alloc o) g x0 x1 x2 x3:=h.below ((Below.refl _ _).alloc lR _)
theorem Vr.drew(h:Vr w g x0 x1 x2 x3):Vr w.drew g x0 x1 x2 x3:=⟨h.c0,h.c1,h.c2,h.c3,h.f0,h.f1,h.f2,h.f3⟩
theorem Vr.off(h:Vr w g x0 x1 x2 x3){p:Addr}(hne:p.block≠g)(u:Value):Vr (w.setCell p u) g x0 x1 x2 x3:=by
 have hc:∀o,(w.setCell p u).cell? ⟨g,o,none⟩=w.cell? ⟨g,o,none⟩:=fun o=>World.cell?_setCell_far _ _ _ _ (by simpa using hne);have hf:∀o,(w.setCell p u).frozen? ⟨g,o,none⟩=w.frozen? ⟨g,o,none⟩:=fun o=>by simp
 exact⟨(hc 0).trans h.c0,(hc 1).trans h.c1,(hc 2).trans h.c2,(hc 3).trans h.c3,(hf 0).trans h.f0,(hf 1).trans h.f1,(hf 2).trans h.f2,(hf 3).trans h.f3⟩
end
def set4(w:World)(g:Nat)(u0 u1 u2 u3:Value):World:=(((w.setCell ⟨g,0,none⟩ u0).setCell ⟨g,1,none⟩ u1).setCell ⟨g,2,none⟩ u2).setCell ⟨g,3,none⟩ u3
section
variable {w w':World} {g g':Nat} {x0 x1 x2 x3:Value}
theorem gP(w:World)(g i j:Nat)(u:Value)(h:i≠j):(w.setCell ⟨g,i,none⟩ u).cell? ⟨g,j,none⟩=w.cell? ⟨g,j,none⟩:=World.cell?_setCell_other _ _ _ _ (by intro e;injection e with _ e;omega)
theorem Vr.set(h:Vr w g x0 x1 x2 x3)(u0 u1 u2 u3:Value):Vr (set4 w g u0 u1 u2 u3) g u0 u1 u2 u3:=by
 have e1:(w.setCell ⟨g,0,none⟩ u0).cell? ⟨g,1,none⟩=some x1:=(gP _ _ _ _ _ (by decide)).trans h.c1;have e2:((w.setCell ⟨g,0,none⟩ u0).setCell ⟨g,1,none⟩ u1).cell? ⟨g,2,none⟩=some x2:=(gP _ _ _ _ _ (by decide)).trans ((gP _ _ _ _ _ (by decide)).trans h.c2);have e3:(((w.setCell ⟨g,0,none⟩ u0).setCell ⟨g,1,none⟩ u1).setCell ⟨g,2,none⟩ u2).cell? ⟨g,3,none⟩=some x3:=(gP _ _ _ _ _ (by decide)).trans ((gP _ _ _ _ _ (by decide)).trans ((gP _ _ _ _ _ (by decide)).trans h.c3));unfold set4;refine⟨?_,?_,?_,World.cell?_setCell_same _ _ _ e3,by simpa using h.f0,by simpa using h.f1,by simpa using h.f2,by simpa using h.f3⟩
 ·exact(gP _ _ _ _ _ (by decide)).trans ((gP _ _ _ _ _ (by decide)).trans ((gP _ _ _ _ _ (by decide)).trans (World.cell?_setCell_same _ _ _ h.c0)))
 ·exact(gP _ _ _ _ _ (by decide)).trans ((gP _ _ _ _ _ (by decide)).trans (World.cell?_setCell_same _ _ _ e1))
 ·exact(gP _ _ _ _ _ (by decide)).trans (World.cell?_setCell_same _ _ _ e2)
theorem Vr.far(h:Vr w g x0 x1 x2 x3)(hne:g'≠g)(u0 u1 u2 u3:Value):Vr (set4 w g' u0 u1 u2 u3) g x0 x1 x2 x3:=(((h.off (p:=⟨g',0,none⟩) hne u0).off (p:=⟨g',1,none⟩) hne u1).off (p:=⟨g',2,none⟩) hne u2).off (p:=⟨g',3,none⟩) hne u3
theorem Vr.far2(h:Vr w g x0 x1 x2 x3)(hne:g'≠g)(u0 u1:Value):Vr ((w.setCell ⟨g',0,none⟩ u0).setCell ⟨g',1,none⟩ u1) g x0 x1 x2 x3:=(h.off (p:=⟨g',0,none⟩) hne u0).off (p:=⟨g',1,none⟩) hne u1
theorem Big.set4{v:Value}{z:Int}(h:Big w v z){b b2:Bool}{A A2:Option Addr}{n c n2 c2:Nat}(hv:Vr w g (.bool b) (.slice A n c) (.bool b2) (.slice A2 n2 c2))(u0 u1 u2 u3:Value):Big (set4 w g u0 u1 u2 u3) v z:=by
 have e1:(w.setCell ⟨g,0,none⟩ u0).cell? ⟨g,1,none⟩=some (.slice A n c):=(gP _ _ _ _ _ (by decide)).trans hv.c1;have e2:((w.setCell ⟨g,0,none⟩ u0).setCell ⟨g,1,none⟩ u1).cell? ⟨g,2,none⟩=some (.bool b2):=(gP _ _ _ _ _ (by decide)).trans ((gP _ _ _ _ _ (by decide)).trans hv.c2);have e3:(((w.setCell ⟨g,0,none⟩ u0).setCell ⟨g,1,none⟩ u1).setCell ⟨g,2,none⟩ u2).cell? ⟨g,3,none⟩=some (.slice A2 n2 c2):=(gP _ _ _ _ _ (by decide)).trans ((gP _ _ _ _ _ (by decide)).trans ((gP _ _ _ _ _ (by decide)).trans hv.c3));exact(((h.set hv.c0 (bO _) u0).set e1 (bJ _ _ _) u1).set e2 (bO _) u2).set e3 (bJ _ _ _) u3
theorem wI(hb:Below w.heap.size w w')(hg:w.heap.size≤g)(u0 u1 u2 u3:Value):Below w.heap.size w (set4 w' g u0 u1 u2 u3):=(((hb.setCell (p:=⟨g,0,none⟩) hg u0).setCell (p:=⟨g,1,none⟩) hg u1).setCell (p:=⟨g,2,none⟩) hg u2).setCell (p:=⟨g,3,none⟩) hg u3
end
def Rt(w:World)(v:Value)(q:Rat):Prop:=∃x0 x1 x2 x3,v= .agg #[x0,x1,x2,x3]∧Big w (.agg #[x0,x1]) q.num∧Big w (.agg #[x2,x3]) (q.den:Int)
def Rp(w:World)(v:Value)(n d:Int):Prop:=∃x0 x1 x2 x3,v= .agg #[x0,x1,x2,x3]∧Big w (.agg #[x0,x1]) n∧Big w (.agg #[x2,x3]) d
theorem Rt.pair{w:World}{v:Value}{q:Rat}(h:Rt w v q):Rp w v q.num (q.den:Int):=h
def RetRt(w:World)(q:Rat)(e:Ending)(w':World):Prop:=∃v,e= .returned v∧Rt w' v q∧Below w.heap.size w w'
theorem Rt.ext{w w':World}{v:Value}{q:Rat}(h:Rt w v q)(hb:Below w.heap.size w w'):Rt w' v q:=by
 obtain⟨a,b,c,d,e,h1,h2⟩:=h;exact⟨a,b,c,d,e,h1.ext hb,h2.ext hb⟩
theorem Rt.drew{w:World}{v:Value}{q:Rat}(h:Rt w v q):Rt w.drew v q:=h.ext (cC (Below.refl _ _))
theorem den_pos(q:Rat):(0:Int)<(q.den:Int):=by have:=q.den_pos;omega
theorem uJ{x0 x1 y0 y1:Value}(h:Value.agg #[x0,x1]= .agg #[y0,y1]):x0=y0∧x1=y1:=by simpa using h
theorem Rt.form{w:World}{v:Value}{q:Rat}(h:Rt w v q):∃A n c B m d,v= .agg #[.bool (decide (q.num<0)),.slice A n c,.bool false,.slice B m d]∧Big w (.agg #[.bool (decide (q.num<0)),.slice A n c]) q.num∧Big w (.agg #[.bool false,.slice B m d]) (q.den:Int):=by
 obtain⟨x0,x1,x2,x3,rfl,h1,h2⟩:=h;obtain⟨A,n,c,e1⟩:=h1.form;obtain⟨B,m,d,e2⟩:=h2.form;have e:decide ((q.den:Int)<0)=false:=decide_eq_false (by have:=den_pos q;omega);rw[e]at e2;obtain⟨rfl,rfl⟩:=uJ e1;obtain⟨rfl,rfl⟩:=uJ e2;exact⟨A,n,c,B,m,d,rfl,h1,h2⟩
theorem Rp.form{w:World}{v:Value}{n d:Int}(h:Rp w v n d)(hd:0<d):∃A l c B m e,v= .agg #[.bool (decide (n<0)),.slice A l c,.bool false,.slice B m e]∧Big w (.agg #[.bool (decide (n<0)),.slice A l c]) n∧Big w (.agg #[.bool false,.slice B m e]) d:=by
 obtain⟨x0,x1,x2,x3,rfl,h1,h2⟩:=h;obtain⟨A,l,c,e1⟩:=h1.form;obtain⟨B,m,e,e2⟩:=h2.form;rw[decide_eq_false (show¬d<0 by omega)]at e2;obtain⟨rfl,rfl⟩:=uJ e1;obtain⟨rfl,rfl⟩:=uJ e2;exact⟨A,l,c,B,m,e,rfl,h1,h2⟩
theorem Rt.mk{w:World}{x0 x1 x2 x3:Value}{q:Rat}(h1:Big w (.agg #[x0,x1]) q.num)(h2:Big w (.agg #[x2,x3]) (q.den:Int)):Rt w (.agg #[x0,x1,x2,x3]) q:=⟨_,_,_,_,rfl,h1,h2⟩
theorem Rt.set4{w:World}{v:Value}{q:Rat}(h:Rt w v q){g:Nat}{b b2:Bool}{A A2:Option Addr}{n c n2 c2:Nat}(hv:Vr w g (.bool b) (.slice A n c) (.bool b2) (.slice A2 n2 c2))(u0 u1 u2 u3:Value):Rt (set4 w g u0 u1 u2 u3) v q:=by
 obtain⟨a,b,c,d,e,h1,h2⟩:=h;exact⟨a,b,c,d,e,h1.set4 hv _ _ _ _,h2.set4 hv _ _ _ _⟩
abbrev z4:Obj:= .cells #[.bool false,.slice none 0 0,.bool false,.slice none 0 0] aM
theorem gV(w:World)(a0 a1 a2 a3:Value):Vr (w.alloc (.cells #[a0,a1,a2,a3] aM)) w.heap.size a0 a1 a2 a3∧Below w.heap.size w (w.alloc (.cells #[a0,a1,a2,a3] aM)):=⟨(Blk.new w aM _).vr,(Below.refl _ _).alloc lR _⟩
theorem aBv(w:World)(a0 a1 a2 a3 b0 b1 b2 b3:Value): Vr ((w.alloc (.cells #[a0,a1,a2,a3] aM)).alloc (.cells #[b0,b1,b2,b3] aM)) w.heap.size a0 a1 a2 a3∧Vr ((w.alloc (.cells #[a0,a1,a2,a3] aM)).alloc (.cells #[b0,b1,b2,b3] aM)) (w.heap.size+1) b0 b1 b2 b3∧ Below w.heap.size w ((w.alloc (.cells #[a0,a1,a2,a3] aM)).alloc (.cells #[b0,b1,b2,b3] aM)):=by
 obtain⟨h1,h2⟩:=gV w a0 a1 a2 a3;have h3:=(Blk.new (w.alloc (.cells #[a0,a1,a2,a3] aM)) aM #[b0,b1,b2,b3]).vr;rw[World.size_alloc w]at h3;exact⟨h1.alloc _,h3,h2.alloc h2.size _⟩
theorem wJ(w:World)(a0 a1 a2 a3 b0 b1 b2 b3:Value)(c0 c1 c2 c3:Value): Vr (((w.alloc (.cells #[a0,a1,a2,a3] aM)).alloc (.cells #[b0,b1,b2,b3] aM)).alloc (.cells #[c0,c1,c2,c3] aM)) w.heap.size a0 a1 a2 a3∧Vr (((w.alloc (.cells #[a0,a1,a2,a3] aM)).alloc (.cells #[b0,b1,b2,b3] aM)).alloc (.cells #[c0,c1,c2,c3] aM)) (w.heap.size+1) b0 b1 b2 b3∧ Vr (((w.alloc (.cells #[a0,a1,a2,a3] aM)).alloc (.cells #[b0,b1,b2,b3] aM)).alloc (.cells #[c0,c1,c2,c3] aM)) (w.heap.size+1+1) c0 c1 c2 c3∧Below w.heap.size w (((w.alloc (.cells #[a0,a1,a2,a3] aM)).alloc (.cells #[b0,b1,b2,b3] aM)).alloc (.cells #[c0,c1,c2,c3] aM)):=by
 obtain⟨h1,h2,h3⟩:=aBv w a0 a1 a2 a3 b0 b1 b2 b3;have h4:=(Blk.new ((w.alloc (.cells #[a0,a1,a2,a3] aM)).alloc (.cells #[b0,b1,b2,b3] aM)) aM #[c0,c1,c2,c3]).vr;rw[World.size_alloc _,World.size_alloc w]at h4;exact⟨h1.alloc _,h2.alloc _,h4,h3.alloc h3.size _⟩
theorem bP{w w2:World}{g:Nat}{x0 x1 x2 x3:Value}{q:Rat}{b b2:Bool}{A A2:Option Addr}{n c n2 c2:Nat}(hb:Below w.heap.size w w2)(hg:w.heap.size≤g)(hv:Vr w2 g (.bool b) (.slice A n c) (.bool b2) (.slice A2 n2 c2))(h:Rt w2 (.agg #[x0,x1,x2,x3]) q): RetRt w q (.returned (.agg #[x0,x1,x2,x3])) (set4 w2 g x0 x1 x2 x3):=⟨_,rfl,h.set4 hv _ _ _ _,wI hb hg _ _ _ _⟩
def FitR(N:Nat)(q:Rat):Prop:=Fits N q.num∧Fits N (q.den:Int)
theorem FitR.mono{n m:Nat}{q:Rat}(h:FitR n q)(hm:n≤m):FitR m q:=⟨h.1.mono hm,h.2.mono hm⟩
theorem RetRt.of_eq{w:World}{q r:Rat}{e:Ending}{w':World}(h:RetRt w q e w')(hq:q=r):RetRt w r e w':=by rw[←hq];exact h
theorem wK{a b:Int}(ha:a≠0)(hb:b≠0):a*b≠0:=Int.mul_ne_zero ha hb
theorem pO(q:Rat):(q.den:Int)≠0:=by have:=den_pos q;omega
structure RtI(w:World)(N:Nat)(q:Rat)(n d:Int)(A:Option Addr)(l c:Nat)(B:Option Addr)(m e:Nat)(wx:World):Prop where
 vn:Var wx w.heap.size (.bool (decide (n<0))) (.slice A l c)
 vd:Var wx (w.heap.size+1) (.bool false) (.slice B m e)
 vr:Vr wx (w.heap.size+1+1) (.bool false) (.slice none 0 0) (.bool false) (.slice none 0 0)
 bn:Big wx (.agg #[.bool (decide (n<0)),.slice A l c]) n
 bd:Big wx (.agg #[.bool false,.slice B m e]) d
 pos:0<d
 eq:Rat.divInt n d=q
 fn:Fits N n
 fd:Fits N d
 below:Below w.heap.size w wx
theorem RtI.ext{w:World}{N:Nat}{q:Rat}{n d:Int}{A:Option Addr}{l c:Nat}{B:Option Addr}{m e:Nat}{wx w2:World}(h:RtI w N q n d A l c B m e wx)(hb:Below wx.heap.size wx w2):RtI w N q n d A l c B m e w2:=⟨h.vn.below hb,h.vd.below hb,h.vr.below hb,h.bn.ext hb,h.bd.ext hb,h.pos,h.eq,h.fn,h.fd,h.below.trans (hb.mono h.below.size)⟩
theorem RtI.done{w:World}{N:Nat}{q:Rat}{n d:Int}{A:Option Addr}{l c:Nat}{B:Option Addr}{m e:Nat}{wx:World}(h:RtI w N q n d A l c B m e wx)(hg:Int.gcd d n=1):Rt wx (.agg #[.bool (decide (n<0)),.slice A l c,.bool false,.slice B m e]) q:=by
 obtain⟨h1,h2⟩:=aHb h.pos hg;rw[h.eq]at h1 h2;have b1:=h.bn;have b2:=h.bd;rw[←h1]at b1;rw[←h2]at b2;have e1:decide (q.num<0)=decide (n<0):=by rw[h1]
 rw[e1]at b1;exact Rt.mk b1 b2
theorem aEk{ws:List Int}(ho:Ok ws)(hn:Nm ws){d:Int}(hv:val ws=d)(_hd:0<d):d=1↔ws.length=1∧ws.getD 0 0=1:=by
 constructor
 ·intro h;have h1:ws.length≤1:=lO ho hn (by rw[hv,h];decide);have h2:ws.length=1:=by
   cases ws with
   |nil=>simp[val]at hv;omega
   |cons x r=>simp at h1;simp[h1]
  refine⟨h2,?_⟩;match ws,h2 with
  |[x],_=>simp[val]at hv;simp;omega
 ·rintro⟨h1,h2⟩;match ws,h1 with
  |[x],_=>simp[val]at hv;simp at h2;omega
theorem Big.abs{w:World}{b:Bool}{A:Option Addr}{l c:Nat}{z:Int}(h:Big w (.agg #[.bool b,.slice A l c]) z):Big w (.agg #[.bool false,.slice A l c]) (z.natAbs:Int):=by
 obtain⟨A',c',ws,e,hr,hc,ho,hn,hv⟩:=h;injection e with e;have e1:=congrArg (fun a:Array Value=>a[1]?) e;simp at e1;obtain⟨rfl,rfl,rfl⟩:=e1;exact⟨A,c,ws,by rw[decide_eq_false (show¬((z.natAbs:Int)<0) by omega)],hr,hc,ho,hn,by rw[hv];omega⟩
theorem aZc{n d:Int}(hd:0<d):(Rat.divInt n d).num=sgn (decide (n<0)) ((n.natAbs/Int.gcd n d:Nat):Int)∧((Rat.divInt n d).den:Int)=d/(Int.gcd n d:Int):=by
 have hg:Int.gcd n d≠0:=fun h=>by have:=(Int.gcd_eq_zero_iff.1 h).2;omega
 rw[Rat.num_divInt,Rat.den_divInt,Int.sign_eq_one_of_pos hd,if_neg (by omega),Int.one_mul,Int.gcd_comm d n];constructor
 ·obtain⟨k,hk⟩:=Int.gcd_dvd_left (a:=n) (b:=d);have hgp:(0:Int)<(Int.gcd n d:Int):=by omega
  generalize Int.gcd n d=g at*;rw[hk,Int.mul_ediv_cancel_left _ (by omega),Int.natAbs_mul,Int.natAbs_natCast,Nat.mul_div_cancel_left _ (by omega)];by_cases hk0:k<0
  ·rw[decide_eq_true (Int.mul_neg_of_pos_of_neg hgp hk0)];simp only[sgn,if_true];omega
  ·rw[decide_eq_false (Int.not_lt.2 (Int.mul_nonneg (by omega) (by omega)))];simp[sgn];omega
 ·rw[Int.natCast_ediv];congr 1;omega
theorem wL{w':World}{a b:Nat}{x0 x1 y0 y1:Value}(h:Var w' a x0 x1)(k:Var w' b y0 y1):w'.cell? ⟨a,0,none⟩=some x0∧w'.cell? ⟨a,1,none⟩=some x1∧w'.cell? ⟨b,0,none⟩=some y0∧w'.cell? ⟨b,1,none⟩=some y1:=⟨h.c0,h.c1,k.c0,k.c1⟩
theorem aZd(w:World)(a0 a1 b0 b1:Value):Var (((w.alloc (.cells #[a0,a1] aK)).alloc (.cells #[b0,b1] aK)).alloc z4) w.heap.size a0 a1∧Var (((w.alloc (.cells #[a0,a1] aK)).alloc (.cells #[b0,b1] aK)).alloc z4) (w.heap.size+1) b0 b1∧ Vr (((w.alloc (.cells #[a0,a1] aK)).alloc (.cells #[b0,b1] aK)).alloc z4) (w.heap.size+1+1) (.bool false) (.slice none 0 0) (.bool false) (.slice none 0 0)∧Below w.heap.size w (((w.alloc (.cells #[a0,a1] aK)).alloc (.cells #[b0,b1] aK)).alloc z4):=by
 have h1:=(Blk.new w aK #[a0,a1]).var;have h2:=(Blk.new (w.alloc (.cells #[a0,a1] aK)) aK #[b0,b1]).var;rw[World.size_alloc w]at h2;have h3:=(Blk.new ((w.alloc (.cells #[a0,a1] aK)).alloc (.cells #[b0,b1] aK)) aM #[.bool false,.slice none 0 0,.bool false,.slice none 0 0]).vr;rw[World.size_alloc _,World.size_alloc w]at h3;exact⟨(h1.alloc _).alloc _,h2.alloc _,h3,(((Below.refl _ _).alloc lR _).alloc (by simp) _).alloc (by simp;omega) _⟩
theorem oH(u v:Value)(n d:Int)(w:World)(hu:Big w u n)(hv:Big w v d)(hd:d≠0){N:Nat}(hN:N≤300000000)(fn:Fits N n)(fd:Fits N d):Calls Tryz.prog 148 #[u,v] w (RetRt w (Rat.divInt n d)):=by
 obtain⟨A,l,c,rfl⟩:=hu.form;obtain⟨B,m,e,rfl⟩:=hv.form;obtain⟨bn,hbn⟩:∃b,decide (n<0)=b:=⟨_,rfl⟩;obtain⟨bd,hbd⟩:∃b,decide (d<0)=b:=⟨_,rfl⟩;rw[hbn]at hu⊢;rw[hbd]at hv⊢;have HBN:=aH hbn;clear hbn;obtain⟨vn,vd,vr,hb⟩:=aZd w (.bool bn) (.slice A l c) (.bool bd) (.slice B m e);have VN:=aH vn;have VD:=aH vd;have VRR:=aH vr;have HB:=aH hb;have BN:=aH (hu.ext hb);have BD:=aH (hv.ext hb);have FN:=aH fn;have FD:=aH fd;clear vn vd vr hb hu hv fn fd;obtain⟨q,hq⟩:∃q,Rat.divInt n d=q:=⟨_,rfl⟩;rw[hq];have HQ:=aH hq;clear hq;unfold z4 aM aK at*;go_enter Tryz.func148,Tryz.ntmps148;go_upto_if 8 with fail
 generalize hW0:((w.alloc (Obj.cells #[Value.bool bn,Value.slice A l c] 120)).alloc (Obj.cells #[Value.bool bd,Value.slice B m e] 120)).alloc (Obj.cells #[Value.bool false,Value.slice none 0 0,Value.bool false,Value.slice none 0 0] 122)=W0 at*;clear hW0;go_cut [1] (fun _ wx=>∃n' d' A l c B m e,RtI w N q n' d' A l c B m e wx)
 case first=>
  by_cases hneg:d<0
  ·obtain rfl:bd=true:=by rw[←hbd];exact decide_eq_true hneg
   clear hbd;have VND:=aH VN.out.drew;have VDD:=aH VD.out.drew;have BND:=aH BN.out.drew;have BDD:=aH BD.out.drew;have HBD:=aH HB.out.drew;have VRD:=aH VRR.out.drew;go_upto_region 2 with(fail)
   refine aJ (fun w'=>w'.cell? ⟨w.heap.size,0,none⟩=some (.bool bn)∧w'.cell? ⟨w.heap.size,1,none⟩=some (.slice A l c)∧w'.cell? ⟨w.heap.size+1,0,none⟩=some (.bool true)∧w'.cell? ⟨w.heap.size+1,1,none⟩=some (.slice B m e)) 4 (by kernel_rfl) ?_;refine tkS (wL VND.out VDD.out) fun hSS=>?_;refine aZ 0 (.agg #[.bool bn,.slice A l c]) rfl hSS ?_;refine aZ 2 (.agg #[.bool true,.slice B m e]) rfl hSS ?_;refine on1 1 fun K hK=>?_;go_simp;go_at_call 155;refine(tX _ n _ BND.out).mono ?_;rintro e1 w1 ⟨v1,rfl,hv,hb⟩;obtain⟨nb,A1,l1,c1,rfl⟩:=hv.ofWords;have HNB:=aH hv.flag;have HB1:=aH (HBD.out.trans (hb.mono HBD.out.size));have VN1:=aH (VND.out.below hb);have VD1:=aH (VDD.out.below hb);have VR1:=aH (VRD.out.below hb);have BD1:=aH (BDD.out.ext hb);have HV1:=aH hv;refine hK.out _ _ (fun _=>wL VN1.out VD1.out) ?_;clear hK K hb hv;refine on1 3 fun K hK=>?_;go_simp;go_at_call 155;refine(tX _ d _ BD1.out).mono ?_;rintro e2 w2 ⟨v2,rfl,hv,hb⟩;obtain⟨A2,l2,c2,rfl⟩:=hv.form;have ed2:decide (-d<0)=false:=decide_eq_false (by omega);rw[ed2]at hv⊢;have HB2:=aH (HB1.out.trans (hb.mono HB1.out.size));have VN2:=aH (VN1.out.below hb);have VD2:=aH (VD1.out.below hb);have VR2:=aH (VR1.out.below hb);have BN2:=aH (HV1.out.ext hb);have BD2:=aH hv;refine hK.out _ _ (fun _=>wL VN2.out VD2.out) ?_;clear hK K hb hv;have VD3:=VD2.out.far (g':=w.heap.size) (by omega) (.bool nb) (.slice A1 l1 c1);have HI:Hid (RtI w N q (-n) (-d) A1 l1 c1 A2 l2 c2 ((((w2.setCell ⟨w.heap.size,0,none⟩ (.bool nb)).setCell ⟨w.heap.size,1,none⟩ (.slice A1 l1 c1)).setCell ⟨w.heap.size+1,0,none⟩ (.bool false)).setCell ⟨w.heap.size+1,1,none⟩ (.slice A2 l2 c2))):=aH ⟨by rw[←HNB.out];exact(VN2.out.set _ _).far (by omega) _ _,VD3.set _ _,(VR2.out.far2 (by omega) _ _).far2 (by omega) _ _,by rw[←HNB.out];exact(BN2.out.setVar VN2.out _ _).setVar VD3 _ _,(BD2.out.setVar VN2.out _ _).setVar VD3 _ _,by omega,by rw[←HQ.out,Rat.neg_divInt_neg],FN.out.neg,FD.out.neg,((((HB2.out.setCell (p:=⟨w.heap.size,0,none⟩) lR _).setCell (p:=⟨w.heap.size,1,none⟩) lR _).setCell (p:=⟨w.heap.size+1,0,none⟩) (Nat.le_succ _) _).setCell (p:=⟨w.heap.size+1,1,none⟩) (Nat.le_succ _) _)⟩
   have r0:=VN2.out.c0;have r1:=VN2.out.c1;have r2:=VN2.out.f0;have r3:=VN2.out.f1;refine on1 4 fun K hK=>?_;go_simp;refine hK.out _ _ (fun h=>absurd h (by decide)) ?_;clear hK K r0 r1 r2 r3;have r0:=VD3.c0;have r1:=VD3.c1;have r2:=VD3.f0;have r3:=VD3.f1;refine on1 5 fun K hK=>?_;go_simp;refine hK.out _ _ (fun h=>absurd h (by decide)) ?_;clear hK K r0 r1 r2 r3 VD3;refine aG (by kernel_rfl) ?_ _;go_wp2_with fail;go_meet;exact⟨_,_,_,_,_,_,_,_,HI.out⟩
  ·obtain rfl:bd=false:=by rw[←hbd];exact decide_eq_false hneg
   clear hbd;have HI:Hid (RtI w N q n d A l c B m e W0):=aH ⟨by rw[HBN.out];exact VN.out,VD.out,VRR.out,by rw[HBN.out];exact BN.out,BD.out,by omega,HQ.out,FN.out,FD.out,HB.out⟩;clear VN VD VRR BN BD HQ FN FD HB;go_wp2_with fail;go_meet;exact⟨_,_,_,_,_,_,_,_,HI.out⟩
 case rest=>
  clear VN VD VRR BN BD HQ FN FD HB HBN hbd;clear hd;obtain⟨n,d,A,l,c,B,m,e,hI⟩:=hcut;obtain⟨wd,Bm,hwd,hvd⟩:∃wd,∃_:wd.length=m,Nn wc B e wd∧val wd=d:=by
   obtain⟨B',e',wd,h1,h2,h3⟩:=hI.bd.nn;injection h1 with h1;have h4:=congrArg (fun a:Array Value=>a[1]?) h1;simp at h4;obtain⟨rfl,rfl,rfl⟩:=h4;exact⟨wd,rfl,h2,by have:=hI.pos;omega⟩
  subst Bm;have HW1:=aH (aEk hwd.ok hwd.nm hvd hI.pos);have d0:=hI.vd.c0;have d1:=hI.vd.c1;have n0:=hI.vn.c0;have n1:=hI.vn.c1;have HI:=aH hI;have HWD:=aH hwd;clear hI hwd hvd;obtain⟨nb,hnb⟩:∃b,decide (n<0)=b:=⟨_,rfl⟩;rw[hnb]at n0;have HNB:=aH hnb;clear hnb;go_upto_region 3 with fail
  go_cut [23] (fun t wx=>t= .bool (decide (d=1))∧wx=wc)
  case first=>
   by_cases h1:wd.length=1
   ·obtain⟨b0,o0,rfl,-,hc⟩:=HWD.out.reads.word (k:=0) (by omega);have t1:((wd.length:Int)==1)=true:=beq_iff_eq.2 (by omega);obtain⟨x,hx⟩:∃x,wd.getD 0 0=x:=⟨_,rfl⟩;rw[hx,Nat.add_zero]at hc;by_cases h2:x=1
    ·have HR:=aH (show decide (d=1)=true from decide_eq_true (HW1.out.2 ⟨h1,by rw[hx,h2]⟩));have t2:(x==1)=true:=beq_iff_eq.2 h2;clear HW1 hx;go_wp2_with fail;go_meet;exact⟨by rw[HR.out],rfl⟩
    ·have HR:=aH (show decide (d=1)=false from decide_eq_false fun k=>h2 (by rw[←hx];exact(HW1.out.1 k).2));have t2:(x==1)=false:=beq_eq_false_iff_ne.2 h2;clear HW1 hx;go_wp2_with fail;go_meet;exact⟨by rw[HR.out],rfl⟩
   ·have t1:((wd.length:Int)==1)=false:=beq_eq_false_iff_ne.2 (by omega);have HR:=aH (show decide (d=1)=false from decide_eq_false fun k=>h1 (HW1.out.1 k).1);clear HW1;go_wp2_with fail;go_meet;exact⟨by rw[HR.out],rfl⟩
  case rest=>
   obtain⟨rfl,rfl⟩:=hcut;clear HW1 HWD;by_cases h1:d=1
   ·have td:decide (d=1)=true:=decide_eq_true h1;rw[td];subst h1;clear td;have HR:=bP (g:=w.heap.size+1+1) HI.out.below (by omega) HI.out.vr (HI.out.done (by rw[Int.gcd_comm,Int.gcd_one]));rw[HNB.out]at HR;have HR:=aH HR;have HZ:=aH (HI.out.vr.set (.bool nb) (.slice A l c) (.bool false) (.slice B wd.length e));unfold set4 at HR HZ;have r0:=HI.out.vr.c0;have r1:=HI.out.vr.c1;have r2:=HI.out.vr.c2;have r3:=HI.out.vr.c3;have q0:=HI.out.vr.f0;have q1:=HI.out.vr.f1;have q2:=HI.out.vr.f2;have q3:=HI.out.vr.f3;clear HI;go_wp2;have z0:=HZ.out.c0;have z1:=HZ.out.c1;have z2:=HZ.out.c2;have z3:=HZ.out.c3;generalize((((wc.setCell ⟨w.heap.size+1+1,0,none⟩ (.bool nb)).setCell ⟨w.heap.size+1+1,1,none⟩ (.slice A l c)).setCell ⟨w.heap.size+1+1,2,none⟩ (.bool false)).setCell ⟨w.heap.size+1+1,3,none⟩ (.slice B wd.length e))=W at*;exact bodyPost_ret (v:= .agg #[.bool nb,.slice A l c,.bool false,.slice B wd.length e]) (by simp[results,Tryz.results148,go_sem,z0,z1,z2,z3]) rfl HR.out
   ·have td:decide (d=1)=false:=decide_eq_false h1;rw[td];clear h1 td;go_wp2_with fail;have hbn:=HI.out.bn;rw[HNB.out]at hbn;refine(aJa _ _ n d _ hbn HI.out.bd (N:=N) (by omega) HI.out.fn HI.out.fd).mono ?_;clear hbn n0 n1 d0 d1;rintro e1 w1 ⟨v1,rfl,hg,hb⟩;obtain⟨Ag,cg,wg,rfl,hwg,hvg⟩:=hg.nn;have hg0:decide (((Int.gcd n d:Nat):Int)<0)=false:=decide_eq_false (by omega);rw[hg0]at hg⊢;rw[Int.natAbs_natCast]at hvg;have hb2:=hb.alloc hb.size (.cells #[.bool false,.slice Ag wg.length cg] aK);have HI2:=aH (HI.out.ext hb2);have VG:=aH (Blk.new w1 aK #[.bool false,.slice Ag wg.length cg]).var;have BG:=aH (hg.alloc (.cells #[.bool false,.slice Ag wg.length cg] aK));have HWG:=aH (hwg.ext ((Below.refl _ _).alloc lR (.cells #[.bool false,.slice Ag wg.length cg] aK)));have hgp:0<((Int.gcd n d:Nat):Int):=by
     have:Int.gcd n d≠0:=fun h=>by have:=(Int.gcd_eq_zero_iff.1 h).2;have:=HI.out.pos;omega
     omega
    have HW1:=aH (aEk hwg.ok hwg.nm hvg hgp);have hgx:w.heap.size+1+1<w1.heap.size:=by have:=HI.out.vr.lt;have:=hb.size;omega
    clear hb hb2 hg hwg hvg HI hg0;obtain⟨g,hgg⟩:∃g,Int.gcd n d=g:=⟨_,rfl⟩;rw[hgg]at HW1 BG hgp;have HGG:=aH hgg;clear hgg;unfold aK at*;have g0:=VG.out.c0;have g1:=VG.out.c1;go_upto_region 6 with fail
    generalize w1.alloc (Obj.cells #[Value.bool false,Value.slice Ag wg.length cg] 120)=wy at*;generalize w1.heap.size=gg at*;go_cut [40] (fun t wx=>t= .bool (decide (g=1))∧wx=wy)
    case first=>
     by_cases h1:wg.length=1
     ·obtain⟨b0,o0,rfl,-,hc⟩:=HWG.out.reads.word (k:=0) (by omega);have t1:((wg.length:Int)==1)=true:=beq_iff_eq.2 (by omega);obtain⟨x,hx⟩:∃x,wg.getD 0 0=x:=⟨_,rfl⟩;rw[hx,Nat.add_zero]at hc;by_cases h2:x=1
      ·have HR:=aH (show decide (g=1)=true from decide_eq_true (by have:=HW1.out.2 ⟨h1,by rw[hx,h2]⟩;omega));have t2:(x==1)=true:=beq_iff_eq.2 h2;clear HW1 hx;go_wp2_with fail;go_meet;exact⟨by rw[HR.out],rfl⟩
      ·have HR:=aH (show decide (g=1)=false from decide_eq_false fun k=>h2 (by rw[←hx];exact(HW1.out.1 (by omega)).2));have t2:(x==1)=false:=beq_eq_false_iff_ne.2 h2;clear HW1 hx;go_wp2_with fail;go_meet;exact⟨by rw[HR.out],rfl⟩
     ·have t1:((wg.length:Int)==1)=false:=beq_eq_false_iff_ne.2 (by omega);have HR:=aH (show decide (g=1)=false from decide_eq_false fun k=>h1 (HW1.out.1 (by omega)).1);clear HW1;go_wp2_with fail;go_meet;exact⟨by rw[HR.out],rfl⟩
    case rest=>
     obtain⟨rfl,rfl⟩:=hcut;clear HW1 HWG g0 g1;have n0:=HI2.out.vn.c0;have n1:=HI2.out.vn.c1;have d0:=HI2.out.vd.c0;have d1:=HI2.out.vd.c1;rw[HNB.out]at n0;by_cases h1:g=1
     ·have td:decide (g=1)=true:=decide_eq_true h1;rw[td];subst h1;clear td;have HI:=HI2;clear HI2;have HR:=bP (g:=w.heap.size+1+1) HI.out.below (by omega) HI.out.vr (HI.out.done (by rw[Int.gcd_comm,HGG.out]));rw[HNB.out]at HR;have HR:=aH HR;have HZ:=aH (HI.out.vr.set (.bool nb) (.slice A l c) (.bool false) (.slice B wd.length e));unfold set4 at HR HZ;have r0:=HI.out.vr.c0;have r1:=HI.out.vr.c1;have r2:=HI.out.vr.c2;have r3:=HI.out.vr.c3;have q0:=HI.out.vr.f0;have q1:=HI.out.vr.f1;have q2:=HI.out.vr.f2;have q3:=HI.out.vr.f3;clear HI;go_wp2;have z0:=HZ.out.c0;have z1:=HZ.out.c1;have z2:=HZ.out.c2;have z3:=HZ.out.c3;generalize((((wc.setCell ⟨w.heap.size+1+1,0,none⟩ (.bool nb)).setCell ⟨w.heap.size+1+1,1,none⟩ (.slice A l c)).setCell ⟨w.heap.size+1+1,2,none⟩ (.bool false)).setCell ⟨w.heap.size+1+1,3,none⟩ (.slice B wd.length e))=W at*;exact bodyPost_ret (v:= .agg #[.bool nb,.slice A l c,.bool false,.slice B wd.length e]) (by simp[results,Tryz.results148,go_sem,z0,z1,z2,z3]) rfl HR.out
     ·have td:decide (g=1)=false:=decide_eq_false h1;rw[td];clear td h1;have f0:=HI2.out.vn.f0;have f1:=HI2.out.vn.f1;have VG:=aH VG.out;have hne1:gg≠w.heap.size:=by omega
      have hne2:gg≠w.heap.size+1:=by omega
      have hne3:gg≠w.heap.size+1+1:=by omega
      --the sign is struck
      have VN1:=HI2.out.vn.set0 (.bool false)
      have VD1 := HI2.out.vd.far0 (g' := w.heap.size) (by omega) (.bool false)
      have VR1 := HI2.out.vr.off (p := ⟨w.heap.size, 0, none⟩) (by simp only; omega) (.bool false)
      have VG1 := VG.out.far0 (g' := w.heap.size) (by omega) (.bool false)
      have BN1 := HI2.out.bn.abs.set HI2.out.vn.c0 (bO _) (.bool false)
      have BD1 := HI2.out.bd.set HI2.out.vn.c0 (bO _) (.bool false)
      have BG1 := BG.out.set HI2.out.vn.c0 (bO _) (.bool false)
      have HB1 := HI2.out.below.setCell (p := ⟨w.heap.size, 0, none⟩) lR (.bool false)
      have hgd : (g : Int) ≤ d := by rw [← HGG.out]; exact Int.le_of_dvd HI2.out.pos (Int.gcd_dvd_right ..)
      have FG : Fits N (g : Int) := by have := HI2.out.fd; unfold Fits at *; omega
      have FA:Fits N (n.natAbs:Int):=by have:=HI2.out.fn;unfold Fits at*;omega
      have HDM:=aH (vD _ _ (n.natAbs:Int) (g:Int) _ BN1 BG1 (N:=N) (by omega) FA FG hgp);have HRED:=aH (aZc (n:=n) HI2.out.pos);rw[HI2.out.eq,HGG.out,HNB.out]at HRED;have FD:=aH HI2.out.fd;have FG:=aH FG;have VN1:=aH VN1;have VD1:=aH VD1;have VR1:=aH VR1;have VG1:=aH VG1;have BD1:=aH BD1;have BG1:=aH BG1;have HB1:=aH HB1;have a0:=VN1.out.c0;have a1:=VN1.out.c1;have b0:=VG1.out.c0;have b1:=VG1.out.c1;clear BN1 FA hgd HI2 VG BG d0 d1;go_upto_region 10 with fail
      generalize wc.setCell ⟨w.heap.size,0,none⟩ (.bool false)=W1 at*;clear n0 n1 f0 f1;go_wp2_with fail;refine HDM.out.mono ?_;rintro e2 w2 ⟨vq,vr,rfl,hq,-,hb⟩;obtain⟨A1,l1,c1,rfl⟩:=hq.form;have eq0:decide ((n.natAbs:Int)/(g:Int)<0)=false:=decide_eq_false (Int.not_lt.2 (Int.ediv_nonneg (by omega) (by omega)));rw[eq0]at hq⊢;have VN2:=VN1.out.below hb;have VD2:=VD1.out.below hb;have VR2:=VR1.out.below hb;have VG2:=VG1.out.below hb;have BD2:=BD1.out.ext hb;have BG2:=BG1.out.ext hb;have HB2:=HB1.out.trans (hb.mono HB1.out.size);have VN3:=aH (VN2.set (.bool false) (.slice A1 l1 c1));have VD3:=aH (VD2.far (g':=w.heap.size) (by omega) (.bool false) (.slice A1 l1 c1));have VR3:=aH (VR2.far2 (g':=w.heap.size) (by omega) (.bool false) (.slice A1 l1 c1));have VG3:=aH (VG2.far (g':=w.heap.size) (by omega) (.bool false) (.slice A1 l1 c1));have BN3:=aH (hq.setVar VN2 (.bool false) (.slice A1 l1 c1));have BD3:=aH (BD2.setVar VN2 (.bool false) (.slice A1 l1 c1));have BG3:=aH (BG2.setVar VN2 (.bool false) (.slice A1 l1 c1));have HB3:=aH ((HB2.setCell (p:=⟨w.heap.size,0,none⟩) lR (.bool false)).setCell (p:=⟨w.heap.size,1,none⟩) lR (.slice A1 l1 c1));have r0:=VN2.c0;have r1:=VN2.c1;have r2:=VN2.f0;have r3:=VN2.f1;clear hb hq eq0 VN2 VD2 VR2 VG2 BD2 BG2 HB2 VN1 VD1 VR1 VG1 BD1 BG1 HB1 HDM a0 a1 b0 b1;go_upto_region 11 with fail
      generalize(w2.setCell ⟨w.heap.size,0,none⟩ (.bool false)).setCell ⟨w.heap.size,1,none⟩ (.slice A1 l1 c1)=W3 at*;clear r0 r1 r2 r3;have HDM:=aH (vD _ _ d (g:Int) _ BD3.out BG3.out (N:=N) (by omega) FD.out FG.out hgp);have a0:=VD3.out.c0;have a1:=VD3.out.c1;have b0:=VG3.out.c0;have b1:=VG3.out.c1;go_wp2_with fail;refine HDM.out.mono ?_;rintro e4 w4 ⟨vq,vr,rfl,hq,-,hb⟩;obtain⟨A2,l2,c2,rfl⟩:=hq.form;have eq0:decide (d/(g:Int)<0)=false:=decide_eq_false (by rw[←HRED.out.2];omega);rw[eq0]at hq⊢;have VN4:=VN3.out.below hb;have VD4:=VD3.out.below hb;have VR4:=VR3.out.below hb;have BN4:=BN3.out.ext hb;have HB4:=HB3.out.trans (hb.mono HB3.out.size);have VD5:=aH (VD4.set (.bool false) (.slice A2 l2 c2));have VN5:=aH (VN4.far (g':=w.heap.size+1) (by omega) (.bool false) (.slice A2 l2 c2));have VR5:=aH (VR4.far2 (g':=w.heap.size+1) (by omega) (.bool false) (.slice A2 l2 c2));have BN5:=aH (BN4.setVar VD4 (.bool false) (.slice A2 l2 c2));have BD5:=aH (hq.setVar VD4 (.bool false) (.slice A2 l2 c2));have HB5:=aH ((HB4.setCell (p:=⟨w.heap.size+1,0,none⟩) (Nat.le_succ _) (.bool false)).setCell (p:=⟨w.heap.size+1,1,none⟩) (Nat.le_succ _) (.slice A2 l2 c2));have r0:=VD4.c0;have r1:=VD4.c1;have r2:=VD4.f0;have r3:=VD4.f1;clear hb hq eq0 VN4 VD4 VR4 BN4 HB4 VN3 VD3 VR3 VG3 BN3 BD3 BG3 HB3 HDM a0 a1 b0 b1;go_upto_region 12 with fail
      generalize(w4.setCell ⟨w.heap.size+1,0,none⟩ (.bool false)).setCell ⟨w.heap.size+1,1,none⟩ (.slice A2 l2 c2)=W5 at*;clear r0 r1 r2 r3;obtain⟨fb,hfb⟩:∃b,(nb&&decide (0<l1))=b:=⟨_,rfl⟩;have hsg:=BN5.out.signed (x:=n.natAbs/g) nb;rw[hfb,←HRED.out.1]at hsg;have hbd:=BD5.out;rw[←HRED.out.2]at hbd;have VN6:=aH (VN5.out.set0 (.bool fb));have VD6:=aH (VD5.out.far0 (g':=w.heap.size) (by omega) (.bool fb));have VR6:=VR5.out.off (p:=⟨w.heap.size,0,none⟩) (by simp only;omega) (.bool fb);have HR:=bP (g:=w.heap.size+1+1) (HB5.out.setCell (p:=⟨w.heap.size,0,none⟩) lR (.bool fb)) (by omega) VR6 (Rt.mk (hsg.set VN5.out.c0 (bO _) (.bool fb)) (hbd.set VN5.out.c0 (bO _) (.bool fb)));have HR:=aH HR;have HZ:=aH (VR6.set (.bool fb) (.slice A1 l1 c1) (.bool false) (.slice A2 l2 c2));have VR6:=aH VR6;unfold set4 at HR HZ;have a0:=VN5.out.c0;have a1:=VN5.out.c1;have a2:=VN5.out.f0;have a3:=VN5.out.f1;clear hsg hbd VN5 VD5 VR5 BN5 BD5 HB5 HRED;have HFB:(nb=false∧fb=false)∨(nb=true∧decide (0<l1)=fb):=by
       cases nb
       ·exact .inl ⟨rfl,by rw[←hfb];rfl⟩
       ·exact .inr ⟨rfl,by rw[←hfb];rfl⟩
      clear hfb;rcases HFB with⟨rfl,rfl⟩|⟨rfl,rfl⟩
      ·go_upto_region 13 with fail
       generalize W5.setCell ⟨w.heap.size,0,none⟩ (.bool false)=W6 at*;clear a0 a1 a2 a3;have r0:=VR6.out.c0;have r1:=VR6.out.c1;have r2:=VR6.out.c2;have r3:=VR6.out.c3;have q0:=VR6.out.f0;have q1:=VR6.out.f1;have q2:=VR6.out.f2;have q3:=VR6.out.f3;have x0:=VN6.out.c0;have x1:=VN6.out.c1;have y0:=VD6.out.c0;have y1:=VD6.out.c1;go_wp2;have z0:=HZ.out.c0;have z1:=HZ.out.c1;have z2:=HZ.out.c2;have z3:=HZ.out.c3;generalize((((W6.setCell ⟨w.heap.size+1+1,0,none⟩ (.bool false)).setCell ⟨w.heap.size+1+1,1,none⟩ (.slice A1 l1 c1)).setCell ⟨w.heap.size+1+1,2,none⟩ (.bool false)).setCell ⟨w.heap.size+1+1,3,none⟩ (.slice A2 l2 c2))=W at*;exact bodyPost_ret (v:= .agg #[.bool false,.slice A1 l1 c1,.bool false,.slice A2 l2 c2]) (by simp[results,Tryz.results148,go_sem,z0,z1,z2,z3]) rfl HR.out
      ·go_upto_region 13 with fail
       generalize W5.setCell ⟨w.heap.size,0,none⟩ (.bool (decide (0<l1)))=W6 at*;clear a0 a1 a2 a3;have r0:=VR6.out.c0;have r1:=VR6.out.c1;have r2:=VR6.out.c2;have r3:=VR6.out.c3;have q0:=VR6.out.f0;have q1:=VR6.out.f1;have q2:=VR6.out.f2;have q3:=VR6.out.f3;have x0:=VN6.out.c0;have x1:=VN6.out.c1;have y0:=VD6.out.c0;have y1:=VD6.out.c1;go_wp2;have z0:=HZ.out.c0;have z1:=HZ.out.c1;have z2:=HZ.out.c2;have z3:=HZ.out.c3;generalize((((W6.setCell ⟨w.heap.size+1+1,0,none⟩ (.bool (decide (0<l1)))).setCell ⟨w.heap.size+1+1,1,none⟩ (.slice A1 l1 c1)).setCell ⟨w.heap.size+1+1,2,none⟩ (.bool false)).setCell ⟨w.heap.size+1+1,3,none⟩ (.slice A2 l2 c2))=W at*;exact bodyPost_ret (v:= .agg #[.bool (decide (0<l1)),.slice A1 l1 c1,.bool false,.slice A2 l2 c2]) (by simp[results,Tryz.results148,go_sem,z0,z1,z2,z3]) rfl HR.out
end Go.Proofs.YtenbglfkdldheaaGreatDoor
