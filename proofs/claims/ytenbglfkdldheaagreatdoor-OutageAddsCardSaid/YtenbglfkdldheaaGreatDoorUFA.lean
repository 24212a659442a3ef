/- flow: a model in the making: its eight slices and what an append to one of them leaves of the others. flow.Check. -/
import Derived.Test.YtenbglfkdldheaaGreatDoorUGB
import Derived.Test.YtenbglfkdldheaaGreatDoorUSB
import Derived.Test.YtenbglfkdldheaaGreatDoorUSO
import Derived.Maps.OwnSet
import Derived.Maps.RangeWalk
set_option maxRecDepth 100000
set_option maxHeartbeats 16000000
namespace Go.Proofs.YtenbglfkdldheaaGreatDoor
section
open Go.RowKit
abbrev qH:TypeId:=115
abbrev kO:TypeId:=3
def ixM(j:Nat):Nat:=if j<4 then j else 6
def fJ{α:Type}(f:Nat→α)(j:Nat)(x:α):Nat→α:=fun i=>if i=j then x else f i
theorem eY{α:Type}(f:Nat→α)(j:Nat)(x:α):fJ f j x j=x:=if_pos rfl
theorem eF{α:Type}(f:Nat→α){i j:Nat}(x:α)(h:i≠j):fJ f j x i=f i:=if_neg h
structure MS(w:World)(base g:Nat)(rs:Nat→Value)(is:Nat→List Int)(qs:Nat→Value)(ts:Nat→List Rat)(iv:Value):Prop where
 ge:base≤g
 blk:Blk w g qH #[rs 0,rs 1,rs 2,rs 3,qs 0,qs 1,rs 4,iv]
 ri:∀j,j<5→Row w base kO 1 (rs j) (is j).length ((is j).map I)
 nw:∀j,2≤j→j<5→∀b o x,(rs j).ownBlock=some b→w.cell? ⟨b,o,none⟩≠some (U x)
 rq:∀j,j<2→RRow w base (qs j) (ts j)
 si:∀i j b,i<5→j<5→i≠j→(2≤i∨2≤j)→(rs i).ownBlock=some b→(rs j).ownBlock≠some b
 sq:∀i j b,i<2→j<2→i≠j→(qs i).ownBlock=some b→(qs j).ownBlock≠some b
section
variable {w w':World} {base g:Nat} {rs:Nat→Value} {is:Nat→List Int} {qs:Nat→Value} {ts:Nat→List Rat} {iv:Value}
theorem MS.call(h:MS w base g rs is qs ts iv)(hb:Below w.heap.size w w'):MS w' base g rs is qs ts iv:=⟨h.ge,h.blk.below hb h.blk.lt,fun j hj=>(h.ri j hj).call hb,fun j h2 hj b o x e=>by rw[hb.cell (p:=⟨b,o,none⟩) (own_lt (h.ri j hj) e).2.1];exact h.nw j h2 hj b o x e,fun j hj=>(h.rq j hj).call hb,h.si,h.sq⟩
theorem MS.nrow(h:MS w base g rs is qs ts iv){j:Nat}(h2:2≤j)(hj:j<5):NRow w base kO (rs j) ((is j).map I):=⟨by rw[List.length_map];exact h.ri j hj,fun b o x e=>h.nw j h2 hj b o x e,fun u hu=>by
  obtain⟨x,_,rfl⟩:=List.mem_map.1 hu;exact⟨(fun m e=>by cases e),rfl⟩⟩
theorem MS.noG(h:MS w base g rs is qs ts iv){j:Nat}(hj:j<5):(rs j).ownBlock≠some g:=fun e=>own_ne (h.ri j hj) h.blk (by decide) g e rfl
theorem MS.noGq(h:MS w base g rs is qs ts iv){j:Nat}(hj:j<2):(qs j).ownBlock≠some g:=fun e=>by
 obtain⟨⟨ys,hrow,_⟩,_⟩:=h.rq j hj;exact own_ne hrow h.blk (by decide) g e rfl
theorem MS.noQI(h:MS w base g rs is qs ts iv){i j b:Nat}(hi:i<5)(hj:j<2)(e:(rs i).ownBlock=some b):(qs j).ownBlock≠some b:=fun k=>by
 obtain⟨cs,hB⟩:=(h.rq j hj).blk k;exact own_ne (h.ri i hi) hB (by decide) b e rfl
theorem MS.cellI(h:MS w base g rs is qs ts iv){j:Nat}(hj:j<5):w.cell? ⟨g,ixM j,none⟩=some (rs j):=by
 rw[h.blk.cell];match j,hj with
 |0,_=>rfl
 |1,_=>rfl
 |2,_=>rfl
 |3,_=>rfl
 |4,_=>rfl
theorem MS.cellQ(h:MS w base g rs is qs ts iv){j:Nat}(hj:j<2):w.cell? ⟨g,4+j,none⟩=some (qs j):=by
 rw[h.blk.cell];match j,hj with
 |0,_=>rfl
 |1,_=>rfl
theorem aYi{e:TypeId}{sz n:Nat}{v:Value}{xs:List Value}(h:Row w base e sz v n xs):noWord v:=by
 obtain⟨A,c,rfl⟩:=h.val;exact bJ _ _ _
theorem fS{r:Option Nat}{b:Nat}(hg:w.grownBy w' r)(hb:b<w.heap.size)(hr:r≠some b):w'.heap[b]?=w.heap[b]?:=hg.block b hb fun k=>hr k.symm
theorem yX{e:TypeId}{sz n:Nat}{v:Value}{xs:List Value}{r:Option Nat}(h:Row w base e sz v n xs)(hg:w.grownBy w' r)(hr:∀b,v.ownBlock=some b→r≠some b):Row w' base e sz v n xs:=h.keepO fun b hb=>fS hg (own_lt h hb).2.1 (hr b hb)
theorem vE{v:Value}{l:List Rat}{r:Option Nat}(h:RRow w base v l)(k:Kw w w')(hg:w.grownBy w' r)(hr:∀b,v.ownBlock=some b→r≠some b):RRow w' base v l:=h.keep k fun b hb=>fS hg (h.lt hb).2 (hr b hb)
theorem MS.appI(h:MS w base g rs is qs ts iv){j:Nat}(h2:2≤j)(hj:j<5){x:Int}{v':Value}(a:NApd w base kO (rs j) (((is j)++[x]).map I) v' w'): MS (w'.setCell ⟨g,ixM j,none⟩ v') base g (fJ rs j v') (fJ is j (is j++[x])) qs ts iv∧Kw w (w'.setCell ⟨g,ixM j,none⟩ v')∧ ∀b,b<w.heap.size→b≠g→(rs j).ownBlock≠some b→(w'.setCell ⟨g,ixM j,none⟩ v').heap[b]?=w.heap[b]?:=by
 have hgB:Blk w' g qH #[rs 0,rs 1,rs 2,rs 3,qs 0,qs 1,rs 4,iv]:=(fS a.grown h.blk.lt (h.noG hj)).trans h.blk;have hc:w'.cell? ⟨g,ixM j,none⟩=some (rs j):=by rw[World.cell?_of_block (a:=⟨g,ixM j,none⟩) (fS a.grown h.blk.lt (h.noG hj))];exact h.cellI hj
 have hns:noWord (rs j):=aYi (h.ri j hj);have k2:=sM hc hns v';have hlen:(((is j)++[x]).map I).length=(is j++[x]).length:=List.length_map _;have hv:=a.row.row;rw[hlen]at hv;have hvg:∀b,v'.ownBlock=some b→b≠g:=own_ne hv hgB (by decide);have keep:∀b,b≠g→(w'.setCell ⟨g,ixM j,none⟩ v').heap[b]?=w'.heap[b]?:=fun b hb=>Below.heap_setCell w' _ v' b hb;refine⟨⟨h.ge,?_,fun i hi=>?_,fun i hi2 hi b o y e=>?_,fun i hi=>?_,fun i k b hi hk hik h22 e=>?_,h.sq⟩,a.kw.trans k2,fun b hb h1 h3=>(keep b h1).trans (fS a.grown hb h3)⟩
 ·have h0:=hgB.set_ (ixM j) v';have e:(#[rs 0,rs 1,rs 2,rs 3,qs 0,qs 1,rs 4,iv]:Array Value).setIfInBounds (ixM j) v'=#[fJ rs j v' 0,fJ rs j v' 1,fJ rs j v' 2,fJ rs j v' 3,qs 0,qs 1,fJ rs j v' 4,iv]:=by
   match j,hj with
   |0,_=>rfl
   |1,_=>rfl
   |2,_=>rfl
   |3,_=>rfl
   |4,_=>rfl
  rw[e]at h0;exact h0
 ·by_cases e:i=j
  ·subst e;rw[eY,eY];exact hv.keepO fun b hb=>keep b (hvg b hb)
  ·rw[eF _ _ e,eF _ _ e];have hr:=yX (h.ri i hi) a.grown fun b hb=>h.si i j b hi hj e (.inr h2) hb;exact hr.keepO fun b hb=>keep b fun k=>h.noG hi (by rw[←k];exact hb)
 ·by_cases e1:i=j
  ·subst e1;rw[eY]at e;rw[World.cell?_of_block (a:=⟨b,o,none⟩) (keep b (hvg b e))];exact a.row.nw b o y e
  ·rw[eF _ _ e1]at e;have hbg:b≠g:=fun k=>h.noG hi (by rw[←k];exact e);rw[World.cell?_of_block (a:=⟨b,o,none⟩) (keep b hbg),World.cell?_of_block (a:=⟨b,o,none⟩) (fS a.grown (own_lt (h.ri i hi) e).2.1 (h.si i j b hi hj e1 (.inr h2) e))];exact h.nw i hi2 hi b o y e
 ·have hr:=vE (h.rq i hi) a.kw a.grown fun b hb k=>h.noQI hj hi k hb;exact hr.keep k2 fun b hb=>keep b fun k=>h.noGq hi (by rw[←k];exact hb)
 ·by_cases e1:i=j
  ·subst e1;rw[eY]at e;rw[eF _ _ (fun k=>hik k.symm)];rcases a.own b e with h4|h4
   ·exact h.si i k b hi hk hik h22 h4
   ·intro h5;have:=(own_lt (h.ri k hk) h5).2.1;omega
  ·rw[eF _ _ e1]at e;by_cases e2:k=j
   ·subst e2;rw[eY];intro h5;rcases a.own b h5 with h4|h4
    ·exact h.si i k b hi hk hik h22 e h4
    ·have:=(own_lt (h.ri i hi) e).2.1;omega
   ·rw[eF _ _ e2];exact h.si i k b hi hk hik h22 e
theorem MS.appQ(h:MS w base g rs is qs ts iv){j:Nat}(hj:j<2){q:Rat}{v':Value}(a:Apd w base (qs j) (ts j++[q]) v' w'): MS (w'.setCell ⟨g,4+j,none⟩ v') base g rs is (fJ qs j v') (fJ ts j (ts j++[q])) iv∧Kw w (w'.setCell ⟨g,4+j,none⟩ v')∧ ∀b,b<w.heap.size→b≠g→(qs j).ownBlock≠some b→(w'.setCell ⟨g,4+j,none⟩ v').heap[b]?=w.heap[b]?:=by
 have hgB:Blk w' g qH #[rs 0,rs 1,rs 2,rs 3,qs 0,qs 1,rs 4,iv]:=(fS a.grown h.blk.lt (h.noGq hj)).trans h.blk;have hc:w'.cell? ⟨g,4+j,none⟩=some (qs j):=by rw[World.cell?_of_block (a:=⟨g,4+j,none⟩) (fS a.grown h.blk.lt (h.noGq hj))];exact h.cellQ hj
 have hns:noWord (qs j):=by
  obtain⟨A,c,e⟩:=(h.rq j hj).val;rw[e];exact bJ _ _ _
 have k2:=sM hc hns v';have hvg:∀b,v'.ownBlock=some b→b≠g:=fun b hb=>by
  obtain⟨⟨ys,hrow,_⟩,_⟩:=a.row;exact own_ne hrow hgB (by decide) b hb
 have keep:∀b,b≠g→(w'.setCell ⟨g,4+j,none⟩ v').heap[b]?=w'.heap[b]?:=fun b hb=>Below.heap_setCell w' _ v' b hb;refine⟨⟨h.ge,?_,fun i hi=>?_,fun i hi2 hi b o y e=>?_,fun i hi=>?_,h.si,fun i k b hi hk hik e=>?_⟩,a.kw.trans k2,fun b hb h1 h3=>(keep b h1).trans (fS a.grown hb h3)⟩
 ·have h0:=hgB.set_ (4+j) v';have e:(#[rs 0,rs 1,rs 2,rs 3,qs 0,qs 1,rs 4,iv]:Array Value).setIfInBounds (4+j) v'=#[rs 0,rs 1,rs 2,rs 3,fJ qs j v' 0,fJ qs j v' 1,rs 4,iv]:=by
   match j,hj with
   |0,_=>rfl
   |1,_=>rfl
  rw[e]at h0;exact h0
 ·have hr:=yX (h.ri i hi) a.grown fun b hb=>h.noQI hi hj hb;exact hr.keepO fun b hb=>keep b fun k=>h.noG hi (by rw[←k];exact hb)
 ·have hbg:b≠g:=fun k=>h.noG hi (by rw[←k];exact e);rw[World.cell?_of_block (a:=⟨b,o,none⟩) (keep b hbg),World.cell?_of_block (a:=⟨b,o,none⟩) (fS a.grown (own_lt (h.ri i hi) e).2.1 (h.noQI hi hj e))];exact h.nw i hi2 hi b o y e
 ·by_cases e:i=j
  ·subst e;rw[eY,eY];exact a.row.keep k2 fun b hb=>keep b (hvg b hb)
  ·rw[eF _ _ e,eF _ _ e];have hr:=vE (h.rq i hi) a.kw a.grown fun b hb=>h.sq i j b hi hj e hb;exact hr.keep k2 fun b hb=>keep b fun k=>h.noGq hi (by rw[←k];exact hb)
 ·by_cases e1:i=j
  ·subst e1;rw[eY]at e;rw[eF _ _ (fun k=>hik k.symm)];rcases a.own b e with h4|h4
   ·exact h.sq i k b hi hk hik h4
   ·intro h5;have:=((h.rq k hk).lt h5).2;omega
  ·rw[eF _ _ e1]at e;by_cases e2:k=j
   ·subst e2;rw[eY];intro h5;rcases a.own b h5 with h4|h4
    ·exact h.sq i k b hi hk hik e h4
    ·have:=((h.rq i hi).lt e).2;omega
   ·rw[eF _ _ e2];exact h.sq i k b hi hk hik e
theorem MS.intAt(h:MS w base g rs is qs ts iv){j:Nat}(hj:j<5){k:Nat}(hk:k<(is j).length):∃b o c,rs j= .slice (some ⟨b,o,none⟩) (is j).length c∧b<w.heap.size∧w.cell? ⟨b,o+k,none⟩=some (I ((is j).getD k 0)):=by
 have hr:=h.ri j hj;obtain⟨A,c,e⟩:=hr.val;rw[e]at hr;obtain⟨b,o,rfl,hb,hc⟩:=hr.reads.int_at hk;exact⟨b,o,c,e,hb,hc⟩
end
end
section
open Go.RowKit Go.Maps
theorem rY:Keyed Tryz.prog 3:=int_keyed Tryz.underlying3
theorem aVe(w:World):(zeroValue 3).run Tryz.prog w= .ok (I 0) w:=by kernel_rfl
theorem aPe{x:Int}(h0:-9223372036854775808≤x)(h1:x≤9223372036854775807):(Lit.int .i64 x).wf=true:=WalkArith.wf_i64 (by omega)
def SumMap(w:World)(b:Nat)(ks vs:List Int):Prop:=∃D:DataW Unit,w.ownsMap Tryz.prog 3 (plainElem Tryz.prog 3) b ks.length D∧IsMap D∧(∀x:Int,D.atKey (.int .i64 x) (.lit (.int .i64 0))= .lit (.int .i64 (gN ks vs x)))∧∀x:Int,Maps.has D (.int .i64 x)=ks.contains x
theorem SumMap.made(w:World):SumMap (w.alloc (.map #[] 0)) w.heap.size [] []:=⟨.map [],World.ownsMap_made w _ _ _,⟨_,rfl⟩,fun _=>rfl,fun _=>rfl⟩
theorem SumMap.ext{w w':World}{b:Nat}{ks vs:List Int}(h:SumMap w b ks vs)(hb:Below w.heap.size w w'):SumMap w' b ks vs:=by
 obtain⟨D,⟨es,clock,e1,e2⟩,h2⟩:=h;exact⟨D,⟨es,clock,(hb.block b (Array.getElem?_eq_some_iff.1 e1).1).trans e1,e2⟩,h2⟩
theorem SumMap.below{w w':World}{b:Nat}{ks vs:List Int}(h:SumMap w b ks vs)(hb:Below w.heap.size w w'):SumMap w' b ks vs:=h.ext hb
theorem SumMap.lookup{w:World}{b:Nat}{ks vs:List Int}(h:SumMap w b ks vs)(x:Int)(h0:-9223372036854775808≤x)(h1:x≤9223372036854775807): (Instr.lookup 168 (.map (some b)) (I x) false).run Tryz.prog w= .ok (I (gN ks vs x)) w:=by
 obtain⟨D,g1,_,g3,_⟩:=h;obtain⟨c,hrun,hat,_⟩:=g1.lookup_int rY Tryz.underlying168 Tryz.underlying3 (aVe _) (keyOf_int_mk Tryz.underlying3 (aPe h0 h1));rw[g3 x]at hat;injection hat with hat;injection hat with _ hat;rw[hrun,hat]
theorem SumMap.update{w:World}{b:Nat}{ks vs:List Int}(h:SumMap w b ks vs)(x v:Int)(h0:-9223372036854775808≤x)(h1:x≤9223372036854775807)(hl:ks.length=vs.length)(hn:ks.length<1000000)(s0:-9223372036854775808≤gN ks vs x+v)(s1:gN ks vs x+v≤9223372036854775807): ∃w',(Instr.mapUpdate 168 (.map (some b)) (I x) (I (gN ks vs x+v))).run Tryz.prog w= .ok () w'∧SumMap w' b (ks++[x]) (vs++[v])∧w.grownBy w' (some b):=by
 obtain⟨D,g1,g2,g3,g4⟩:=h;obtain⟨w',hrun,k1,k2⟩:=g1.update rY Tryz.underlying168 (by unfold maxLen;omega) (keyOf_int_mk Tryz.underlying3 (aPe h0 h1)) (plainElem_int Tryz.underlying3 (aPe s0 s1));refine⟨w',hrun,⟨_,by rw[List.length_append];exact k1,g2.put _ _,fun y=>?_,fun y=>?_⟩,k2⟩
 ·rw[zH ks vs x v y hl];by_cases e:x=y
  ·subst e;rw[atKey_put_same g2 (by simp[WideAt.IsKeyLit]),if_pos rfl]
  ·rw[atKey_put_other (fun k=>e (by injection k with _ k;exact k.symm)),g3 y,if_neg e,Int.add_zero]
 ·by_cases e:x=y
  ·subst e;rw[has_put_same g2 (by simp[WideAt.IsKeyLit])];simp
  ·rw[has_put_other (fun k=>e (by injection k with _ k;exact k.symm)),g4 y];simp only[List.contains_append,List.contains_cons,List.contains_nil,Bool.or_false];rw[show(y==x)=false from beq_eq_false_iff_ne.2 fun k=>e k.symm,Bool.or_false]
theorem SumMap.noCell{w:World}{b:Nat}{ks vs:List Int}(h:SumMap w b ks vs)(o:Nat):w.cell? ⟨b,o,none⟩=none:=by
 obtain⟨D,⟨es,clock,e1,_⟩,_⟩:=h;simp[World.cell?,e1]
def aPf(ks vs:List Int):Bool:=ks.all fun k=>gN ks vs k==0
theorem aPg{α:Type}{l:List α}{i:Nat}{x d:α}(h:l[i]?=some x):l.getD i d=x:=by rw[gD,h];rfl
theorem mY{w w':World}{b:Nat}{ks vs:List Int}{sz n:Nat}{A:Option Addr}{xs:List Value}(hr:Reads w w.heap.size sz A n xs)(h:SumMap w b ks vs)(hg:w.grownBy w' (some b)):Reads w' w'.heap.size sz A n xs:=by
 refine⟨hr.1,fun hn=>?_⟩;obtain⟨g,off,e,hb,hc⟩:=hr.2 hn;refine⟨g,off,e,Nat.lt_of_lt_of_le hb hg.size,fun j u hu=>?_⟩;have h1:=hc j u hu;exact hg.cell h1 (fun e=>by injection e with e;simp only at e;subst e;rw[h.noCell]at h1;cases h1)
theorem Blk.grownM{w w':World}{b g:Nat}{ks vs:List Int}{t:TypeId}{cs:Array Value}(h:Blk w g t cs)(hm:SumMap w b ks vs)(hg:w.grownBy w' (some b)):Blk w' g t cs:=by
 have hne:g≠b:=by
  rintro rfl;obtain⟨D,⟨es,clock,e1,_⟩,_⟩:=hm;unfold Blk at h;rw[h]at e1;cases e1
 exact(hg.block g h.lt (fun e=>hne (by cases e;rfl))).trans h
theorem kF(n:NetD)(v:NetV)(inj:List Int)(m:Nat)(A:Option Addr)(c:Nat)(w:World)(hN:Net w n v)(hj:Reads w w.heap.size 1 A m (inj.map I))(hm:m≤9223372036854775807):Calls Tryz.prog 37 #[v.val n,.slice A m c] w fun e w'=>e= .returned (I (aU n inj))∧Below w.heap.size w w':=by
 have hz:=aD w (Obj.cells (v.parts n) 29);have HN:=aH (hN.below hz);have HG:=aH (Blk.new w 29 (v.parts n));have HB:=aH hz;have HC:=aH (iR n v _ (hN.below hz));have HJ:=aH ((hj.below hz).more hz.size);have HJL:=aH (show inj.length=m by have:=hj.1;simpa using this);clear hz hN hj;by_cases e:aX n=0
 ·have HV:=aH (iH e);have HE0:=aH e;rw[e]at HC;clear e;have hnn:n.nodes.length≤24:=HV.out.hn;by_cases el:m=n.nodes.length
  ·subst el;have tn:((n.nodes.length:Int) !=n.nodes.length)=false:=bne_self_eq_false _;unfold NetV.val NetV.parts at*;go_enter Tryz.func37,Tryz.ntmps37;go_wp2_with fail;refine HC.out.mono ?_;rintro e w1 ⟨rfl,hb⟩;clear HC;replace HN:=aH (HN.out.below hb);replace HG:=bL HG hb;replace HB:=bT HB hb;replace HJ:=aH ((HJ.out.below hb).more hb.size);clear hb;have x0:=HG.out.cell 0;have x1:=HG.out.cell 1;have x2:=HG.out.cell 2;have x3:=HG.out.cell 3;have x4:=HG.out.cell 4;have x5:=HG.out.cell 5;have HT:=aH (aJm n v w1 HN.out.net HV.out);unfold NetV.val NetV.parts at HT;go_wp2_with fail;refine HT.out.mono ?_;rintro e w2 ⟨bv,iv,rfl,hr1,hr2,hb⟩;clear HT x0 x1 x2 x3 x4 x5;obtain⟨bA,bc,rfl⟩:=hr1.val;obtain⟨iA,ic,rfl⟩:=hr2.val;have hbl:=cE HV.out;rw[hbl]at hr1⊢;have hr1:=hr1.reads;have hr2:=hr2.reads;replace HB:=bT HB hb;replace HJ:=aH ((HJ.out.below hb).more hb.size);clear hb HN HG;go_upto_region 7 with(fail)
   have hz:=aD w2 (Obj.cells #[.slice bA n.nodes.length bc,.slice iA (aC n).length ic] 33);have HT:=aH (Blk.new w2 33 #[.slice bA n.nodes.length bc,.slice iA (aC n).length ic]);have HR1:=aH ((hr1.below hz).more hz.size);have HR2:=aH ((hr2.below hz).more hz.size);replace HJ:=aH ((HJ.out.below hz).more hz.size);replace HB:=bT HB hz;clear hr1 hr2 hz;generalize w2.alloc (Obj.cells #[.slice bA n.nodes.length bc,.slice iA (aC n).length ic] 33)=w3 at*;generalize w2.heap.size=gt at*;have hgt:gt<w3.heap.size:=HT.out.lt;have hmm:=@run_makeMap Tryz.prog;go_upto_region 8 with(fail)
   have HBQ:=aH HB.out.size;have hz:=aD w3 (.map #[] 0);have HM:=aH (SumMap.made w3);replace HR1:=aH ((HR1.out.below hz).more hz.size);replace HR2:=aH ((HR2.out.below hz).more hz.size);replace HJ:=aH ((HJ.out.below hz).more hz.size);replace HB:=bT HB hz;replace HT:=bL HT hz;clear hz hmm;have hbmw:w.heap.size≤w3.heap.size:=HBQ.out;generalize w3.alloc (.map #[] 0)=w4 at*;generalize w3.heap.size=bm at*;have HO:=aH (show∀p∈inj.take 0,vW p=false by simp);have HB0:=aH HB.out;go_wp2;go_loopg [28] (n.nodes.length-0) (fun r t wr=>∃j:Nat,r=n.nodes.length-j∧t=I j∧j≤n.nodes.length∧Hid (∀p∈inj.take j,vW p=false)∧Hid (SumMap wr bm ((dS n).take j) (inj.take j))∧Hid (Blk wr gt 33 #[.slice bA n.nodes.length bc,.slice iA (aC n).length ic])∧Hid (Reads wr wr.heap.size 1 bA n.nodes.length ((aI n).map I))∧Hid (Reads wr wr.heap.size 1 iA (aC n).length ((aC n).map I))∧Hid (Reads wr wr.heap.size 1 A n.nodes.length (inj.map I))∧Hid (Below w.heap.size w wr));case atStart=>exact⟨0,rfl,rfl,by omega,HO,HM,HT,HR1,HR2,HJ,HB⟩
   case round=>
    clear HO HM HT HR1 HR2 HJ HB HB0;obtain⟨j,rfl,rfl,hj,HO,HM,HT,HR1,HR2,HJ,HB⟩:=hrel;obtain⟨wa,rfl⟩:=wE wr;by_cases hlt:j<n.nodes.length
    ·obtain⟨pb,po,rfl,hpb,hcj⟩:=HJ.out.int_at hlt;obtain⟨q,hq⟩:∃q,inj[j]?=some q:=⟨_,gE (by rw[HJL.out];exact hlt)⟩;rw[aPg hq]at hcj;by_cases ho:vW q=true
     ·have HX:=aH (show aU n inj=4 by rw[aU,if_neg (fun k=>k HE0.out),if_neg (fun k=>k HJL.out),if_pos (List.any_eq_true.2 ⟨q,List.mem_of_getElem? hq,ho⟩)]);by_cases h1:q< -100000
      ·have h1d:decide (q< -100000)=true:=decide_eq_true h1;go_wp2;go_ret;rw[HX.out];exact⟨rfl,HB.out⟩
      ·have h1d:decide (q< -100000)=false:=decide_eq_false h1;have h2:100000<q:=by rw[vW,h1d]at ho;simpa using ho
       have h2d:decide (q>100000)=true:=decide_eq_true h2;go_wp2;go_ret;rw[HX.out];exact⟨rfl,HB.out⟩
     ·have hq2:-100000≤q∧q≤100000:=by rw[vW,Bool.or_eq_true,decide_eq_true_eq,decide_eq_true_eq]at ho;omega
      obtain⟨hq0,hq1⟩:=hq2;have h1d:decide (q< -100000)=false:=decide_eq_false (by omega);have h2d:decide (q>100000)=false:=decide_eq_false (by omega);have HON:=aH (show∀p∈inj.take (j+1),vW p=false by
       intro p hp;rw[List.take_add_one,hq,List.mem_append]at hp;rcases hp with hp|hp
       ·exact HO.out p hp
       ·have:p=q:=by simpa using hp
        rw[this];exact Bool.eq_false_iff.2 ho)
      have HSN:=aH (show inj.take (j+1)=inj.take j++[q] by rw[List.take_add_one,hq];rfl);have HKN:=aH (aGy hlt);have hkr:=aZa HV.out hlt;have hbr:=aBn HV.out hlt;have HKL:=aH (show((dS n).take j).length=(inj.take j).length by rw[List.length_take,List.length_take,sG,HJL.out]);have hkl:((dS n).take j).length≤24:=by rw[List.length_take,sG];omega
      have hsb:=vV ((dS n).take j) (inj.take j) (nF n j) (fun p hp=>by
       have:=HO.out p hp;rw[vW,Bool.or_eq_false_iff,decide_eq_false_iff_not,decide_eq_false_iff_not]at this;omega)
      have HSB:=aH (show-3000000≤gN ((dS n).take j) (inj.take j) (nF n j)∧gN ((dS n).take j) (inj.take j) (nF n j)≤3000000 by omega);have HKR:=aH hkr;obtain⟨b1,o1,rfl,hb1,hc1⟩:=HR1.out.int_at hlt;obtain⟨jb,hjb⟩:∃jb:Nat,at_ (aI n) j=jb:=Int.eq_ofNat_of_zero_le hbr.1;have hgd:(aI n).getD j 0=(jb:Int):=by rw[←hjb,at_];rfl
      rw[hgd]at hc1;have hjl:jb<(aC n).length:=by have:=hbr.2;omega
      obtain⟨b2,o2,rfl,hb2,hc2⟩:=HR2.out.int_at hjl;have hgk:(aC n).getD jb 0=nF n j:=by rw[nF,hjb,at_];rfl
      rw[hgk]at hc2;have HC1:=aH hc1;have HC2:=aH hc2;clear ho hq hbr hsb hgd hgk hc1 hc2 hkl hjb HO hkr;generalize hky:nF n j=ky at*;clear hky;have c0:=HT.out.cell 0;have c1:=HT.out.cell 1;go_upto_region 13 with(fail)
      clear hcj h1d h2d c0 c1;have hd:=aT wa;replace HM:=aH (HM.out.below hd);replace HT:=bL HT hd;replace HR1:=aH ((HR1.out.below hd).more hd.size);replace HR2:=aH ((HR2.out.below hd).more hd.size);replace HJ:=aH ((HJ.out.below hd).more hd.size);replace HB:=bT HB hd;replace HC1:=aH (aA HC1.out hd);replace HC2:=aH (aA HC2.out hd);clear hd;have C0:=aH (show wa.drew.cell? ⟨gt,0,none⟩=some (.slice (some ⟨b1,o1,none⟩) n.nodes.length bc)from HT.out.cell 0);have C1:=aH (show wa.drew.cell? ⟨gt,1,none⟩=some (.slice (some ⟨b2,o2,none⟩) (aC n).length ic)from HT.out.cell 1);refine aJ (fun w'=>w'.cell? ⟨gt,0,none⟩=some (.slice (some ⟨b1,o1,none⟩) n.nodes.length bc)∧w'.cell? ⟨gt,1,none⟩=some (.slice (some ⟨b2,o2,none⟩) (aC n).length ic)∧w'.cell? ⟨b1,o1+j,none⟩=some (I jb)∧w'.cell? ⟨b2,o2+jb,none⟩=some (I ky)∧SumMap w' bm ((dS n).take j) (inj.take j)) 13 (by kernel_rfl) ?_;generalize wa.drew=W1 at*;refine tkS ⟨C0.out,C1.out,HC1.out,HC2.out,HM.out⟩ fun hSS=>?_;refine aZ 0 (.map (some bm)) rfl hSS ?_;refine aZ 1 (.pointer (some ⟨gt,1,none⟩)) rfl hSS ?_;refine aZ 2 (.slice (some ⟨b2,o2,none⟩) (aC n).length ic) rfl hSS ?_;refine aZ 3 (.pointer (some ⟨gt,0,none⟩)) rfl hSS ?_;refine aZ 4 (.slice (some ⟨b1,o1,none⟩) n.nodes.length bc) rfl hSS ?_;refine aZ 5 (I j) rfl hSS ?_;refine aZ 6 (.pointer (some ⟨b1,o1+j,none⟩)) rfl hSS ?_;refine aZ 7 (I jb) rfl hSS ?_;refine aZ 8 (.pointer (some ⟨b2,o2+jb,none⟩)) rfl hSS ?_;refine aZ 9 (I ky) rfl hSS ?_;refine tq 10 (I (gN ((dS n).take j) (inj.take j) ky)) rfl ?_ hSS ?_
      ·rintro w ⟨s0,s1,s2,s3,s4⟩;have hlk:=s4.lookup ky (by have:=HKR.out;omega) (by have:=HKR.out;omega);clear s0 s1 s2 s3 s4;go_simp
      refine aZ 11 (I q) rfl hSS ?_;refine tq 12 (I (gN ((dS n).take j) (inj.take j) ky+q)) rfl ?_ hSS ?_
      ·intro w hSw;go_simp;exact IntWalk.i64_in _ (by have:=HSB.out;omega)
      have hlen:((dS n).take j).length<1000000:=by rw[List.length_take];omega
      obtain⟨W2,hrun,hm2,hg2⟩:=HM.out.update ky q (by have:=HKR.out;omega) (by have:=HKR.out;omega) HKL.out hlen (by have:=HSB.out;omega) (by have:=HSB.out;omega);clear hlen;refine on1 13 fun K hK=>?_;go_simp;have hbm:=HM.out.noCell;have HM2:=aH (show SumMap W2 bm ((dS n).take (j+1)) (inj.take (j+1)) by rw[HKN.out,HSN.out];exact hm2);have HT2:=aH (HT.out.grownM HM.out hg2);have HR12:=aH (mY HR1.out HM.out hg2);have HR22:=aH (mY HR2.out HM.out hg2);have HJ2:=aH (mY HJ.out HM.out hg2);have HB2:=aH (HB.out.grown hg2 HB.out.size (fun k e=>by cases e;exact hbmw));clear HM HT HR1 HR2 HJ HB HC1 HC2 C0 C1 hbm hm2 hg2;refine hK.out _ _ (fun h=>absurd h (by decide)) ?_;clear hK K hrun;refine aG (by kernel_rfl) ?_ _;go_wp2;go_roundg (n.nodes.length-(j+1));case measure=>omega
      case rel=>exact⟨j+1,rfl,by go_num,by omega,HON,HM2,HT2,HR12,HR22,HJ2,HB2⟩
    ·have hin:j=n.nodes.length:=by omega
     subst hin;have hmm:=HM.out;rw[List.take_of_length_le (by rw[sG];exact Nat.le_refl _),List.take_of_length_le (by rw[HJL.out];exact Nat.le_refl _)]at hmm;have hno:¬inj.any vW=true:=fun k=>by
      obtain⟨p,hp,hpo⟩:=List.any_eq_true.1 k;have:=HO.out p (by rw[List.take_of_length_le (by rw[HJL.out];exact Nat.le_refl _)];exact hp);rw[hpo]at this;cases this
     have HX:=aH (show aU n inj=if aPf (dS n) inj=true then 0 else 14 by rw[aU,if_neg (fun k=>k HE0.out),if_neg (fun k=>k HJL.out),if_neg hno];rfl);clear hno HO HM HT HR1 HR2 HJ;obtain⟨D,hown,hisM,hat0,hhas⟩:=hmm;have HAT:=aH hat0;have HHAS:=aH hhas;have HOWN:=aH hown;clear hisM hat0 hhas hown;go_wp2_with(first|(at_range;refine wpList_range_own _ rfl _ 168 rfl 3 3 rY Tryz.underlying168 _ bm _ D rfl HOWN.out ?_;intro w0 hrg0 hg0 hs0)|fail);go_frame;have HRG0:=aH hrg0;have HBR0:=aH (HB.out.grown hg0 HB.out.size (fun k e=>by cases e));have hrz:w.heap.size≤wa.heap.size:=HB.out.size;clear hrg0 hg0 hs0 HOWN HB;generalize hrb:wa.heap.size=rb at*;clear hrb;go_loopw [11] (fun _ wr=>∃(left:Lit→Bool) (cnt:Nat),Hid (wr.ranges Tryz.prog 3 (plainElem (H:=Unit) Tryz.prog 3) bm rb (dS n).length D left cnt)∧Hid (∀x,x∈dS n→left (.int .i64 x)=true∨gN (dS n) inj x=0)∧Hid (Below w.heap.size w wr)) (fun _ wr=>wr.rangeLeft bm rb);case atStart=>exact⟨_,_,HRG0,fun x hx=> .inl (by rw[HHAS.out];simpa using hx),HBR0⟩
     case round=>
      clear HRG0 HBR0;obtain⟨left,cnt,HRG,HL,HB⟩:=hrel;go_wp2_with(first|(at_next;refine wpList_next_ranges_ii _ rfl _ rfl 3 3 .i64 .i64 rY Tryz.underlying3 Tryz.underlying3 bm rb _ _ _ _ rfl HRG.out ?_ ?_)|fail)
      ·intro _ hl0;have HX2:=aH (show aU n inj=0 by rw[HX.out,if_pos];rw[aPf,List.all_eq_true];intro k hk;exact beq_iff_eq.2 ((HL.out k hk).resolve_left (by rw[hl0];decide)));clear hl0;go_wp2;go_ret;rw[HX2.out];exact⟨rfl,HB.out⟩
      ·intro x c w1 cnt1 hwx hwc hlx hat hrg1 hlt hg1 hs1 hen;have hc:c=gN (dS n) inj x:=by
        have h1:=hat (.lit (.int .i64 0));rw[HAT.out x]at h1;injection h1 with h1;injection h1 with _ h1;exact h1.symm
       have HB1:=aH (HB.out.grown hg1 HB.out.size (fun k e=>by cases e;exact hrz));have HR1:=aH hrg1;have HLT:=aH hlt;clear hat hg1 hs1 hwc hwx hlx hrg1 hlt;by_cases h0:c=0
       ·have tz:(c !=0)=false:=by rw[h0];rfl
        have HL1:=aH (show∀y,y∈dS n→(fun z=>left z&& !z.sameKey (.int .i64 x)) (.int .i64 y)=true∨gN (dS n) inj y=0 by
         intro y hy;by_cases e:y=x
         ·right;rw[e,←hc];exact h0
         ·rcases HL.out y hy with h|h
          ·left;simp only[h,Bool.true_and];simp[Lit.sameKey,e]
          ·exact .inr h)
        clear hc h0;go_wp2;go_roundw;case rel=>exact⟨_,cnt1,HR1,HL1,HB1⟩
        case measure=>rw[HR1.out.left_eq,HRG.out.left_eq];exact HLT.out
       ·have tz:(c !=0)=true:=bne_iff_ne.2 h0;have HX2:=aH (show aU n inj=14 by
         rw[HX.out,if_neg];intro hs;rw[aPf,List.all_eq_true]at hs;by_cases hm:x∈dS n
         ·exact h0 (by rw[hc];exact beq_iff_eq.1 (hs x hm))
         ·exact h0 (by rw[hc];exact zI _ _ _ hm))
        clear hc h0;go_wp2;go_ret;rw[HX2.out];exact⟨rfl,HB1.out⟩
  ·have HX:=aH (show aU n inj=3 by rw[aU,if_neg (fun k=>k HE0.out),if_pos (by rw[HJL.out];exact el)]);have tn:((m:Int) !=(n.nodes.length:Int))=true:=bne_iff_ne.2 (by omega);unfold NetV.val NetV.parts at*;go_enter Tryz.func37,Tryz.ntmps37;go_wp2_with fail;refine HC.out.mono ?_;rintro e w1 ⟨rfl,hb⟩;clear HC;replace HN:=aH (HN.out.below hb);replace HG:=bL HG hb;replace HB:=bT HB hb;replace HJ:=aH ((HJ.out.below hb).more hb.size);clear hb;have x0:=HG.out.cell 0;go_wp2;go_ret;rw[HX.out];exact⟨rfl,HB.out⟩
 ·have HX:=aH (show aU n inj=aX n by rw[aU,if_pos e]);have tc:(aX n !=0)=true:=bne_iff_ne.2 e;clear e;generalize aX n=ck at*;unfold NetV.val NetV.parts at*;go_enter Tryz.func37,Tryz.ntmps37;go_wp2_with fail;refine HC.out.mono ?_;rintro e w1 ⟨rfl,hb⟩;clear HC;replace HN:=aH (HN.out.below hb);replace HG:=bL HG hb;replace HB:=bT HB hb;replace HJ:=aH ((HJ.out.below hb).more hb.size);clear hb;go_wp2;go_ret;rw[HX.out];exact⟨rfl,HB.out⟩
end
end Go.Proofs.YtenbglfkdldheaaGreatDoor
