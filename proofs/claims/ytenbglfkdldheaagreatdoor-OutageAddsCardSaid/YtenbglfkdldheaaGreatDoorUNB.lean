/- netmodel's checker.ends. netmodel.Check. -/
import Derived.Test.YtenbglfkdldheaaGreatDoorUNA
set_option maxRecDepth 100000
set_option maxHeartbeats 2000000
namespace Go.Proofs.YtenbglfkdldheaaGreatDoor
open Go.RowKit
def cT(g:GenD):ByteArray×List ByteArray×Bool:=(g.name,[g.node],tH g)
def bV(l:LoadD):ByteArray×List ByteArray×Bool:=(l.name,[l.node],sH l)
def aV(s:StoreD):ByteArray×List ByteArray×Bool:=(s.name,[s.node],jZ s)
structure Going(wb:World)(mb:Nat)(nodes:List ByteArray)(rest:List (ByteArray×List ByteArray×Bool))(res:Int)(seen:List ByteArray)(wr:World):Prop where
 map:SeenMap wr mb seen
 grown:wb.grownBy wr (some mb)
 few:seen.length+rest.length≤200
 rest:gW nodes rest seen=res
theorem aHh(nodes seen:List ByteArray)(name:ByteArray)(ends:List ByteArray):(aW nodes seen name ends).2.length≤seen.length+1:=by
 unfold aW;split
 ·simp
 ·split
  ·simp
  ·split
   ·simp
   ·split<;>simp
theorem Going.step{wb wr w2:World}{mb:Nat}{nodes seen:List ByteArray}{name:ByteArray}{ends:List ByteArray}{rest:List (ByteArray×List ByteArray×Bool)}{res:Int}(h:Going wb mb nodes ((name,ends,true)::rest) res seen wr) (h0:(aW nodes seen name ends).1=0)(hm:SeenMap w2 mb (aW nodes seen name ends).2)(hg:wr.grownBy w2 (some mb)):Going wb mb nodes rest res (aW nodes seen name ends).2 w2:=by
 refine⟨hm,⟨hg.os.trans h.grown.os,hg.tape.trans h.grown.tape,hg.output.trans h.grown.output,Nat.le_trans h.grown.size hg.size,fun i hi hne=>(hg.block i (Nat.lt_of_lt_of_le hi h.grown.size) hne).trans (h.grown.block i hi hne)⟩,?_,?_⟩
 ·have h1:=h.few;have h2:=aHh nodes seen name ends;simp at h1;omega
 ·have:=h.rest;rw[gW,if_pos h0,if_pos rfl]at this;exact this
theorem Going.step'{wb wr w2:World}{mb:Nat}{nodes seen:List ByteArray}{name:ByteArray}{ends:List ByteArray}{ok:Bool}{rest:List (ByteArray×List ByteArray×Bool)}{res:Int}(h:Going wb mb nodes ((name,ends,ok)::rest) res seen wr) (h0:(aW nodes seen name ends).1=0)(hok:ok=true)(hm:SeenMap w2 mb (aW nodes seen name ends).2)(hg:wr.grownBy w2 (some mb)):Going wb mb nodes rest res (aW nodes seen name ends).2 w2:=by
 subst hok;exact h.step h0 hm hg
theorem bG{a b c:World}{row:Option Nat}(h:a.grownBy b row)(hg:b.grownBy c row):a.grownBy c row:=⟨hg.os.trans h.os,hg.tape.trans h.tape,hg.output.trans h.output,Nat.le_trans h.size hg.size,fun i hi hne=>(hg.block i (Nat.lt_of_lt_of_le hi h.size) hne).trans (h.block i hi hne)⟩
theorem bE{wb wr:World}{mb:Nat}{ss:List ByteArray}(h:SeenMap wb mb ss)(hg:wb.grownBy wr (some mb)){g o:Nat}{v:Value}(hc:wb.cell? ⟨g,o,none⟩=some v):wr.cell? ⟨g,o,none⟩=some v:=hg.cell hc (fun e=>h.ne hc (by injection e))
theorem lB(nodes ss:List ByteArray)(name:ByteArray)(ends:List ByteArray)(mb:Nat)(NA EA:Option Addr)(nc ec:Nat)(wa W:World)(hsm:SeenMap wa mb ss)(hb:Below wa.heap.size wa W)(hs:name.size≤9223372036854775807) (hN:Reads wa wa.heap.size 1 NA nodes.length (nodes.map S))(hE:Reads W W.heap.size 1 EA ends.length (ends.map S))(hnl:nodes.length≤24)(hel:ends.length≤2)(hsl:ss.length≤200):
  Calls Tryz.prog 125 #[.agg #[.map (some mb),.slice NA nodes.length nc],.string name,.slice EA ends.length ec] W fun e w2=>e= .returned (I (aW nodes ss name ends).1)∧SeenMap w2 mb (aW nodes ss name ends).2∧wa.grownBy w2 (some mb)∧W.grownBy w2 (some mb):=by
 refine(aHg nodes ss name ends mb NA EA nc ec W (hsm.ext hb) hs ((hN.below hb).more hb.size) hE (by omega) hel (by omega)).mono ?_;rintro e w2 ⟨h1,h2,h3⟩;exact⟨h1,h2,bG (dG hb _) h3,h3⟩
theorem Blk.grown{w w':World}{mb:Nat}{ss:List ByteArray}(h:SeenMap w mb ss)(hg:w.grownBy w' (some mb)){g:Nat}{t:TypeId}{cs:Array Value}(hB:Blk w g t cs):Blk w' g t cs:=by
 refine(hg.block g hB.lt ?_).trans hB;rintro e;injection e with e;subst e;obtain⟨D,⟨es,clock,e1,_⟩,_⟩:=h;unfold Blk at hB;rw[hB]at e1;cases e1
theorem aEl(w:World)(t:TypeId)(x:ByteArray):Reads (w.alloc (.cells #[.string x] t)) (w.alloc (.cells #[.string x] t)).heap.size 1 (some ⟨w.heap.size,0,none⟩) [x].length ([x].map S):=by
 have:=kN w t (.string x);simpa using this
theorem aEm(w:World)(t:TypeId)(x y:ByteArray):Reads (w.alloc (.cells #[.string x,.string y] t)) (w.alloc (.cells #[.string x,.string y] t)).heap.size 1 (some ⟨w.heap.size,0,none⟩) [x,y].length ([x,y].map S):=by
 refine⟨rfl,fun _=>⟨_,_,rfl,by simp,fun j u hu=>?_⟩⟩;rw[(Blk.new w t #[.string x,.string y]).cell];simpa using hu
theorem pP(w:World)(o:Obj)(t:TypeId)(x:ByteArray):Reads ((w.alloc o).alloc (.cells #[.string x] t)) ((w.alloc o).alloc (.cells #[.string x] t)).heap.size 1 (some ⟨w.heap.size+1,0,none⟩) [x].length ([x].map S):=by
 have:=aEl (w.alloc o) t x;rw[World.size_alloc w o]at this;exact this
theorem wP(w:World)(o:Obj)(t:TypeId)(x y:ByteArray):Reads ((w.alloc o).alloc (.cells #[.string x,.string y] t)) ((w.alloc o).alloc (.cells #[.string x,.string y] t)).heap.size 1 (some ⟨w.heap.size+1,0,none⟩) [x,y].length ([x,y].map S):=by
 have:=aEm (w.alloc o) t x y;rw[World.size_alloc w o]at this;exact this
theorem gX(w:World)(o p:Obj):Below w.heap.size w ((w.alloc o).alloc p):=((Below.refl _ w).alloc lR _).alloc (by simp) _
structure EndsIn(w:World)(mb:Nat)(n:NetD)(v:NetV)(seen:List ByteArray):Prop where
 net:NetIn w n v
 ok:NetOk n
 map:SeenMap w mb seen
 hn:n.nodes.length≤24
 hg:n.gens.length≤10
 hl:n.loads.length≤12
 hs:n.stores.length≤4
 few:seen.length+(n.gens.length+(n.loads.length+n.stores.length))≤200
def aJr(n:NetD)(seen:List ByteArray):Int:=gW n.nodes (n.gens.map cT++(n.loads.map bV++n.stores.map aV)) seen
theorem aRh(n:NetD)(v:NetV)(mb:Nat)(seen:List ByteArray)(w:World)(hE:EndsIn w mb n v seen): Calls Tryz.prog 127 #[.agg #[.map (some mb),.slice v.na n.nodes.length v.nc],v.val n] w fun e w'=>e= .returned (I (aJr n seen))∧w.grownBy w' (some mb):=by
 have hbn:=hE.hn;have hbg:=hE.hg;have hbl:=hE.hl;have hbs:=hE.hs;have hfew:=hE.few;have HOK:=aH hE.ok;unfold NetV.val NetV.parts;obtain⟨na,nc,sa,sc,ba,bc,ga,gc,la,lc,ta,tc⟩:=v;simp only;obtain⟨nodes,sws,brs,gens,loads,stores⟩:=n;simp only at hbn hbg hbl hbs hfew HOK⊢;go_enter Tryz.func127,Tryz.ntmps127;go_wp2;have hext:Below w.heap.size w ((w.alloc (Obj.cells #[Value.map (some mb),Value.slice na nodes.length nc] 202)).alloc (Obj.cells #[Value.slice na nodes.length nc,Value.slice sa sws.length sc,Value.slice ba brs.length bc,Value.slice ga gens.length gc,Value.slice la loads.length lc,Value.slice ta stores.length tc] 29)):=((Below.refl _ w).alloc lR _).alloc (by simp) _
 have HIN:=aH (hE.net.below hext);have HSM:=aH (hE.map.ext hext);have HG0:=aH (dG hext (some mb));have HB1:=aH ((Blk.new w 202 #[Value.map (some mb),Value.slice na nodes.length nc]).alloc (Obj.cells #[Value.slice na nodes.length nc,Value.slice sa sws.length sc,Value.slice ba brs.length bc,Value.slice ga gens.length gc,Value.slice la loads.length lc,Value.slice ta stores.length tc] 29));have HB2:=aH (Blk.new (w.alloc (Obj.cells #[Value.map (some mb),Value.slice na nodes.length nc] 202)) 29 #[Value.slice na nodes.length nc,Value.slice sa sws.length sc,Value.slice ba brs.length bc,Value.slice ga gens.length gc,Value.slice la loads.length lc,Value.slice ta stores.length tc]);obtain⟨wb,hwb⟩:∃wb,((w.alloc (Obj.cells #[Value.map (some mb),Value.slice na nodes.length nc] 202)).alloc (Obj.cells #[Value.slice na nodes.length nc,Value.slice sa sws.length sc,Value.slice ba brs.length bc,Value.slice ga gens.length gc,Value.slice la loads.length lc,Value.slice ta stores.length tc] 29))=wb:=⟨_,rfl⟩;rw[hwb]at HIN HSM HG0 HB1 HB2⊢;clear hwb hext hE;simp only[World.size_alloc]at HB2;have HG:Going wb mb nodes (gens.map cT++(loads.map bV++stores.map aV)) (aJr ⟨nodes,sws,brs,gens,loads,stores⟩ seen) seen wb:=⟨HSM.out,World.grownBy.refl _ _,by simp;omega,rfl⟩
 obtain⟨res,hres⟩:∃res,aJr ⟨nodes,sws,brs,gens,loads,stores⟩ seen=res:=⟨_,rfl⟩;rw[hres]at HG;have HRES:=aH hres;clear hres;go_loopg [17] (gens.length-0) (fun r u wr=>∃(j:Nat) (ss:List ByteArray),r=gens.length-j∧u=I j∧j≤gens.length∧Going wb mb nodes ((gens.drop j).map cT++(loads.map bV++(stores.map aV))) res ss wr);case atStart=>exact⟨0,_,rfl,rfl,by omega,HG⟩
 case round=>
  clear HG;obtain⟨j,ss,rfl,rfl,hj,hG⟩:=hrel;obtain⟨wa,rfl⟩:=wE wr;have hIN:=HIN.out.seen HSM.out hG.grown;have hb1:wa.cell? ⟨w.heap.size,0,none⟩=some (.map (some mb)):=bE HSM.out hG.grown (by rw[HB1.out.cell];rfl);have hb2:wa.cell? ⟨w.heap.size,1,none⟩=some (.slice na nodes.length nc):=bE HSM.out hG.grown (by rw[HB1.out.cell];rfl);have hb3:wa.cell? ⟨w.heap.size+1,4,none⟩=some (.slice la loads.length lc):=bE HSM.out hG.grown (by rw[HB2.out.cell];rfl);have hlt00:w.heap.size<wa.heap.size:=Nat.lt_of_lt_of_le HB1.out.lt hG.grown.size;have hlt0:w.heap.size+1<wa.heap.size:=Nat.lt_of_lt_of_le HB2.out.lt hG.grown.size;by_cases hlt:j<gens.length
  ·obtain⟨b,off,rfl,hbl',hcs⟩:=eQ (f:=GenD.cells) (sz:=5) (fun _=>rfl) (by omega) hIN.gens hlt;have hsz:=HOK.out.gens gens[j] (List.getElem_mem hlt);have hrest:(gens.drop j).map cT++(loads.map bV++(stores.map aV))=cT gens[j]::((gens.drop (j+1)).map cT++(loads.map bV++(stores.map aV))):=by
    rw[List.drop_eq_getElem_cons hlt];rfl
   rw[hrest]at hG;clear hrest;obtain⟨g,hg⟩:∃g,gens[j]=g:=⟨_,rfl⟩;rw[hg]at hcs hsz hG;clear hg;obtain⟨nm,nd,le,mo,ra⟩:=g;have c0:=hcs 0 _ rfl;have c1:=hcs 1 _ rfl;have c2:=hcs 2 _ rfl;have c3:=hcs 3 _ rfl;have c4:=hcs 4 _ rfl;simp only[←Nat.add_assoc,Nat.add_zero]at c0 c1 c2 c3 c4;obtain⟨hsz1,hsz2⟩:=hsz;have HN:=aH hIN.nodes;clear hcs hIN hb3;have HCALL:=aH (lB nodes ss nm [nd] mb na (some ⟨wa.heap.size+1,0,none⟩) nc 1 wa _ hG.map (gX wa (.cells #[.string nm,.string nd,I le,I mo,I ra] 138) (.cells #[.string nd] 9)) hsz1 HN.out (pP wa _ 9 nd) hbn (by simp) (by have:=hG.few;omega));have HBOX:=aH ((Blk.new wa 138 #[.string nm,.string nd,I le,I mo,I ra]).alloc (.cells #[.string nd] 9));have HSM1:=aH (hG.map.ext (gX wa (.cells #[.string nm,.string nd,I le,I mo,I ra] 138) (.cells #[.string nd] 9)));have HR:=aH hG.rest;have HG:=aH hG;clear hG;go_wp2_with fail;refine HCALL.out.mono ?_;rintro e w2 ⟨rfl,hm2,hg2,hg3⟩;have HB3:=HBOX.out.grown HSM1.out hg3;have d2:=HB3.cell 2;have d3:=HB3.cell 3;have d4:=HB3.cell 4;have HM2:=aH hm2;have HG2:=aH hg2;clear hm2 hg2 hg3 HCALL;have HGF:=aH (bG (bG HG0.out HG.out.grown) HG2.out);obtain⟨er,her⟩:∃er,(aW nodes ss nm [nd]).1=er:=⟨_,rfl⟩;rw[her];have HER:=aH her;clear her;by_cases h0:er=0
   ·subst h0;cases hl0:dW le 0 100000
    case true=>
     have HX:=aH (show res=4 by rw[←HR.out,cT,gW,if_pos HER.out,if_neg (by simp[tH,hl0])]);go_wp2_with(first|(go_at_call 162;refine(cH _ _).mono ?_;rintro e w' ⟨rfl,rfl⟩)|(go_at_call 161;refine(aY _ _ _ _).mono ?_;rintro e w' ⟨rfl,rfl⟩));go_ret;exact⟨aE (by rw[HRES.out,HX.out]),HGF.out⟩
    case false=>
     cases hl1:dW mo le 100000
     case true=>
      have HX:=aH (show res=4 by rw[←HR.out,cT,gW,if_pos HER.out,if_neg (by simp[tH,hl0,hl1])]);go_wp2_with(first|(go_at_call 162;refine(cH _ _).mono ?_;rintro e w' ⟨rfl,rfl⟩)|(go_at_call 161;refine(aY _ _ _ _).mono ?_;rintro e w' ⟨rfl,rfl⟩));go_ret;exact⟨aE (by rw[HRES.out,HX.out]),HGF.out⟩
     case false=>
      cases hl2:dW ra 0 100000
      case true=>
       have HX:=aH (show res=4 by rw[←HR.out,cT,gW,if_pos HER.out,if_neg (by simp[tH,hl0,hl1,hl2])]);go_wp2_with(first|(go_at_call 162;refine(cH _ _).mono ?_;rintro e w' ⟨rfl,rfl⟩)|(go_at_call 161;refine(aY _ _ _ _).mono ?_;rintro e w' ⟨rfl,rfl⟩));go_ret;exact⟨aE (by rw[HRES.out,HX.out]),HGF.out⟩
      case false=>
       have HX:=aH (HG.out.step' HER.out (by simp[tH,hl0,hl1,hl2]) HM2.out HG2.out);go_wp2_with(first|(go_at_call 162;refine(cH _ _).mono ?_;rintro e w' ⟨rfl,rfl⟩)|(go_at_call 161;refine(aY _ _ _ _).mono ?_;rintro e w' ⟨rfl,rfl⟩));go_roundg (gens.length-(j+1));case measure=>omega
       case rel=>exact⟨j+1,_,rfl,by go_num,by omega,HX.out⟩
   ·have t1:(er==0)=false:=beq_eq_false_iff_ne.2 h0;have t2:(er !=0)=true:=by rw[bne_iff_ne];exact h0
    have HX:=aH (show res=er by rw[←HR.out,cT,gW,if_neg (by rw[HER.out];exact h0),HER.out]);clear h0;go_wp2;go_ret;exact⟨aE (by rw[HRES.out,HX.out]),HGF.out⟩
  ·have hdr:gens.drop j=[]:=List.drop_of_length_le (by omega);rw[hdr]at hG;clear hdr;have HG:Going wb mb nodes (loads.map bV++(stores.map aV)) res ss wa:=hG;have HGS:=aH hG.grown;clear hG hIN hb1 hb2;go_wp2;go_loopg [52] (loads.length-0) (fun r u wr=>∃(j:Nat) (ss:List ByteArray),r=loads.length-j∧u=I j∧j≤loads.length∧Going wb mb nodes ((loads.drop j).map bV++(stores.map aV)) res ss wr);case atStart=>exact⟨0,_,rfl,rfl,by omega,HG⟩
   case round=>
    clear HG;obtain⟨j,ss,rfl,rfl,hj,hG⟩:=hrel;obtain⟨wa,rfl⟩:=wE wr;have hIN:=HIN.out.seen HSM.out hG.grown;have hb1:wa.cell? ⟨w.heap.size,0,none⟩=some (.map (some mb)):=bE HSM.out hG.grown (by rw[HB1.out.cell];rfl);have hb2:wa.cell? ⟨w.heap.size,1,none⟩=some (.slice na nodes.length nc):=bE HSM.out hG.grown (by rw[HB1.out.cell];rfl);have hb3:wa.cell? ⟨w.heap.size+1,5,none⟩=some (.slice ta stores.length tc):=bE HSM.out hG.grown (by rw[HB2.out.cell];rfl);have hlt00:w.heap.size<wa.heap.size:=Nat.lt_of_lt_of_le HB1.out.lt hG.grown.size;have hlt0:w.heap.size+1<wa.heap.size:=Nat.lt_of_lt_of_le HB2.out.lt hG.grown.size;by_cases hlt:j<loads.length
    ·obtain⟨b,off,rfl,hbl',hcs⟩:=eQ (f:=LoadD.cells) (sz:=3) (fun _=>rfl) (by omega) hIN.loads hlt;have hsz:=HOK.out.loads loads[j] (List.getElem_mem hlt);have hrest:(loads.drop j).map bV++(stores.map aV)=bV loads[j]::((loads.drop (j+1)).map bV++(stores.map aV)):=by
      rw[List.drop_eq_getElem_cons hlt];rfl
     rw[hrest]at hG;clear hrest;obtain⟨g,hg⟩:∃g,loads[j]=g:=⟨_,rfl⟩;rw[hg]at hcs hsz hG;clear hg;obtain⟨nm,nd,de⟩:=g;have c0:=hcs 0 _ rfl;have c1:=hcs 1 _ rfl;have c2:=hcs 2 _ rfl;simp only[←Nat.add_assoc,Nat.add_zero]at c0 c1 c2;obtain⟨hsz1,hsz2⟩:=hsz;have HN:=aH hIN.nodes;clear hcs hIN hb3;have HCALL:=aH (lB nodes ss nm [nd] mb na (some ⟨wa.heap.size+1,0,none⟩) nc 1 wa _ hG.map (gX wa (.cells #[.string nm,.string nd,I de] 141) (.cells #[.string nd] 9)) hsz1 HN.out (pP wa _ 9 nd) hbn (by simp) (by have:=hG.few;omega));have HBOX:=aH ((Blk.new wa 141 #[.string nm,.string nd,I de]).alloc (.cells #[.string nd] 9));have HSM1:=aH (hG.map.ext (gX wa (.cells #[.string nm,.string nd,I de] 141) (.cells #[.string nd] 9)));have HR:=aH hG.rest;have HG:=aH hG;clear hG;go_wp2_with fail;refine HCALL.out.mono ?_;rintro e w2 ⟨rfl,hm2,hg2,hg3⟩;have HB3:=HBOX.out.grown HSM1.out hg3;have d2:=HB3.cell 2;have HM2:=aH hm2;have HG2:=aH hg2;clear hm2 hg2 hg3 HCALL;have HGF:=aH (bG (bG HG0.out HG.out.grown) HG2.out);obtain⟨er,her⟩:∃er,(aW nodes ss nm [nd]).1=er:=⟨_,rfl⟩;rw[her];have HER:=aH her;clear her;by_cases h0:er=0
     ·subst h0;cases hl0:dW de 0 100000
      case true=>
       have HX:=aH (show res=4 by rw[←HR.out,bV,gW,if_pos HER.out,if_neg (by simp[sH,hl0])]);go_wp2_with(first|(go_at_call 162;refine(cH _ _).mono ?_;rintro e w' ⟨rfl,rfl⟩)|(go_at_call 161;refine(aY _ _ _ _).mono ?_;rintro e w' ⟨rfl,rfl⟩));go_ret;exact⟨aE (by rw[HRES.out,HX.out]),HGF.out⟩
      case false=>
       have HX:=aH (HG.out.step' HER.out (by simp[sH,hl0]) HM2.out HG2.out);go_wp2_with(first|(go_at_call 162;refine(cH _ _).mono ?_;rintro e w' ⟨rfl,rfl⟩)|(go_at_call 161;refine(aY _ _ _ _).mono ?_;rintro e w' ⟨rfl,rfl⟩));go_roundg (loads.length-(j+1));case measure=>omega
       case rel=>exact⟨j+1,_,rfl,by go_num,by omega,HX.out⟩
     ·have t1:(er==0)=false:=beq_eq_false_iff_ne.2 h0;have t2:(er !=0)=true:=by rw[bne_iff_ne];exact h0
      have HX:=aH (show res=er by rw[←HR.out,bV,gW,if_neg (by rw[HER.out];exact h0),HER.out]);clear h0;go_wp2;go_ret;exact⟨aE (by rw[HRES.out,HX.out]),HGF.out⟩
    ·have hdr:loads.drop j=[]:=List.drop_of_length_le (by omega);rw[hdr]at hG;clear hdr;have HG:Going wb mb nodes (stores.map aV) res ss wa:=hG;have HGS:=aH hG.grown;clear hG hIN hb1 hb2;go_wp2;go_loopg [74] (stores.length-0) (fun r u wr=>∃(j:Nat) (ss:List ByteArray),r=stores.length-j∧u=I j∧j≤stores.length∧Going wb mb nodes ((stores.drop j).map aV) res ss wr);case atStart=>exact⟨0,_,rfl,rfl,by omega,HG⟩
     case round=>
      clear HG;obtain⟨j,ss,rfl,rfl,hj,hG⟩:=hrel;obtain⟨wa,rfl⟩:=wE wr;have hIN:=HIN.out.seen HSM.out hG.grown;have hb1:wa.cell? ⟨w.heap.size,0,none⟩=some (.map (some mb)):=bE HSM.out hG.grown (by rw[HB1.out.cell];rfl);have hb2:wa.cell? ⟨w.heap.size,1,none⟩=some (.slice na nodes.length nc):=bE HSM.out hG.grown (by rw[HB1.out.cell];rfl);have hlt00:w.heap.size<wa.heap.size:=Nat.lt_of_lt_of_le HB1.out.lt hG.grown.size;have hlt0:w.heap.size+1<wa.heap.size:=Nat.lt_of_lt_of_le HB2.out.lt hG.grown.size;by_cases hlt:j<stores.length
      ·obtain⟨b,off,rfl,hbl',hcs⟩:=eQ (f:=StoreD.cells) (sz:=5) (fun _=>rfl) (by omega) hIN.stores hlt;have hsz:=HOK.out.stores stores[j] (List.getElem_mem hlt);have hrest:(stores.drop j).map aV=aV stores[j]::((stores.drop (j+1)).map aV):=by
        rw[List.drop_eq_getElem_cons hlt];rfl
       rw[hrest]at hG;clear hrest;obtain⟨g,hg⟩:∃g,stores[j]=g:=⟨_,rfl⟩;rw[hg]at hcs hsz hG;clear hg;obtain⟨nm,nd,ch,di,ca⟩:=g;have c0:=hcs 0 _ rfl;have c1:=hcs 1 _ rfl;have c2:=hcs 2 _ rfl;have c3:=hcs 3 _ rfl;have c4:=hcs 4 _ rfl;simp only[←Nat.add_assoc,Nat.add_zero]at c0 c1 c2 c3 c4;obtain⟨hsz1,hsz2⟩:=hsz;have HN:=aH hIN.nodes;clear hcs hIN;have HCALL:=aH (lB nodes ss nm [nd] mb na (some ⟨wa.heap.size+1,0,none⟩) nc 1 wa _ hG.map (gX wa (.cells #[.string nm,.string nd,I ch,I di,I ca] 144) (.cells #[.string nd] 9)) hsz1 HN.out (pP wa _ 9 nd) hbn (by simp) (by have:=hG.few;omega));have HBOX:=aH ((Blk.new wa 144 #[.string nm,.string nd,I ch,I di,I ca]).alloc (.cells #[.string nd] 9));have HSM1:=aH (hG.map.ext (gX wa (.cells #[.string nm,.string nd,I ch,I di,I ca] 144) (.cells #[.string nd] 9)));have HR:=aH hG.rest;have HG:=aH hG;clear hG;go_wp2_with fail;refine HCALL.out.mono ?_;rintro e w2 ⟨rfl,hm2,hg2,hg3⟩;have HB3:=HBOX.out.grown HSM1.out hg3;have d2:=HB3.cell 2;have d3:=HB3.cell 3;have d4:=HB3.cell 4;have HM2:=aH hm2;have HG2:=aH hg2;clear hm2 hg2 hg3 HCALL;have HGF:=aH (bG (bG HG0.out HG.out.grown) HG2.out);obtain⟨er,her⟩:∃er,(aW nodes ss nm [nd]).1=er:=⟨_,rfl⟩;rw[her];have HER:=aH her;clear her;by_cases h0:er=0
       ·subst h0;cases hl0:dW ch 0 100000
        case true=>
         have HX:=aH (show res=4 by rw[←HR.out,aV,gW,if_pos HER.out,if_neg (by simp[jZ,hl0])]);go_wp2_with(first|(go_at_call 162;refine(cH _ _).mono ?_;rintro e w' ⟨rfl,rfl⟩)|(go_at_call 161;refine(aY _ _ _ _).mono ?_;rintro e w' ⟨rfl,rfl⟩));go_ret;exact⟨aE (by rw[HRES.out,HX.out]),HGF.out⟩
        case false=>
         cases hl1:dW di 0 100000
         case true=>
          have HX:=aH (show res=4 by rw[←HR.out,aV,gW,if_pos HER.out,if_neg (by simp[jZ,hl0,hl1])]);go_wp2_with(first|(go_at_call 162;refine(cH _ _).mono ?_;rintro e w' ⟨rfl,rfl⟩)|(go_at_call 161;refine(aY _ _ _ _).mono ?_;rintro e w' ⟨rfl,rfl⟩));go_ret;exact⟨aE (by rw[HRES.out,HX.out]),HGF.out⟩
         case false=>
          cases hl2:dW ca 0 100000
          case true=>
           have HX:=aH (show res=4 by rw[←HR.out,aV,gW,if_pos HER.out,if_neg (by simp[jZ,hl0,hl1,hl2])]);go_wp2_with(first|(go_at_call 162;refine(cH _ _).mono ?_;rintro e w' ⟨rfl,rfl⟩)|(go_at_call 161;refine(aY _ _ _ _).mono ?_;rintro e w' ⟨rfl,rfl⟩));go_ret;exact⟨aE (by rw[HRES.out,HX.out]),HGF.out⟩
          case false=>
           have HX:=aH (HG.out.step' HER.out (by simp[jZ,hl0,hl1,hl2]) HM2.out HG2.out);go_wp2_with(first|(go_at_call 162;refine(cH _ _).mono ?_;rintro e w' ⟨rfl,rfl⟩)|(go_at_call 161;refine(aY _ _ _ _).mono ?_;rintro e w' ⟨rfl,rfl⟩));go_roundg (stores.length-(j+1));case measure=>omega
           case rel=>exact⟨j+1,_,rfl,by go_num,by omega,HX.out⟩
       ·have t1:(er==0)=false:=beq_eq_false_iff_ne.2 h0;have t2:(er !=0)=true:=by rw[bne_iff_ne];exact h0
        have HX:=aH (show res=er by rw[←HR.out,aV,gW,if_neg (by rw[HER.out];exact h0),HER.out]);clear h0;go_wp2;go_ret;exact⟨aE (by rw[HRES.out,HX.out]),HGF.out⟩
      ·have hdr:stores.drop j=[]:=List.drop_of_length_le (by omega);rw[hdr]at hG;clear hdr;have HX:=aH (show res=0 by rw[←hG.rest];rfl);have HGF:=aH (bG HG0.out hG.grown);clear hG hIN hb1 hb2;go_wp2;go_ret;exact⟨aE (by rw[HRES.out,HX.out]),HGF.out⟩
def nL(s:ByteArray):ByteArray×List ByteArray×Bool:=(s,[],true)
def eH(s:SwitchD):ByteArray×List ByteArray×Bool:=(s.name,[s.a,s.b],true)
def cJ(b:BranchD):ByteArray×List ByteArray×Bool:=(b.name,[b.src,b.dst],bX b)
def wQ(n:NetD):Bool:= !(decide (24<n.nodes.length)||decide (32<n.switches.length)||decide (24<n.branches.length)||decide (10<n.gens.length)||decide (12<n.loads.length)||decide (4<n.stores.length))
theorem pQ(n:NetD):wQ n=true↔¬(24<n.nodes.length∨32<n.switches.length∨24<n.branches.length∨10<n.gens.length∨12<n.loads.length∨4<n.stores.length):=by
 simp[wQ];omega
theorem aBz(n:NetD)(h:wQ n=false):aX n=2:=by
 rw[aX,if_pos];have:=mt (pQ n).2 (by simp[h]);exact Classical.not_not.1 this
theorem aEn(n:NetD)(v:NetV)(w:World)(hl:wQ n=false)(h1:n.nodes.length≤9223372036854775807)(h2:n.switches.length≤9223372036854775807)(h3:n.branches.length≤9223372036854775807)(h4:n.gens.length≤9223372036854775807)(h5:n.loads.length≤9223372036854775807)(h6:n.stores.length≤9223372036854775807): Calls Tryz.prog 55 #[v.val n] w fun e w'=>e= .returned (I (aX n))∧Below w.heap.size w w':=by
 have HX:=aH (aBz n hl);unfold NetV.val NetV.parts;have HL:=aH hl;clear hl;by_cases g1:24<n.nodes.length
 ·go_enter Tryz.func55,Tryz.ntmps55;go_wp2;go_ret;exact⟨aE (by rw[HX.out]),(Below.refl _ _).alloc lR _⟩
 ·by_cases g2:32<n.switches.length
  ·go_enter Tryz.func55,Tryz.ntmps55;go_wp2;go_ret;exact⟨aE (by rw[HX.out]),(Below.refl _ _).alloc lR _⟩
  ·by_cases g3:24<n.branches.length
   ·go_enter Tryz.func55,Tryz.ntmps55;go_wp2;go_ret;exact⟨aE (by rw[HX.out]),(Below.refl _ _).alloc lR _⟩
   ·by_cases g4:10<n.gens.length
    ·go_enter Tryz.func55,Tryz.ntmps55;go_wp2;go_ret;exact⟨aE (by rw[HX.out]),(Below.refl _ _).alloc lR _⟩
    ·by_cases g5:12<n.loads.length
     ·go_enter Tryz.func55,Tryz.ntmps55;go_wp2;go_ret;exact⟨aE (by rw[HX.out]),(Below.refl _ _).alloc lR _⟩
     ·by_cases g6:4<n.stores.length
      ·go_enter Tryz.func55,Tryz.ntmps55;go_wp2;go_ret;exact⟨aE (by rw[HX.out]),(Below.refl _ _).alloc lR _⟩
      ·have:=(pQ n).2 (by omega);rw[HL.out]at this;cases this
theorem iI{w w':World}(h:w.grownBy w' (some (w.heap.size+1))):Below w.heap.size w w':=⟨h.os,h.tape,h.output,h.size,fun i hi=>h.block i hi (by simp;omega)⟩
structure CheckIn(w:World)(n:NetD)(v:NetV):Prop where
 net:NetIn w n v
 ok:NetOk n
 hn:n.nodes.length≤24
 hw:n.switches.length≤32
 hb:n.branches.length≤24
 hg:n.gens.length≤10
 hl:n.loads.length≤12
 hs:n.stores.length≤4
theorem aEo(n:NetD)(v:NetV)(w:World)(hE:CheckIn w n v):Calls Tryz.prog 55 #[v.val n] w fun e w'=>e= .returned (I (aX n))∧Below w.heap.size w w':=by
 have hbn:=hE.hn;have hbw:=hE.hw;have hbb:=hE.hb;have hbg:=hE.hg;have hbl:=hE.hl;have hbs:=hE.hs;have HOK:=aH hE.ok;have HNET:=aH hE.net;have HRES:Hid (aX n=gW n.nodes n.items []):=by rw[aX,if_neg (by omega)];exact rfl
 clear hE;unfold NetV.val NetV.parts;obtain⟨na,nc,sa,sc,ba,bc,ga,gc,la,lc,ta,tc⟩:=v;simp only;obtain⟨nodes,sws,brs,gens,loads,stores⟩:=n;simp only at hbn hbw hbb hbg hbl hbs HOK HRES⊢;have hmm:=@run_makeMap Tryz.prog;have t1:decide (24<(nodes.length:Int))=false:=by simp;omega
 have t2:decide (32<(sws.length:Int))=false:=by simp;omega
 have t3:decide (24<(brs.length:Int))=false:=by simp;omega
 have t4:decide (10<(gens.length:Int))=false:=by simp;omega
 have t5:decide (12<(loads.length:Int))=false:=by simp;omega
 have t6:decide (4<(stores.length:Int))=false:=by simp;omega
 go_enter Tryz.func55,Tryz.ntmps55;go_wp2;clear t1 t2 t3 t4 t5 t6 hmm;obtain⟨nb,hnb⟩:∃nb,nb=#[Value.slice na nodes.length nc,Value.slice sa sws.length sc,Value.slice ba brs.length bc,Value.slice ga gens.length gc,Value.slice la loads.length lc,Value.slice ta stores.length tc]:=⟨_,rfl⟩;rw[←hnb];have hext:Below w.heap.size w (((w.alloc (Obj.cells nb 29)).alloc (Obj.map #[] 0)).alloc (Obj.cells #[Value.map (some (w.heap.size+1)),Value.slice na nodes.length nc] 202)):=(((Below.refl _ w).alloc lR _).alloc (by simp) _).alloc (by simp;omega) _
 have HIN:=aH (HNET.out.below hext);have hsm0:=SeenMap.made (w.alloc (Obj.cells nb 29));simp only[World.size_alloc]at hsm0;have HSM:=aH (hsm0.ext ((Below.refl _ _).alloc lR (Obj.cells #[Value.map (some (w.heap.size+1)),Value.slice na nodes.length nc] 202)));have HG0:=aH (dG hext (some (w.heap.size+1)));have HB1:=aH (((Blk.new w 29 nb).alloc (Obj.map #[] 0)).alloc (Obj.cells #[Value.map (some (w.heap.size+1)),Value.slice na nodes.length nc] 202));have HB2:=aH (Blk.new ((w.alloc (Obj.cells nb 29)).alloc (Obj.map #[] 0)) 202 #[Value.map (some (w.heap.size+1)),Value.slice na nodes.length nc]);generalize((w.alloc (Obj.cells nb 29)).alloc (Obj.map #[] 0)).alloc (Obj.cells #[Value.map (some (w.heap.size+1)),Value.slice na nodes.length nc] 202)=wb at*;subst hnb;clear hext hsm0 HNET;simp only[World.size_alloc]at HB2;have HG:Going wb (w.heap.size+1) nodes (NetD.items ⟨nodes,sws,brs,gens,loads,stores⟩) (gW nodes (NetD.items ⟨nodes,sws,brs,gens,loads,stores⟩) []) [] wb:=⟨HSM.out,World.grownBy.refl _ _,by simp[NetD.items];omega,rfl⟩
 obtain⟨res,hres⟩:∃res,gW nodes (NetD.items ⟨nodes,sws,brs,gens,loads,stores⟩) []=res:=⟨_,rfl⟩;rw[hres]at HG HRES;clear hres;go_loopg [55] (nodes.length-0) (fun r u wr=>∃(j:Nat) (ss:List ByteArray),r=nodes.length-j∧u=I j∧j≤nodes.length∧Going wb (w.heap.size+1) nodes ((nodes.drop j).map nL++(sws.map eH++(brs.map cJ++((gens.map cT++(loads.map bV++stores.map aV)))))) res ss wr);case atStart=>exact⟨0,_,rfl,rfl,by omega,HG⟩
 case round=>
  clear HG;obtain⟨j,ss,rfl,rfl,hj,hG⟩:=hrel;obtain⟨wa,rfl⟩:=wE wr;have hIN:=HIN.out.seen HSM.out hG.grown;have hb1:wa.cell? ⟨w.heap.size+1+1,0,none⟩=some (.map (some (w.heap.size+1))):=bE HSM.out hG.grown (by rw[HB2.out.cell];rfl);have hb2:wa.cell? ⟨w.heap.size+1+1,1,none⟩=some (.slice na nodes.length nc):=bE HSM.out hG.grown (by rw[HB2.out.cell];rfl);have hn0:wa.cell? ⟨w.heap.size,1,none⟩=some (.slice sa sws.length sc):=bE HSM.out hG.grown (by rw[HB1.out.cell];rfl);have hlt00:w.heap.size<wa.heap.size:=Nat.lt_of_lt_of_le HB1.out.lt hG.grown.size;have hlt0:w.heap.size+1+1<wa.heap.size:=Nat.lt_of_lt_of_le HB2.out.lt hG.grown.size;by_cases hlt:j<nodes.length
  ·obtain⟨b,off,u,rfl,_,hu,hcu⟩:=hIN.nodes.at1 hlt;obtain⟨nm,hnm⟩:∃nm,nodes[j]=nm:=⟨_,rfl⟩;obtain rfl:u=S nm:=by simp[hlt,hnm]at hu;exact hu.symm
   have hsz1:=HOK.out.nodes nodes[j] (List.getElem_mem hlt);simp only[hnm]at hsz1;have hrest:(nodes.drop j).map nL++(sws.map eH++(brs.map cJ++((gens.map cT++(loads.map bV++stores.map aV)))))=nL nodes[j]::((nodes.drop (j+1)).map nL++(sws.map eH++(brs.map cJ++((gens.map cT++(loads.map bV++stores.map aV)))))):=by
    rw[List.drop_eq_getElem_cons hlt];rfl
   rw[hrest,hnm]at hG;clear hrest hnm hu hn0;have HN:=aH hIN.nodes;clear hIN;have HCALL:=aH (lB nodes ss nm [] (w.heap.size+1) (some ⟨b,off,none⟩) none nc 0 wa wa hG.map (Below.refl _ _) hsz1 HN.out Reads.nil hbn (by simp) (by have:=hG.few;omega));have HR:=aH hG.rest;have HG:=aH hG;clear hG;go_wp2_with fail;refine HCALL.out.mono ?_;rintro e w2 ⟨rfl,hm2,hg2,hg3⟩;have HM2:=aH hm2;have HG2:=aH hg2;clear hm2 hg2 hg3 HCALL;have HGF:=aH (bG (bG HG0.out HG.out.grown) HG2.out);obtain⟨er,her⟩:∃er,(aW nodes ss nm []).1=er:=⟨_,rfl⟩;rw[her];have HER:=aH her;clear her;by_cases h0:er=0
   ·subst h0;have HX:=aH (HG.out.step' HER.out rfl HM2.out HG2.out);go_wp2;go_roundg (nodes.length-(j+1));case measure=>omega
    case rel=>exact⟨j+1,_,rfl,by go_num,by omega,HX.out⟩
   ·skip;have t1:(er==0)=false:=beq_eq_false_iff_ne.2 h0;have t2:(er !=0)=true:=by rw[bne_iff_ne];exact h0
    have HX:=aH (show res=er by rw[←HR.out,nL,gW,if_neg (by rw[HER.out];exact h0),HER.out]);clear h0;go_wp2;go_ret;exact⟨aE (by rw[HRES.out,HX.out]),iI HGF.out⟩
  ·have hdr:nodes.drop j=[]:=List.drop_of_length_le (by omega);rw[hdr]at hG;clear hdr;have HG:Going wb (w.heap.size+1) nodes (sws.map eH++(brs.map cJ++((gens.map cT++(loads.map bV++stores.map aV))))) res ss wa:=hG;clear hG hIN hb1 hb2;go_wp2;go_loopg [69] (sws.length-0) (fun r u wr=>∃(j:Nat) (ss:List ByteArray),r=sws.length-j∧u=I j∧j≤sws.length∧Going wb (w.heap.size+1) nodes ((sws.drop j).map eH++(brs.map cJ++((gens.map cT++(loads.map bV++stores.map aV))))) res ss wr);case atStart=>exact⟨0,_,rfl,rfl,by omega,HG⟩
   case round=>
    clear HG;obtain⟨j,ss,rfl,rfl,hj,hG⟩:=hrel;obtain⟨wa,rfl⟩:=wE wr;have hIN:=HIN.out.seen HSM.out hG.grown;have hb1:wa.cell? ⟨w.heap.size+1+1,0,none⟩=some (.map (some (w.heap.size+1))):=bE HSM.out hG.grown (by rw[HB2.out.cell];rfl);have hb2:wa.cell? ⟨w.heap.size+1+1,1,none⟩=some (.slice na nodes.length nc):=bE HSM.out hG.grown (by rw[HB2.out.cell];rfl);have hn0:wa.cell? ⟨w.heap.size,2,none⟩=some (.slice ba brs.length bc):=bE HSM.out hG.grown (by rw[HB1.out.cell];rfl);have hlt00:w.heap.size<wa.heap.size:=Nat.lt_of_lt_of_le HB1.out.lt hG.grown.size;have hlt0:w.heap.size+1+1<wa.heap.size:=Nat.lt_of_lt_of_le HB2.out.lt hG.grown.size;by_cases hlt:j<sws.length
    ·obtain⟨b,off,rfl,hbl',hcs⟩:=eQ (f:=SwitchD.cells) (sz:=5) (fun _=>rfl) (by omega) hIN.switches hlt;have hsz:=HOK.out.switches sws[j] (List.getElem_mem hlt);have hrest:(sws.drop j).map eH++(brs.map cJ++((gens.map cT++(loads.map bV++stores.map aV))))=eH sws[j]::((sws.drop (j+1)).map eH++(brs.map cJ++((gens.map cT++(loads.map bV++stores.map aV))))):=by
      rw[List.drop_eq_getElem_cons hlt];rfl
     rw[hrest]at hG;clear hrest;obtain⟨g,hg⟩:∃g,sws[j]=g:=⟨_,rfl⟩;rw[hg]at hcs hsz hG;clear hg;obtain⟨nm,xa,xb,br,op⟩:=g;have c0:=hcs 0 _ rfl;have c1:=hcs 1 _ rfl;have c2:=hcs 2 _ rfl;have c3:=hcs 3 _ rfl;have c4:=hcs 4 _ rfl;simp only[←Nat.add_assoc,Nat.add_zero]at c0 c1 c2 c3 c4;obtain⟨hsz1,_,_⟩:=hsz;have HN:=aH hIN.nodes;clear hcs hIN hn0;have HCALL:=aH (lB nodes ss nm [xa,xb] (w.heap.size+1) na (some ⟨wa.heap.size+1,0,none⟩) nc 2 wa _ hG.map (gX wa (.cells #[.string nm,.string xa,.string xb,.bool br,.bool op] 134) (.cells #[.string xa,.string xb] 9)) hsz1 HN.out (wP wa _ 9 xa xb) hbn (by simp) (by have:=hG.few;omega));have HBOX:=aH ((Blk.new wa 134 #[.string nm,.string xa,.string xb,.bool br,.bool op]).alloc (.cells #[.string xa,.string xb] 9));have HSM1:=aH (hG.map.ext (gX wa (.cells #[.string nm,.string xa,.string xb,.bool br,.bool op] 134) (.cells #[.string xa,.string xb] 9)));have HR:=aH hG.rest;have HG:=aH hG;clear hG;go_wp2_with fail;refine HCALL.out.mono ?_;rintro e w2 ⟨rfl,hm2,hg2,hg3⟩;have HM2:=aH hm2;have HG2:=aH hg2;clear hm2 hg2 hg3 HCALL;have HGF:=aH (bG (bG HG0.out HG.out.grown) HG2.out);obtain⟨er,her⟩:∃er,(aW nodes ss nm [xa,xb]).1=er:=⟨_,rfl⟩;rw[her];have HER:=aH her;clear her;by_cases h0:er=0
     ·subst h0;have HX:=aH (HG.out.step' HER.out rfl HM2.out HG2.out);go_wp2;go_roundg (sws.length-(j+1));case measure=>omega
      case rel=>exact⟨j+1,_,rfl,by go_num,by omega,HX.out⟩
     ·skip;have t1:(er==0)=false:=beq_eq_false_iff_ne.2 h0;have t2:(er !=0)=true:=by rw[bne_iff_ne];exact h0
      have HX:=aH (show res=er by rw[←HR.out,eH,gW,if_neg (by rw[HER.out];exact h0),HER.out]);clear h0;go_wp2;go_ret;exact⟨aE (by rw[HRES.out,HX.out]),iI HGF.out⟩
    ·have hdr:sws.drop j=[]:=List.drop_of_length_le (by omega);rw[hdr]at hG;clear hdr;have HG:Going wb (w.heap.size+1) nodes (brs.map cJ++((gens.map cT++(loads.map bV++stores.map aV)))) res ss wa:=hG;clear hG hIN hb1 hb2;go_wp2;go_loopg [89] (brs.length-0) (fun r u wr=>∃(j:Nat) (ss:List ByteArray),r=brs.length-j∧u=I j∧j≤brs.length∧Going wb (w.heap.size+1) nodes ((brs.drop j).map cJ++((gens.map cT++(loads.map bV++stores.map aV)))) res ss wr);case atStart=>exact⟨0,_,rfl,rfl,by omega,HG⟩
     case round=>
      clear HG;obtain⟨j,ss,rfl,rfl,hj,hG⟩:=hrel;obtain⟨wa,rfl⟩:=wE wr;have hIN:=HIN.out.seen HSM.out hG.grown;have hb1:wa.cell? ⟨w.heap.size+1+1,0,none⟩=some (.map (some (w.heap.size+1))):=bE HSM.out hG.grown (by rw[HB2.out.cell];rfl);have hb2:wa.cell? ⟨w.heap.size+1+1,1,none⟩=some (.slice na nodes.length nc):=bE HSM.out hG.grown (by rw[HB2.out.cell];rfl);have hn0:wa.cell? ⟨w.heap.size,0,none⟩=some (.slice na nodes.length nc):=bE HSM.out hG.grown (by rw[HB1.out.cell];rfl);have hn1:wa.cell? ⟨w.heap.size,1,none⟩=some (.slice sa sws.length sc):=bE HSM.out hG.grown (by rw[HB1.out.cell];rfl);have hn2:wa.cell? ⟨w.heap.size,2,none⟩=some (.slice ba brs.length bc):=bE HSM.out hG.grown (by rw[HB1.out.cell];rfl);have hn3:wa.cell? ⟨w.heap.size,3,none⟩=some (.slice ga gens.length gc):=bE HSM.out hG.grown (by rw[HB1.out.cell];rfl);have hn4:wa.cell? ⟨w.heap.size,4,none⟩=some (.slice la loads.length lc):=bE HSM.out hG.grown (by rw[HB1.out.cell];rfl);have hn5:wa.cell? ⟨w.heap.size,5,none⟩=some (.slice ta stores.length tc):=bE HSM.out hG.grown (by rw[HB1.out.cell];rfl);have hlt00:w.heap.size<wa.heap.size:=Nat.lt_of_lt_of_le HB1.out.lt hG.grown.size;have hlt0:w.heap.size+1+1<wa.heap.size:=Nat.lt_of_lt_of_le HB2.out.lt hG.grown.size;by_cases hlt:j<brs.length
      ·obtain⟨b,off,rfl,hbl',hcs⟩:=eQ (f:=BranchD.cells) (sz:=9) (fun _=>rfl) (by omega) hIN.branches hlt;have hsz:=HOK.out.branches brs[j] (List.getElem_mem hlt);have hrest:(brs.drop j).map cJ++((gens.map cT++(loads.map bV++stores.map aV)))=cJ brs[j]::((brs.drop (j+1)).map cJ++((gens.map cT++(loads.map bV++stores.map aV)))):=by
        rw[List.drop_eq_getElem_cons hlt];rfl
       rw[hrest]at hG;clear hrest;obtain⟨g,hg⟩:∃g,brs[j]=g:=⟨_,rfl⟩;rw[hg]at hcs hsz hG;clear hg;obtain⟨nm,xa,xb,fx,ft,fs,fl,fo,fh⟩:=g;have c0:=hcs 0 _ rfl;have c1:=hcs 1 _ rfl;have c2:=hcs 2 _ rfl;have c3:=hcs 3 _ rfl;have c4:=hcs 4 _ rfl;have c5:=hcs 5 _ rfl;have c6:=hcs 6 _ rfl;have c7:=hcs 7 _ rfl;have c8:=hcs 8 _ rfl;simp only[←Nat.add_assoc,Nat.add_zero]at c0 c1 c2 c3 c4 c5 c6 c7 c8;obtain⟨hsz1,_,_⟩:=hsz;have HN:=aH hIN.nodes;clear hcs hIN hn0 hn1 hn2 hn3 hn4 hn5;have HCALL:=aH (lB nodes ss nm [xa,xb] (w.heap.size+1) na (some ⟨wa.heap.size+1,0,none⟩) nc 2 wa _ hG.map (gX wa (.cells #[.string nm,.string xa,.string xb,I fx,I ft,I fs,I fl,I fo,I fh] 41) (.cells #[.string xa,.string xb] 9)) hsz1 HN.out (wP wa _ 9 xa xb) hbn (by simp) (by have:=hG.few;omega));have HBOX:=aH ((Blk.new wa 41 #[.string nm,.string xa,.string xb,I fx,I ft,I fs,I fl,I fo,I fh]).alloc (.cells #[.string xa,.string xb] 9));have HSM1:=aH (hG.map.ext (gX wa (.cells #[.string nm,.string xa,.string xb,I fx,I ft,I fs,I fl,I fo,I fh] 41) (.cells #[.string xa,.string xb] 9)));have HR:=aH hG.rest;have HG:=aH hG;clear hG;go_wp2_with fail;refine HCALL.out.mono ?_;rintro e w2 ⟨rfl,hm2,hg2,hg3⟩;have HB3:=HBOX.out.grown HSM1.out hg3;have d0:=HB3.cell 0;have d1:=HB3.cell 1;have d2:=HB3.cell 2;have d3:=HB3.cell 3;have d4:=HB3.cell 4;have d5:=HB3.cell 5;have d6:=HB3.cell 6;have d7:=HB3.cell 7;have d8:=HB3.cell 8;have HM2:=aH hm2;have HG2:=aH hg2;clear hm2 hg2 hg3 HCALL;have HGF:=aH (bG (bG HG0.out HG.out.grown) HG2.out);obtain⟨er,her⟩:∃er,(aW nodes ss nm [xa,xb]).1=er:=⟨_,rfl⟩;rw[her];have HER:=aH her;clear her;by_cases h0:er=0
       ·subst h0;have HBR:=aH (aHe ⟨nm,xa,xb,fx,ft,fs,fl,fo,fh⟩ w2);go_wp2_with fail;refine HBR.out.mono ?_;rintro e w3 ⟨rfl,hb3⟩;have HM3:=aH (HM2.out.ext hb3);have HG3:=aH (bG HG2.out (dG hb3 _));have HGF3:=aH (bG HGF.out (dG hb3 _));clear hb3 HBR;cases hok:bX ⟨nm,xa,xb,fx,ft,fs,fl,fo,fh⟩
        ·have HX:=aH (show res=4 by rw[←HR.out,cJ,gW,if_pos HER.out,if_neg (by simp[hok])]);rw[iE,if_neg (by simp[hok])];clear hok;go_wp2;go_ret;exact⟨aE (by rw[HRES.out,HX.out]),iI HGF3.out⟩
        ·have HX:=aH (HG.out.step' HER.out hok HM3.out HG3.out);rw[iE,if_pos hok];clear hok;go_wp2;go_roundg (brs.length-(j+1));case measure=>omega
         case rel=>exact⟨j+1,_,rfl,by go_num,by omega,HX.out⟩
       ·skip;have t1:(er==0)=false:=beq_eq_false_iff_ne.2 h0;have t2:(er !=0)=true:=by rw[bne_iff_ne];exact h0
        have HX:=aH (show res=er by rw[←HR.out,cJ,gW,if_neg (by rw[HER.out];exact h0),HER.out]);clear h0;go_wp2;go_ret;exact⟨aE (by rw[HRES.out,HX.out]),iI HGF.out⟩
      ·have hdr:brs.drop j=[]:=List.drop_of_length_le (by omega);rw[hdr]at hG;clear hdr;have HEND:=aH (aRh ⟨nodes,sws,brs,gens,loads,stores⟩ ⟨na,nc,sa,sc,ba,bc,ga,gc,la,lc,ta,tc⟩ (w.heap.size+1) ss wa ⟨hIN,HOK.out,hG.map,hbn,hbg,hbl,hbs,by have:=hG.few;simp at this;exact this⟩);have HX:=aH (show res=aJr ⟨nodes,sws,brs,gens,loads,stores⟩ ss by rw[←hG.rest];rfl);have HGF:=aH (bG HG0.out hG.grown);clear hG hIN;go_wp2_with fail;refine HEND.out.mono ?_;rintro e w2 ⟨rfl,hg2⟩;have HGF2:=aH (bG HGF.out hg2);clear hg2 HEND;go_wp2;go_ret;exact⟨aE (by rw[HRES.out,HX.out]),iI HGF2.out⟩
structure Net(w:World)(n:NetD)(v:NetV):Prop where
 net:NetIn w n v
 ok:NetOk n
 l1:n.nodes.length≤9223372036854775807
 l2:n.switches.length≤9223372036854775807
 l3:n.branches.length≤9223372036854775807
 l4:n.gens.length≤9223372036854775807
 l5:n.loads.length≤9223372036854775807
 l6:n.stores.length≤9223372036854775807
theorem Net.below{w w':World}{n:NetD}{v:NetV}(h:Net w n v)(hb:Below w.heap.size w w'):Net w' n v:=⟨h.net.below hb,h.ok,h.l1,h.l2,h.l3,h.l4,h.l5,h.l6⟩
theorem iR(n:NetD)(v:NetV)(w:World)(h:Net w n v):Calls Tryz.prog 55 #[v.val n] w fun e w'=>e= .returned (I (aX n))∧Below w.heap.size w w':=by
 cases hs:wQ n
 ·exact aEn n v w hs h.l1 h.l2 h.l3 h.l4 h.l5 h.l6
 ·have:=(pQ n).1 hs;exact aEo n v w ⟨h.net,h.ok,by omega,by omega,by omega,by omega,by omega,by omega⟩
end Go.Proofs.YtenbglfkdldheaaGreatDoor
