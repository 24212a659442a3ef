/- shiftFact. Transfers: by how much flows grow is linear; the sizes; the plain law of ShiftBack. Plain facts. Bridges, and the islands of a network without one branch: the plain law of ShiftBridges. -/
import Derived.Test.YtenbglfkdldheaaGreatDoorUXE
set_option maxRecDepth 100000
set_option maxHeartbeats 16000000
namespace Go.Proofs.YtenbglfkdldheaaGreatDoor
section
open Go.RowKit
theorem aXk{m:List (List ByteArray)}{L K:List (List UInt8)}(h:tx2 m=[L,K]):m=[mkS L,mkS K]:=by
 match m,h with
 |[a,b],h=>
  simp only[tx2,List.map_cons,List.map_nil,List.cons.injEq,and_true]at h;rw[aBf (h.1.trans (zX L).symm),aBf (h.2.trans (zX K).symm)]
theorem aTu{w:World}{g:Nat}{t:TypeId}{u v:Value}{l k:List ByteArray}(hB:Blk w g t #[u,v])(h:SS w u l)(h2:SS w v k):SMat w (some ⟨g,0,none⟩) 2 [l,k]:=by
 refine⟨[u,v],bN (n:=2) (sz:=1) hB rfl,rfl,fun i x y e1 e2=>?_⟩;match i with
 |0=>
  obtain rfl:u=x:=by simpa using e1
  obtain rfl:l=y:=by simpa using e2
  exact h
 |1=>
  obtain rfl:v=x:=by simpa using e1
  obtain rfl:k=y:=by simpa using e2
  exact h2
 |i+2=>simp at e1
theorem aTv{w:World}{g:Nat}{t:TypeId}{a b:ByteArray}(hB:Blk w g t #[.string a,.string b]):SS w (.slice (some ⟨g,0,none⟩) 2 2) [a,b]:=⟨_,2,rfl,bN (n:=2) (sz:=1) hB rfl⟩
theorem aZt:aIe (cS false)=([[[48],[45,49,47,50]],[[48],[45,49,47,50]]],0):=by decide+kernel
theorem aXl:iP (cS false) 0=([-1,1],0):=by decide+kernel
theorem aZu:tS (cS false) ⟨#[66]⟩ ⟨#[67]⟩=([mkRat 1 2,mkRat 1 2],0):=by decide+kernel
theorem bCc:mkS ([(-1:Rat),1].map aQ)=[⟨#[45,49]⟩,⟨#[49]⟩]:=by decide+kernel
theorem bCd:mkS ([mkRat 1 2,mkRat 1 2].map aQ)=[⟨#[49,47,50]⟩,⟨#[49,47,50]⟩]:=by decide+kernel
theorem aYb{w:World}{r:List Rat×Int}{e:Ending}{w':World}{q:List Rat}{l:List ByteArray}{n:Nat}(h:rK w r e w')(hr:r=(q,0))(hq:mkS (q.map aQ)=l)(hn:q.length=n): ∃A c,e= .returned (.tuple #[.slice A n c,I 0])∧Row w' w.heap.size 51 1 (.slice A n c) n (l.map Sv)∧Below w.heap.size w w':=by
 subst hr hq hn;obtain⟨v,h1,h2,_,h4⟩:=h;obtain⟨_,h5⟩:=h2 rfl;obtain⟨A,c,rfl⟩:=h5.val;exact⟨A,c,h1,h5,h4⟩
theorem yL(w:World)(htab:Tab w):Calls Tryz.prog 14 #[] w fun e w'=>e= .returned (.bool true)∧Below w.heap.size w w':=by
 have HTB:=aH htab;have HB:=aH (Below.refl w.heap.size w);clear htab;go_enter Tryz.func14,Tryz.ntmps14;have HC:=aH (show Calls Tryz.prog 54 #[] w (fun e w'=>∃v:NetV,e= .returned (.agg #[.slice v.na 3 v.nc,.slice v.sa 1 v.sc,.slice v.ba 2 v.bc,.slice v.ga 1 v.gc,.slice v.la 1 v.lc,.slice v.ta 0 v.tc])∧NetIn w' (cS false) v∧Below w.heap.size w w')from(jI w).mono fun e w' h=>by obtain⟨v,h1,h2,_,h3⟩:=h;exact⟨v,h1,h2,h3⟩);go_wp2_with fail;refine HC.out.mono ?_;rintro e w1 ⟨v1,rfl,hin,hb⟩;clear HC;have hbs:=HB.out.size;replace HB:=aH (HB.out.trans (hb.mono hbs));clear hbs;clear hb;have HIN:=aH (hin);clear hin;have HC:=aH (show Calls Tryz.prog 51 #[.agg #[.slice v1.na 3 v1.nc,.slice v1.sa 1 v1.sc,.slice v1.ba 2 v1.bc,.slice v1.ga 1 v1.gc,.slice v1.la 1 v1.lc,.slice v1.ta 0 v1.tc]] w1 (fun e w'=>∃A c,e= .returned (.tuple #[.slice A 2 c,I 0])∧SMat w' A 2 [[⟨#[48]⟩,⟨#[45,49,47,50]⟩],[⟨#[48]⟩,⟨#[45,49,47,50]⟩]]∧Below w1.heap.size w1 w')from(aFv (cS false) v1 w1 (jJ HIN.out) (aO HTB.out HB.out)).mono fun e w' h=>by
   obtain⟨A,n,c,m,h1,h2,h3,_,h5⟩:=h;rw[aZt]at h1 h3;obtain rfl:=aXk h3;have hn:n=2:=by
    obtain⟨_,_,h6,_⟩:=h2;exact h6.symm
   subst hn;exact⟨A,c,h1,h2,h5⟩)
 go_wp2_with fail;refine HC.out.mono ?_;rintro e w2 ⟨FA,fc,rfl,hfm,hb⟩;clear HC;have hbs:=HB.out.size;replace HB:=aH (HB.out.trans (hb.mono hbs));clear hbs;replace HIN:=aH (HIN.out.below hb);clear hb;clear HIN;have HF:=aH (hfm);clear hfm;have HC:=aH (show Calls Tryz.prog 54 #[] w2 (fun e w'=>∃v:NetV,e= .returned (.agg #[.slice v.na 3 v.nc,.slice v.sa 1 v.sc,.slice v.ba 2 v.bc,.slice v.ga 1 v.gc,.slice v.la 1 v.lc,.slice v.ta 0 v.tc])∧NetIn w' (cS false) v∧Below w2.heap.size w2 w')from(jI w2).mono fun e w' h=>by obtain⟨v,h1,h2,_,h3⟩:=h;exact⟨v,h1,h2,h3⟩);go_wp2_with fail;refine HC.out.mono ?_;rintro e w3 ⟨v2,rfl,hin,hb⟩;clear HC;have hbs:=HB.out.size;replace HB:=aH (HB.out.trans (hb.mono hbs));clear hbs;replace HF:=aH (HF.out.below hb);clear hb;have HIN:=aH (hin);clear hin;have HC:=aH (show Calls Tryz.prog 20 #[.agg #[.slice v2.na 3 v2.nc,.slice v2.sa 1 v2.sc,.slice v2.ba 2 v2.bc,.slice v2.ga 1 v2.gc,.slice v2.la 1 v2.lc,.slice v2.ta 0 v2.tc],I 0] w3 _ from(xR (cS false) v2 0 w3 (jJ HIN.out) (aO HTB.out HB.out)).mono fun e w' h=>aYb h aXl bCc rfl);go_wp2_with fail;refine HC.out.mono ?_;rintro e w4 ⟨LA,lc,rfl,hrl,hb⟩;clear HC;have hbs:=HB.out.size;replace HB:=aH (HB.out.trans (hb.mono hbs));clear hbs;replace HF:=aH (HF.out.below hb);replace HIN:=aH (HIN.out.below hb);clear hb;clear HIN;have HL:=aH (hrl);clear hrl;have HC:=aH (show Calls Tryz.prog 54 #[] w4 (fun e w'=>∃v:NetV,e= .returned (.agg #[.slice v.na 3 v.nc,.slice v.sa 1 v.sc,.slice v.ba 2 v.bc,.slice v.ga 1 v.gc,.slice v.la 1 v.lc,.slice v.ta 0 v.tc])∧NetIn w' (cS false) v∧Below w4.heap.size w4 w')from(jI w4).mono fun e w' h=>by obtain⟨v,h1,h2,_,h3⟩:=h;exact⟨v,h1,h2,h3⟩);go_wp2_with fail;refine HC.out.mono ?_;rintro e w5 ⟨v3,rfl,hin,hb⟩;clear HC;have hbs:=HB.out.size;replace HB:=aH (HB.out.trans (hb.mono hbs));clear hbs;replace HF:=aH (HF.out.below hb);replace HL:=aH (HL.out.call hb);clear hb;have HIN:=aH (hin);clear hin;have HC:=aH (show Calls Tryz.prog 46 #[.agg #[.slice v3.na 3 v3.nc,.slice v3.sa 1 v3.sc,.slice v3.ba 2 v3.bc,.slice v3.ga 1 v3.gc,.slice v3.la 1 v3.lc,.slice v3.ta 0 v3.tc],.string ⟨#[66]⟩,.string ⟨#[67]⟩] w5 _ from(aFr (cS false) v3 ⟨#[66]⟩ ⟨#[67]⟩ w5 (jJ HIN.out) (aO HTB.out HB.out)).mono fun e w' h=>aYb h aZu bCd rfl);go_wp2_with fail;refine HC.out.mono ?_;rintro e w6 ⟨BA,bc,rfl,hrb,hb⟩;clear HC;have hbs:=HB.out.size;replace HB:=aH (HB.out.trans (hb.mono hbs));clear hbs;replace HF:=aH (HF.out.below hb);replace HL:=aH (HL.out.call hb);replace HIN:=aH (HIN.out.below hb);clear hb;clear HIN;have HBT:=aH (hrb);clear hrb;have hb:=aD w6 (.cells #[I 0,I 0,I 0] 34);have hx:=Blk.new w6 34 #[I 0,I 0,I 0];have hbs:=HB.out.size;replace HB:=aH (HB.out.trans (hb.mono hbs));clear hbs;replace HF:=aH (HF.out.below hb);replace HL:=aH (HL.out.call hb);replace HBT:=aH (HBT.out.call hb);clear hb;have HX:=aH hx;clear hx;have HC:=aH (wZ [0,0,0] 3 (some ⟨w6.heap.size,0,none⟩) 3 (w6.alloc (.cells #[I 0,I 0,I 0] 34)) (w6.alloc (.cells #[I 0,I 0,I 0] 34)).heap.size (bN (n:=3) (sz:=1) HX.out rfl) (by decide));rw[show kC [0,0,0]=true from rfl]at HC;go_wp2_with fail;refine HC.out.mono ?_;rintro e w7 ⟨rfl,rfl⟩;clear HC;clear HX;generalize(w6.alloc (.cells #[I 0,I 0,I 0] 34))=w8 at*;have hb:=aD w8 (.cells #[.string ⟨#[48]⟩,.string ⟨#[45,49,47,50]⟩] 51);have hx:=Blk.new w8 51 #[.string ⟨#[48]⟩,.string ⟨#[45,49,47,50]⟩];have hbs:=HB.out.size;replace HB:=aH (HB.out.trans (hb.mono hbs));clear hbs;replace HF:=aH (HF.out.below hb);replace HL:=aH (HL.out.call hb);replace HBT:=aH (HBT.out.call hb);clear hb;have B1:=aH hx;clear hx;have hb:=aD (w8.alloc (.cells #[.string ⟨#[48]⟩,.string ⟨#[45,49,47,50]⟩] 51)) (.cells #[.string ⟨#[48]⟩,.string ⟨#[45,49,47,50]⟩] 51);have hx:=Blk.new (w8.alloc (.cells #[.string ⟨#[48]⟩,.string ⟨#[45,49,47,50]⟩] 51)) 51 #[.string ⟨#[48]⟩,.string ⟨#[45,49,47,50]⟩];have hbs:=HB.out.size;replace HB:=aH (HB.out.trans (hb.mono hbs));clear hbs;replace HF:=aH (HF.out.below hb);replace HL:=aH (HL.out.call hb);replace HBT:=aH (HBT.out.call hb);replace B1:=bL B1 hb;clear hb;have B2:=aH hx;clear hx;have hb:=aD ((w8.alloc (.cells #[.string ⟨#[48]⟩,.string ⟨#[45,49,47,50]⟩] 51)).alloc (.cells #[.string ⟨#[48]⟩,.string ⟨#[45,49,47,50]⟩] 51)) (.cells #[.slice (some ⟨w8.heap.size,0,none⟩) 2 2,.slice (some ⟨(w8.alloc (.cells #[.string ⟨#[48]⟩,.string ⟨#[45,49,47,50]⟩] 51)).heap.size,0,none⟩) 2 2] 47);have hx:=Blk.new ((w8.alloc (.cells #[.string ⟨#[48]⟩,.string ⟨#[45,49,47,50]⟩] 51)).alloc (.cells #[.string ⟨#[48]⟩,.string ⟨#[45,49,47,50]⟩] 51)) 47 #[.slice (some ⟨w8.heap.size,0,none⟩) 2 2,.slice (some ⟨(w8.alloc (.cells #[.string ⟨#[48]⟩,.string ⟨#[45,49,47,50]⟩] 51)).heap.size,0,none⟩) 2 2];have hbs:=HB.out.size;replace HB:=aH (HB.out.trans (hb.mono hbs));clear hbs;replace HF:=aH (HF.out.below hb);replace HL:=aH (HL.out.call hb);replace HBT:=aH (HBT.out.call hb);replace B1:=bL B1 hb;replace B2:=bL B2 hb;clear hb;have B3:=aH hx;clear hx;have HC:=aH (aDk [[⟨#[48]⟩,⟨#[45,49,47,50]⟩],[⟨#[48]⟩,⟨#[45,49,47,50]⟩]] [[⟨#[48]⟩,⟨#[45,49,47,50]⟩],[⟨#[48]⟩,⟨#[45,49,47,50]⟩]] 2 2 FA (some ⟨((w8.alloc (.cells #[.string ⟨#[48]⟩,.string ⟨#[45,49,47,50]⟩] 51)).alloc (.cells #[.string ⟨#[48]⟩,.string ⟨#[45,49,47,50]⟩] 51)).heap.size,0,none⟩) fc 2 (((w8.alloc (.cells #[.string ⟨#[48]⟩,.string ⟨#[45,49,47,50]⟩] 51)).alloc (.cells #[.string ⟨#[48]⟩,.string ⟨#[45,49,47,50]⟩] 51)).alloc (.cells #[.slice (some ⟨w8.heap.size,0,none⟩) 2 2,.slice (some ⟨(w8.alloc (.cells #[.string ⟨#[48]⟩,.string ⟨#[45,49,47,50]⟩] 51)).heap.size,0,none⟩) 2 2] 47)) HF.out (aTu B3.out (aTv B1.out) (aTv B2.out)) (by decide) (fun l hl=>by rcases List.mem_cons.1 hl with rfl|hl;exact Nat.le_of_ble_eq_true rfl;rw[List.mem_singleton.1 hl];exact Nat.le_of_ble_eq_true rfl));rw[decide_eq_true rfl]at HC;try simp only[World.size_alloc]at HC
 go_wp2_with fail;refine HC.out.mono ?_;rintro e w9 ⟨rfl,hb⟩;clear HC;have hb3:Below (((w8.alloc (.cells #[.string ⟨#[48]⟩,.string ⟨#[45,49,47,50]⟩] 51)).alloc (.cells #[.string ⟨#[48]⟩,.string ⟨#[45,49,47,50]⟩] 51)).alloc (.cells #[.slice (some ⟨w8.heap.size,0,none⟩) 2 2,.slice (some ⟨(w8.alloc (.cells #[.string ⟨#[48]⟩,.string ⟨#[45,49,47,50]⟩] 51)).heap.size,0,none⟩) 2 2] 47)).heap.size (((w8.alloc (.cells #[.string ⟨#[48]⟩,.string ⟨#[45,49,47,50]⟩] 51)).alloc (.cells #[.string ⟨#[48]⟩,.string ⟨#[45,49,47,50]⟩] 51)).alloc (.cells #[.slice (some ⟨w8.heap.size,0,none⟩) 2 2,.slice (some ⟨(w8.alloc (.cells #[.string ⟨#[48]⟩,.string ⟨#[45,49,47,50]⟩] 51)).heap.size,0,none⟩) 2 2] 47)) w9:=by simp only[World.size_alloc];exact hb
 clear hb;clear B1 B2 B3 HF;have hbs:=HB.out.size;replace HB:=aH (HB.out.trans (hb3.mono hbs));clear hbs;replace HL:=aH (HL.out.call hb3);replace HBT:=aH (HBT.out.call hb3);clear hb3;have hb:=aD w9 (.cells #[.string ⟨#[45,49]⟩,.string ⟨#[49]⟩] 51);have hx:=Blk.new w9 51 #[.string ⟨#[45,49]⟩,.string ⟨#[49]⟩];have hbs:=HB.out.size;replace HB:=aH (HB.out.trans (hb.mono hbs));clear hbs;replace HL:=aH (HL.out.call hb);replace HBT:=aH (HBT.out.call hb);clear hb;have B1:=aH hx;clear hx;have HC:=aH (lT [⟨#[45,49]⟩,⟨#[49]⟩] [⟨#[45,49]⟩,⟨#[49]⟩] 2 2 LA (some ⟨w9.heap.size,0,none⟩) lc 2 (w9.alloc (.cells #[.string ⟨#[45,49]⟩,.string ⟨#[49]⟩] 51)) (HL.out.reads.more lR) (bN (n:=2) (sz:=1) B1.out rfl) (by decide));rw[decide_eq_true rfl]at HC;go_wp2_with fail;refine HC.out.mono ?_;rintro e w10 ⟨rfl,hb⟩;clear HC;clear B1 HL;have hbs:=HB.out.size;replace HB:=aH (HB.out.trans (hb.mono hbs));clear hbs;replace HBT:=aH (HBT.out.call hb);clear hb;have hb:=aD w10 (.cells #[.string ⟨#[49,47,50]⟩,.string ⟨#[49,47,50]⟩] 51);have hx:=Blk.new w10 51 #[.string ⟨#[49,47,50]⟩,.string ⟨#[49,47,50]⟩];have hbs:=HB.out.size;replace HB:=aH (HB.out.trans (hb.mono hbs));clear hbs;replace HBT:=aH (HBT.out.call hb);clear hb;have B1:=aH hx;clear hx;have HC:=aH (lT [⟨#[49,47,50]⟩,⟨#[49,47,50]⟩] [⟨#[49,47,50]⟩,⟨#[49,47,50]⟩] 2 2 BA (some ⟨w10.heap.size,0,none⟩) bc 2 (w10.alloc (.cells #[.string ⟨#[49,47,50]⟩,.string ⟨#[49,47,50]⟩] 51)) (HBT.out.reads.more lR) (bN (n:=2) (sz:=1) B1.out rfl) (by decide));rw[decide_eq_true rfl]at HC;go_wp2_with fail;refine HC.out.mono ?_;rintro e w11 ⟨rfl,hb⟩;clear HC;clear B1 HBT;have hbs:=HB.out.size;replace HB:=aH (HB.out.trans (hb.mono hbs));clear hbs;clear hb;go_wp2;go_ret;exact⟨rfl,HB.out⟩
end
section
theorem aXm(u v nb:Nat):(gr0 u v nb).length=nb:=by simp[gr0]
theorem aTw{u v nb:Nat}{j:Nat}(hj:j<nb)(_hu:u<nb)(hv:v<nb):(gr0 u v nb).getD j 0=(if u=j then 1 else 0)-(if v=j then 1 else 0):=by
 have h1:∀x,x<nb→((List.replicate nb (0:Rat)).set u ((List.replicate nb (0:Rat)).getD u 0+1)).getD x 0=if u=x then 1 else 0:=fun x hx=>by
  rw[eL,vL,vL,List.length_replicate];by_cases e:u=x
  ·rw[if_pos ⟨e,hx⟩,if_pos e];grind
  ·rw[if_neg (fun h=>e h.1),if_neg e]
 unfold gr0;rw[eL,h1 v hv,h1 j hj,List.length_set,List.length_replicate];by_cases e:v=j
 ·subst e;rw[if_pos ⟨rfl,hv⟩,if_pos rfl]
 ·rw[if_neg (fun h=>e h.1),if_neg e];grind
theorem aZv{frm tu:List Int}{B th:List Rat}{k i:Nat}(hi:i<k):(grK frm tu B th k).getD i 0=aLu frm tu B th i:=by
 unfold grK;rw[gD,List.getElem?_map,List.getElem?_range hi];rfl
theorem aAl{n:NetD}(h:VNet n)(hb:n.branches.length≤10){u v:Nat}(hu:u<nbN n)(hv:v<nbN n):Small n (gr0 u v (nbN n)):=fun i=>by
 have hK:IB (10^3) (1000:Rat):=⟨1000,rfl,by decide⟩;have hx:IB (10^1) ((gr0 u v (nbN n)).getD i 0):=by
  by_cases hi:i<nbN n
  ·rw[aTw hi hu hv];have h1:∀p:Prop,∀[Decidable p],IB 1 (if p then(1:Rat)else 0):=fun p _=>by
    split
    ·exact⟨1,rfl,by decide⟩
    ·exact IB.zero _
   exact((h1 _).sub (h1 _)).mono (by decide)
  ·rw[gD,List.getElem?_eq_none (by rw[aXm];omega)];exact IB.zero _
 exact IB.ten (k:=3+(80+1)) (gH hK (gH (aQg h hb) hx)) (by omega)
theorem aTx{n:NetD}{u v:Nat}{q:Rat}(hq:q∈grN n u v):∃b∈n.branches,q=bQ b*((thN n (gr0 u v (nbN n))).getD (aP n b.src).toNat 0-(thN n (gr0 u v (nbN n))).getD (aP n b.dst).toNat 0):=by
 obtain⟨i,hi,rfl⟩:=List.mem_map.1 hq;have hi:=List.mem_range.1 hi;refine⟨n.branches[i],List.getElem_mem hi,?_⟩;simp[aLu,bB,toL,bLQ,hi]
theorem bBo{n:NetD}(h:VNet n)(hw:jY n=false){u v:Nat}(hu:u<nbN n)(hv:v<nbN n):∀q∈grN n u v,SzQ q 831:=fun q hq=>by
 obtain⟨e,he⟩:=vO h hw;obtain⟨b,hb,rfl⟩:=aTx hq;exact((he.df _ (aAl h (kT hw).2.1 hu hv) b hb _ _).mono (show 828≤830 by omega)).sz he.sz he.ne
theorem aZw{n:NetD}(h:VNet n)(hw:jY n=false){u v:Nat}(hu:u<nbN n)(hv:v<nbN n):(grN n u v).all bK=true:=List.all_eq_true.2 fun q hq=>(bBo h hw hu hv q hq).fit (by omega) (by omega)
theorem pX{l:List (Int×Int)}(k:Nat){j:Int}(h:0≤j):bM (l.eraseIdx k) j=bM l (if j<k then j else j+1):=by
 obtain⟨m,rfl⟩:∃m:Nat,j=m:=Int.eq_ofNat_of_zero_le h;simp only[bM,gD,List.getElem?_eraseIdx,Int.toNat_natCast];by_cases e:m<k
 ·rw[if_pos e,if_pos (by omega),Int.toNat_natCast]
 ·rw[if_neg e,if_neg (by omega),show((m:Int)+1).toNat=m+1 by omega]
theorem aIg{l:List (Int×Int)}{k:Nat}(hk:k<l.length)(u v:Int):Conn (l.eraseIdx k) (But (l.eraseIdx k) (-1)) u v↔Conn l (But l k) u v:=by
 have hl:(l.eraseIdx k).length+1=l.length:=by rw[List.length_eraseIdx_of_lt hk];omega
 constructor
 ·refine fun h=>h.carry fun j hj=>?_;obtain⟨h1,h2,-⟩:=hj;refine⟨if j<k then j else j+1,?_,pX k h1⟩;split
  ·exact⟨h1,by omega,by omega⟩
  ·exact⟨by omega,by omega,by omega⟩
 ·refine fun h=>h.carry fun j hj=>?_;obtain⟨h1,h2,h3⟩:=hj;by_cases e:j<k
  ·refine⟨j,⟨h1,by omega,by omega⟩,?_⟩;rw[pX k h1,if_pos e]
  ·refine⟨j-1,⟨by omega,by omega,by omega⟩,?_⟩;rw[pX k (by omega),if_neg (by omega),Int.sub_add_cancel]
theorem aOa{α β:Type}(f:α→β)(l:List α)(k:Nat):(l.eraseIdx k).map f=(l.map f).eraseIdx k:=by
 apply List.ext_getElem?;intro i;rw[List.getElem?_map,List.getElem?_eraseIdx,List.getElem?_eraseIdx,List.getElem?_map,List.getElem?_map];split<;>rfl
theorem aOb(n:NetD)(k:Nat):aS (bI n k)=(aS n).eraseIdx k:=by
 exact aOa _ n.branches k
theorem aOc{n:NetD}(hc:aX n=0){k:Nat}(hk:k<n.branches.length):aC (bI n k)=parts (fL (aI n)).toNat (aS n) k:=by
 have hV:=iH hc;have hW:=iH (jF hc k);have he:=fA hW;rw[vU hW];refine vT he (fA hV) fun u v=>?_;rw[aOb];exact aIg (by simpa[aS]using hk) u v
theorem aTy{n:NetD}{k:Nat}(hk:k<n.branches.length):(aS n).getD k (0,0)=((bB n).getD k 0,(toL n).getD k 0):=by
 simp[aS,bB,toL,hk,aP]
theorem aFx{n:NetD}(hw:jY n=false)(k:Nat):jY (bI n k)=false:=by
 obtain⟨h1,h2,h3⟩:=kT hw;have:(bI n k).branches.length≤n.branches.length:=by
  show(n.branches.eraseIdx k).length≤_;rw[List.length_eraseIdx];split<;>omega
 unfold jY;rw[decide_eq_false (by show¬8<n.nodes.length;omega),decide_eq_false (by omega),decide_eq_false (by show¬10<n.switches.length;omega)];rfl
theorem aZx{n:NetD}(hw:jY n=false)(hc:aX n=0){k:Nat}(hk:k<n.branches.length):(lnQ n k).all bK=true:=by
 have hW:=iH (jF hc k);have hb:∀x∈aI n,x.toNat<nbN (bI n k):=fun x hx=>by have:=uP hW hx;omega
 obtain⟨f1,f2⟩:=rO (iH hc) hk;have hg:=List.all_eq_true.1 (aZw hW (aFx hw k) (hb _ f1) (hb _ f2));rw[List.all_eq_true];intro q hq;rcases List.mem_append.1 hq with h|h
 ·exact hg q (List.mem_of_mem_take h)
 ·rcases List.mem_cons.1 h with rfl|h
  ·decide+kernel
  ·exact hg q (List.mem_of_mem_drop h)
end
end Go.Proofs.YtenbglfkdldheaaGreatDoor
