/- matrix.each, matrix.Add, matrix.Scale. matrix.Add, matrix.Scale. FlowAdds: are there no phase shifts? And the plain law: the flows of added injections are added. -/
import Derived.Test.YtenbglfkdldheaaGreatDoorKFN
set_option maxRecDepth 100000
set_option maxHeartbeats 4000000
namespace Go.Proofs.YtenbglfkdldheaaGreatDoor
open Go.RowKit
def mR(f:Rat→Rat→Rat)(x y:List (List Rat)):List (List Rat):=List.zipWith (fun r s=>List.zipWith f r s) x y
theorem aJm{f:Rat→Rat→Rat}{a b:List (List Rat)}{n k:Nat}(ha:Rect a n k)(hb:Rect b n k):Rect (mR f a b) n k:=by
 refine⟨by rw[mR,List.length_zipWith,ha.len,hb.len,Nat.min_self],fun r hr=>?_⟩;unfold mR at hr;obtain⟨i,hi,rfl⟩:=List.mem_iff_getElem.1 hr;rw[List.length_zipWith]at hi;rw[List.getElem_zipWith,List.length_zipWith,ha.row _ (List.getElem_mem _),hb.row _ (List.getElem_mem _),Nat.min_self]
theorem aMx{f:Rat→Rat→Rat}{a b:List (List Rat)}{n k:Nat}(ha:Rect a n k)(hb:Rect b n k){i j:Nat}(hi:i<n)(hj:j<k):at2 (mR f a b) i j=f (at2 a i j) (at2 b i j):=by
 have h1:i<a.length:=by rw[ha.len];exact hi
 have h2:i<b.length:=by rw[hb.len];exact hi
 have k1:j<(a[i]).length:=by rw[ha.row _ (List.getElem_mem _)];exact hj
 have k2:j<(b[i]).length:=by rw[hb.row _ (List.getElem_mem _)];exact hj
 unfold at2 mR;simp only[gD,List.getElem?_zipWith,gE h1,gE h2,Option.getD_some,gE k1,gE k2]
def iG(r x:List (List Rat))(i k:Nat):List (List Rat):=(List.range x.length).map fun j=>if j<i then r.getD j []else if j=i then(r.getD i []).take k++(x.getD i []).drop k else x.getD j []
theorem uC(r x:List (List Rat))(i k:Nat):(iG r x i k).length=x.length:=by simp[iG]
theorem uD(r x:List (List Rat)){i:Nat}(k:Nat)(hi:i<x.length):(iG r x i k).getD i []=(r.getD i []).take k++(x.getD i []).drop k:=by
 unfold iG;rw[jP _ _ hi,if_neg (by omega),if_pos rfl]
theorem aTe{r x:List (List Rat)}{n wd i k:Nat}(hr:Rect r n wd)(hx:Rect x n wd)(hi:i<n)(hk:k<wd):((iG r x i k).getD i []).length=wd∧((iG r x i k).getD i []).getD k 0=at2 x i k:=by
 have l1:=hr.rowlen hi;have l2:=hx.rowlen hi;rw[uD r x k (by rw[hx.len];exact hi)];refine⟨by rw[List.length_append,List.length_take,List.length_drop,l1,l2];omega,?_⟩;unfold at2;rw[gD,List.getElem?_append_right (by rw[List.length_take,l1];omega),gD,List.length_take,l1,List.getElem?_drop];congr 2;omega
theorem aMy{r x:List (List Rat)}{n wd i k:Nat}(hr:Rect r n wd)(hx:Rect x n wd)(hi:i<n)(hk:k<wd):(iG r x i k).set i (((iG r x i k).getD i []).set k (at2 r i k))=iG r x i (k+1):=by
 have l1:=hr.rowlen hi;have l2:=hx.rowlen hi;have hix:i<x.length:=by rw[hx.len];exact hi
 apply List.ext_getElem?;intro j;by_cases hj:j=i
 ·subst hj;rw[List.getElem?_set_self (by rw[uC];exact hix),uD r x k hix];unfold iG;rw[List.getElem?_map,List.getElem?_range hix,Option.map_some,if_neg (by omega),if_pos rfl];congr 1;have hlt:k<(r.getD j []).length:=by rw[l1];exact hk
  rw[List.set_append_right _ _ (by rw[List.length_take,l1];omega),List.length_take,l1,List.drop_eq_getElem_cons (i:=k) (by rw[l2];exact hk),show k-min k wd=0 by omega,List.set_cons_zero,List.take_add_one,gE hlt];unfold at2;rw[gD (l:=r.getD j []),gE hlt,List.append_assoc];rfl
 ·rw[List.getElem?_set_ne (Ne.symm hj)];unfold iG;rw[List.getElem?_map,List.getElem?_map];by_cases h:j<x.length
  ·rw[List.getElem?_range h,Option.map_some,Option.map_some,if_neg hj,if_neg hj]
  ·rw[List.getElem?_eq_none (by simp;omega)];rfl
theorem aJn{r x:List (List Rat)}{n wd:Nat}(hr:Rect r n wd)(hx:Rect x n wd){i:Nat}(hi:i<n):iG r x i wd=iG r x (i+1) 0:=by
 have l1:=hr.rowlen hi;have l2:=hx.rowlen hi;unfold iG;refine List.map_congr_left fun j _=>?_;by_cases h1:j<i
 ·rw[if_pos h1,if_pos (by omega)]
 ·by_cases h2:j=i
  ·rw[if_neg h1,if_pos h2,if_pos (by omega),List.take_of_length_le (by omega),List.drop_of_length_le (by omega),List.append_nil,h2]
  ·rw[if_neg h1,if_neg h2,if_neg (by omega)];split
   ·rename_i h3;subst h3;simp
   ·rfl
theorem aEx(r x:List (List Rat)):iG r x 0 0=x:=by
 apply List.ext_getElem
 ·simp[iG]
 ·intro j h1 h2;simp only[iG,List.getElem_map,List.getElem_range];rw[if_neg (by omega)];split
  ·rename_i h;subst h;simp[h2]
  ·simp[h2]
theorem aMz{r x:List (List Rat)}{n wd:Nat}(hr:Rect r n wd)(hx:Rect x n wd):iG r x n 0=r:=by
 apply List.ext_getElem
 ·simp[iG,hx.len,hr.len]
 ·intro j h1 h2;have h3:j<n:=by rw[←hr.len];exact h2
  simp only[iG,List.getElem_map,List.getElem_range];rw[if_pos h3,gD,gE h2];rfl
theorem Fit2.entry{m:List (List Rat)}(h:Fit2 m)(i j:Nat):FitR 210 (at2 m i j):=(h.at_ i).at_ j
structure EachI(w w0:World)(hi:Nat)(wr:World):Prop where
 below:Below w.heap.size w wr
 kw:Kw w0 wr
 keep:∀g,hi≤g→g<w0.heap.size→wr.heap[g]?=w0.heap[g]?
theorem EachI.call{w w0 wr w':World}{hi:Nat}(h:EachI w w0 hi wr)(hb:Below wr.heap.size wr w'):EachI w w0 hi w':=⟨h.below.trans (hb.mono h.below.size),h.kw.trans (jQ hb),fun g h1 h2=>(hb.block g (Nat.lt_of_lt_of_le h2 h.kw.size)).trans (h.keep g h1 h2)⟩
theorem EachI.put4{w w0 wr:World}{hi g o:Nat}(h:EachI w w0 hi wr)(hg:w.heap.size≤g)(hlt:g<hi){u0 u1 u2 u3:Value}(k:Kw wr (put4 wr g o u0 u1 u2 u3)):EachI w w0 hi (put4 wr g o u0 u1 u2 u3):=⟨cA h.below hg _ _ _ _,h.kw.trans k,fun g' h1 h2=>(cO wr o _ _ _ _ (by omega)).trans (h.keep g' h1 h2)⟩
theorem aBv(a b:List (List ByteArray))(n wd:Nat)(A B:Option Addr)(ca cb:Nat)(w:World)(ha:SMat w A n a)(hb:SMat w B n b)(sa:Sh2 a)(sb:Sh2 b)(htab:Tab w)(va:VM (tx2 a) n wd)(vb:VM (tx2 b) n wd)(hwd:wd≤40): Calls Tryz.prog 104 #[.slice A n ca,.slice B n cb,.func (.func 99) #[] #[]] w (RetMT w (txM (mR (fun p q=>p+q) (bU (tx2 a)) (bU (tx2 b))))):=by
 have hn:=va.hn;have HA:=aH ha;have HB:=aH hb;have HTB:=aH htab;have HSA:=aH sa;have HSB:=aH sb;have VA:=aH va;have VB:=aH vb;have HX:=aH (mE a n A ca w ha sa (tV (m:=a) va) (by omega));have FXF:=aH (oN va);have FYF:=aH (oN vb);have RX:=aH va.vals;have RY:=aH vb.vals;clear ha hb htab sa sb va vb;go_enter Tryz.func104,Tryz.ntmps104;go_wp2_with fail;refine HX.out.mono ?_;rintro e w1 ⟨vx,xs,rfl,hx,hb1⟩;have HB1:=aH hb1;have HXX:=aH hx;have HY:=aH (mE b n B cb w1 (HB.out.below hb1) HSB.out (tV (m:=b) VB.out) (by omega));clear hb1 hx HX;go_wp2_with fail;refine HY.out.mono ?_;rintro e w0 ⟨vy,ys,rfl,hy,hb2⟩;have hx0:=HXX.out.call hb2;obtain⟨Ax,cx,rfl⟩:=hx0.val;obtain⟨Ay,cy,rfl⟩:=hy.val;have lx:=RX.out.len;have ly:=RY.out.len;rw[lx]at hx0⊢;rw[ly]at hy⊢;have HYR:=aH hy;have HLT:=aH (show∀(j:Nat) (u:Value) (g:Nat),xs[j]?=some u→u.ownBlock=some g→g<w1.heap.size from fun j u g h1 h2=>by
  have h3:=HXX.out.len;have hj:=(List.getElem?_eq_some_iff.1 h1).1;exact((HXX.out.inner j u _ h1 (gE (by omega))).lt h2).2)
 have HP:=aH (show LM w0 w.heap.size (.slice Ax n cx) xs (iG (mR (fun p q=>p+q) (bU (tx2 a)) (bU (tx2 b))) (bU (tx2 a)) 0 0)from by rw[aEx];exact hx0);have HI:=aH (show EachI w w0 w1.heap.size w0 from⟨HB1.out.trans (hb2.mono HB1.out.size),Kw.refl _,fun _ _ _=>rfl⟩);have RR:=aH (aJm (f:=fun p q=>p+q) RX.out RY.out);have HW1:=aH HB1.out.size;clear hb2 hy hx0 lx ly HY HXX HA HB HSA HSB VA VB;generalize hR:mR (fun p q=>p+q) (bU (tx2 a)) (bU (tx2 b))=R at*;have HRE:=aH hR;clear hR;generalize hxe:bU (tx2 a)=x at*;generalize hye:bU (tx2 b)=y at*;have HXE:=aH hxe;have HYE:=aH hye;clear hxe hye;go_wp2;go_loopg [18] (n-0) (fun r v wr=>∃i:Nat,r=n-i∧v=I i∧i≤n∧Hid (LM wr w.heap.size (.slice Ax n cx) xs (iG R x i 0))∧Hid (EachI w w0 w1.heap.size wr));case atStart=>exact⟨0,rfl,rfl,by omega,HP,HI⟩
 case round=>
  clear HP HI;obtain⟨i,rfl,rfl,hi,HP,HI⟩:=hrel;obtain⟨wa,rfl⟩:=wE wr;by_cases hlt:i<n
  ·obtain⟨g0,off,cap,Bh,ch,e0,_,_,_,hcl,_,_⟩:=HP.out.at_ (i:=i) (by rw[uC,RX.out.len];exact hlt);have hAx:Ax=some ⟨g0,off,none⟩:=aBk e0;have hlen0:((iG R x i 0).getD i []).length=wd:=by
    rw[uD R x 0 (by rw[RX.out.len];exact hlt),List.take_zero,List.nil_append,List.drop_zero];exact RX.out.rowlen hlt
   rw[hlen0]at hcl;subst hAx;clear e0 hlen0;go_wp2;clear hcl;go_loopg [26] (wd-0) (fun r v wr=>∃k:Nat,r=wd-k∧v=I k∧k≤wd∧Hid (LM wr w.heap.size (.slice (some ⟨g0,off,none⟩) n cx) xs (iG R x i k))∧Hid (EachI w w0 w1.heap.size wr));case atStart=>exact⟨0,rfl,rfl,by omega,HP,HI⟩
   case round=>
    clear HP HI;obtain⟨k,rfl,rfl,hk,HP,HI⟩:=hrel;obtain⟨wb,rfl⟩:=wE wr;by_cases hkl:k<wd
    ·obtain⟨hml,hme⟩:=aTe RR.out RX.out hlt hkl;have hML:(iG R x i k).length=n:=by rw[uC,RX.out.len]
     have hd:=aQ wb;have hL1:=HP.out.call hd;have hI1:=HI.out.call hd;obtain⟨bx,ox,c1,xb,xn,xnl,xnc,xd,xdl,xdc,hu,hc,hC,hrt,hfz,_,_,hbx,_,hne⟩:=hL1.elem hML (i:=i) (k:=k) hlt (by rw[hml];exact hkl);rw[hml]at hu hc;rw[hme]at hrt;have hy1:LM wb.drew w1.heap.size (.slice Ay n cy) ys y:=HYR.out.keepB hI1.kw hI1.keep;obtain⟨gy,oy,capy,By_,cy2,ey,_⟩:=hy1.at_ (i:=i) (by rw[RY.out.len];exact hlt);have hAy:Ay=some ⟨gy,oy,none⟩:=aBk ey;subst hAy;have hyl:=RY.out.rowlen hlt;obtain⟨by_,o2,c2,yb,yn,ynl,ync,yd,ydl,ydc,_,hcy,hCy,hrty,_,_,_,_,_,_⟩:=hy1.elem RY.out.len (i:=i) (k:=k) hlt (by rw[hyl];exact hkl);rw[hyl]at hcy;have HU:=aH hu;have CX:=aH hc;have EX:=aH hC;have CY:=aH hcy;have EY:=aH hCy;have HFZ:=aH hfz;have HL1:=aH hL1;have HI1:=aH hI1;have HML:=aH hML;have HBXL:=aH (HLT.out i _ bx hu rfl);have HBX:=aH hbx;have HCALL:=aH (gI _ _ (at2 x i k) (at2 y i k) wb.drew hrt hrty (N:=210) (by decide) (FXF.out.entry i k) (FYF.out.entry i k));clear hu hc hC hrt hfz hbx hne hml hme hML hd hL1 hI1 hy1 ey hyl hcy hCy hrty HP HI;go_upto_region 8 with(fail)
     refine aG (fun w'=>w'.cell? ⟨g0,off+i,none⟩=some (.slice (some ⟨bx,ox,none⟩) wd c1)∧w'.cell? ⟨bx,ox+k*4,none⟩=some (.bool xb)∧w'.cell? ⟨bx,ox+k*4+1,none⟩=some (.slice xn xnl xnc)∧w'.cell? ⟨bx,ox+k*4+2,none⟩=some (.bool false)∧w'.cell? ⟨bx,ox+k*4+3,none⟩=some (.slice xd xdl xdc)∧w'.cell? ⟨gy,oy+i,none⟩=some (.slice (some ⟨by_,o2,none⟩) wd c2)∧w'.cell? ⟨by_,o2+k*4,none⟩=some (.bool yb)∧w'.cell? ⟨by_,o2+k*4+1,none⟩=some (.slice yn ynl ync)∧w'.cell? ⟨by_,o2+k*4+2,none⟩=some (.bool false)∧w'.cell? ⟨by_,o2+k*4+3,none⟩=some (.slice yd ydl ydc)) 22 (by kernel_rfl) ?_;generalize wb.drew=W1 at*;refine tkS ⟨CX.out,EX.out.c0,EX.out.c1,EX.out.c2,EX.out.c3,CY.out,EY.out.c0,EY.out.c1,EY.out.c2,EY.out.c3⟩ fun hSS=>?_;refine aZ 0 (.slice (some ⟨g0,off,none⟩) n cx) rfl hSS ?_;refine aZ 1 (I i) rfl hSS ?_;refine aZ 2 (.pointer (some ⟨g0,off+i,none⟩)) rfl hSS ?_;refine aZ 3 (.slice (some ⟨bx,ox,none⟩) wd c1) rfl hSS ?_;refine aZ 4 (I k) rfl hSS ?_;refine aZ 5 (.func (.func 99) #[] #[]) rfl hSS ?_;refine aZ 6 (.slice (some ⟨g0,off,none⟩) n cx) rfl hSS ?_;refine aZ 7 (I i) rfl hSS ?_;refine aZ 8 (.pointer (some ⟨g0,off+i,none⟩)) rfl hSS ?_;refine aZ 9 (.slice (some ⟨bx,ox,none⟩) wd c1) rfl hSS ?_;refine aZ 10 (I k) rfl hSS ?_;refine aZ 11 (.pointer (some ⟨bx,ox+k*4,none⟩)) rfl hSS ?_;refine aZ 12 (.agg #[.bool xb,.slice xn xnl xnc,.bool false,.slice xd xdl xdc]) rfl hSS ?_;refine aZ 13 (.slice (some ⟨gy,oy,none⟩) n cy) rfl hSS ?_;refine aZ 14 (I i) rfl hSS ?_;refine aZ 15 (.pointer (some ⟨gy,oy+i,none⟩)) rfl hSS ?_;refine aZ 16 (.slice (some ⟨by_,o2,none⟩) wd c2) rfl hSS ?_;refine aZ 17 (I k) rfl hSS ?_;refine aZ 18 (.pointer (some ⟨by_,o2+k*4,none⟩)) rfl hSS ?_;refine aZ 19 (.agg #[.bool yb,.slice yn ynl ync,.bool false,.slice yd ydl ydc]) rfl hSS ?_;refine on1 20 fun K hK=>?_;go_simp;go_at_call 99;refine(HCALL.out).mono ?_;rintro e W2 ⟨vq,rfl,hv,hb⟩;obtain⟨tb,t1,t2,t3,t4,t5,t6,rfl⟩:=hv.bools;have CX2:=aH (aB CX.out hb);have EX2:=aH (EX.out.below hb);have CY2:=aH (aB CY.out hb);have EY2:=aH (EY.out.below hb);have HL2:=aH (HL1.out.call hb);have HI2:=aH (HI1.out.call hb);have HFZ2:=aH (show∀j,W2.frozen? ⟨bx,j,none⟩=false from fun j=>(hb.frozen (p:=⟨bx,j,none⟩) (show bx<_ from World.block_lt_of_cell? _ ⟨bx,_,none⟩ EX.out.c0)).trans (HFZ.out j));have HV:=aH hv;clear hb hv;refine hK.out _ _ (fun _=>⟨CX2.out,EX2.out.c0,EX2.out.c1,EX2.out.c2,EX2.out.c3,CY2.out,EY2.out.c0,EY2.out.c1,EY2.out.c2,EY2.out.c3⟩) ?_;clear hK K;clear HCALL CX EX CY EY HL1 HI1 HFZ;refine on1 21 fun K hK=>?_;go_simp;refine hK.out _ _ (fun _=>⟨CX2.out,EX2.out.c0,EX2.out.c1,EX2.out.c2,EX2.out.c3,CY2.out,EY2.out.c0,EY2.out.c1,EY2.out.c2,EY2.out.c3⟩) ?_;clear hK K;obtain⟨h1,h2⟩:=HL2.out.putEl HML.out hlt HU.out hkl HV.out;have hset:=aMy RR.out RX.out hlt hkl;rw[←HRE.out,aMx RX.out RY.out hlt hkl,HRE.out]at hset;rw[hset]at h1;have HN:=aH h1;have HIN:=aH (HI2.out.put4 HBX.out HBXL.out h2);unfold put4 at HN HIN;have r0:=EX2.out.c0;have r1:=EX2.out.c1;have r2:=EX2.out.c2;have r3:=EX2.out.c3;have q0:=HFZ2.out (ox+k*4);have q1:=HFZ2.out (ox+k*4+1);have q2:=HFZ2.out (ox+k*4+2);have q3:=HFZ2.out (ox+k*4+3);clear h1 h2 hset HL2 HI2 HV HU HBX HBXL HML CX2 EX2 CY2 EY2 HFZ2;refine on1 22 fun K hK=>?_;go_simp;refine hK.out _ _ (fun h=>absurd h (by decide)) ?_;clear hK K;clear r0 r1 r2 r3 q0 q1 q2 q3;refine aF (by kernel_rfl) ?_ _;go_wp2;go_roundg (wd-(k+1));case measure=>omega
     case rel=>exact⟨k+1,rfl,by go_num,by omega,HN,HIN⟩
    ·have hkn:k=wd:=by omega
     subst hkn;have HN:=aH (show LM wb w.heap.size (.slice (some ⟨g0,off,none⟩) n cx) xs (iG R x (i+1) 0) by
      have:=HP.out;rwa [aJn RR.out RX.out hlt]at this)
     clear HP;go_wp2;go_roundg (n-(i+1));case measure=>omega
     case rel=>exact⟨i+1,rfl,by go_num,by omega,HN,HI⟩
  ·have hin:i=n:=by omega
   subst hin;have hLM:=HP.out;rw[aMz RR.out RX.out]at hLM;have HT:=aH (yZ R i Ax cx wa hLM.rm (by omega) (fun r hr=>by rw[RR.out.row r hr];omega) (aI HTB.out HI.out.below));have HBT:=aH HI.out.below;clear hLM HP HI;go_wp2_with fail;refine HT.out.mono ?_;rintro e w9 ⟨A9,n9,c9,m9,rfl,h1,h2,h3,hb⟩;have HQ:=aH (show RetMT w (txM R) (.returned (.tuple #[.slice A9 n9 c9,I (txM R).2])) w9 from⟨A9,n9,c9,m9,rfl,h1,h2,h3,HBT.out.trans (hb.mono HBT.out.size)⟩);clear h1 h2 h3 hb HT HBT;go_wp2;go_ret2;rw[HXE.out,HYE.out,HRE.out];exact HQ.out
theorem aJo(a b:List (List Rat)):aZe a b=mR (fun p q=>p+q) a b:=rfl
theorem aTf(a:List (List ByteArray))(na:Nat)(Aa:Option Addr)(ca:Nat)(b:List (List ByteArray))(nb:Nat)(Ab:Option Addr)(cb:Nat)(w:World)(ha:SMat w Aa na a)(sa:Sh2 a)(hb:SMat w Ab nb b)(sb:Sh2 b)(htab:Tab w)(h0:cM [cU (tx2 a),cU (tx2 b)]≠0): Calls Tryz.prog 44 #[.slice Aa na ca,.slice Ab nb cb] w (RetMT w (rA (tx2 a) (tx2 b))):=by
 have HE:=aH (show rA (tx2 a) (tx2 b)=([],cM [cU (tx2 a),cU (tx2 b)])from aGt _ _ _ h0);have Ha:=aH ha;have Sa:=aH sa;have Hb:=aH hb;have Sb:=aH sb;have HTB:=aH htab;have hca:=kY a na Aa ca w (Ha.out) Sa.out (HTB.out);have HCA:=aH hca;clear hca ha sa hb sb htab;go_enter Tryz.func44,Tryz.ntmps44;go_wp2_with fail;refine HCA.out.mono ?_;rintro e w1 ⟨rfl,hb1⟩;have HB1:=aH hb1;have hcb:=kY b nb Ab cb w1 (Hb.out.below hb1) Sb.out (aI HTB.out hb1);have HCB:=aH hcb;clear hb1 HCA hcb;go_wp2_with fail;refine HCB.out.mono ?_;rintro e w2 ⟨rfl,hb2⟩;have HB2:=aH (HB1.out.trans (hb2.mono HB1.out.size));have HF:=aH (oI [cU (tx2 a),cU (tx2 b)] 2 (some ⟨w2.heap.size,0,none⟩) 2 (w2.alloc (.cells #[I (cU (tx2 a)),I (cU (tx2 b))] oT)) (rG w2 oT _ _) (by omega));have HB3:=aH (HB2.out.alloc HB2.out.size (.cells #[I (cU (tx2 a)),I (cU (tx2 b))] oT));unfold oT at*;clear hb2 HB1 HB2 HCB;have tc:(cM [cU (tx2 a),cU (tx2 b)] !=0)=true:=bne_iff_ne.2 h0;have HQ:=aH (RetMT.none_ (w:=w) HE.out HB3.out);clear h0 HE;generalize cM [cU (tx2 a),cU (tx2 b)]=fe at*;go_wp2_with fail;refine HF.out.mono ?_;rintro e w3 ⟨rfl,rfl⟩;clear HF;go_wp2;go_ret2;exact HQ.out
theorem aNa(a:List (List ByteArray))(na:Nat)(Aa:Option Addr)(ca:Nat)(b:List (List ByteArray))(nb:Nat)(Ab:Option Addr)(cb:Nat)(w:World)(ha:SMat w Aa na a)(sa:Sh2 a)(hb:SMat w Ab nb b)(sb:Sh2 b)(htab:Tab w)(h1:cU (tx2 a)=0)(h2:cU (tx2 b)=0): Calls Tryz.prog 44 #[.slice Aa na ca,.slice Ab nb cb] w (RetMT w (rA (tx2 a) (tx2 b))):=by
 have la:a.length=na:=by obtain⟨_,_,h,_⟩:=ha;exact h
 have lb:b.length=nb:=by obtain⟨_,_,h,_⟩:=hb;exact h
 have VA:=aH (aBd h1);have VB:=aH (aBd h2);have LA:=aH (show(tx2 a).length=na by rw[tx2,List.length_map,la]);have LB:=aH (show(tx2 b).length=nb by rw[tx2,List.length_map,lb]);have hna:na≤40:=by have:=VA.out.hn;rw[LA.out]at this;exact this
 have hnb:nb≤40:=by have:=VB.out.hn;rw[LB.out]at this;exact this
 clear la lb;have H1:=aH h1;have H2:=aH h2;clear h1 h2;have Ha:=aH ha;have Sa:=aH sa;have Hb:=aH hb;have Sb:=aH sb;have HTB:=aH htab;have hca:=kY a na Aa ca w (Ha.out) Sa.out (HTB.out);rw[H1.out]at hca;have HCA:=aH hca;clear hca ha sa hb sb htab;go_enter Tryz.func44,Tryz.ntmps44;go_wp2_with fail;refine HCA.out.mono ?_;rintro e w1 ⟨rfl,hb1⟩;have HB1:=aH hb1;have hcb:=kY b nb Ab cb w1 (Hb.out.below hb1) Sb.out (aI HTB.out hb1);rw[H2.out]at hcb;have HCB:=aH hcb;clear hb1 HCA hcb;go_wp2_with fail;refine HCB.out.mono ?_;rintro e w2 ⟨rfl,hb2⟩;have HB2:=aH (HB1.out.trans (hb2.mono HB1.out.size));have HF:=aH (oI [0,0] 2 (some ⟨w2.heap.size,0,none⟩) 2 (w2.alloc (.cells #[I (0),I (0)] oT)) (rG w2 oT _ _) (by omega));have HB3:=aH (HB2.out.alloc HB2.out.size (.cells #[I (0),I (0)] oT));unfold oT at*;clear hb2 HB1 HB2 HCB;rw[show cM [0,0]=0 from rfl]at HF;go_wp2_with fail;refine HF.out.mono ?_;rintro e w3 ⟨rfl,rfl⟩;generalize w2.alloc (.cells #[I 0,I 0] 34)=w3 at*;clear HF;by_cases hl:na=nb
 ·subst hl;have HWA:=aH (rW a na Aa ca w3 (Ha.out.below HB3.out));have HWB:=aH (rW b na Ab cb w3 (Hb.out.below HB3.out));by_cases hw:wd (tx2 a)=wd (tx2 b)
  ·have tw:((wd (tx2 a):Int) !=(wd (tx2 b):Int))=false:=by rw[hw];simp
   have hwd:wd (tx2 a)≤40:=by
    rcases VA.out.hk with h|h
    ·exact h
    ·rw[aXq h];omega
   have HRES:=aH (show rA (tx2 a) (tx2 b)=txM (mR (fun p q=>p+q) (bU (tx2 a)) (bU (tx2 b))) by
    unfold rA aGf;rw[H1.out,H2.out,if_neg (by decide),if_neg (by decide),if_neg (by rw[LA.out,LB.out];exact fun h=>h.elim (fun k=>k rfl) fun k=>k hw),aJo])
   have va:=VA.out;have vb:=VB.out;rw[LA.out]at va;rw[LB.out,←hw]at vb;have HE:=aH (aBv a b na (wd (tx2 a)) Aa Ab ca cb w3 (Ha.out.below HB3.out) (Hb.out.below HB3.out) Sa.out Sb.out (aI HTB.out HB3.out) va vb hwd);clear hw va vb hwd;generalize wd (tx2 a)=wa at*;generalize wd (tx2 b)=wb at*;go_wp2_with fail;refine HWA.out.mono ?_;rintro e w4 ⟨rfl,rfl⟩;clear HWA;go_wp2_with fail;refine HWB.out.mono ?_;rintro e w5 ⟨rfl,rfl⟩;clear HWB;go_wp2_with fail;refine HE.out.mono ?_;rintro e w9 ⟨A9,n9,c9,m9,rfl,h1,h2,h3,hb⟩;have HQ:=aH (show RetMT w (rA (tx2 a) (tx2 b)) (.returned (.tuple #[.slice A9 n9 c9,I (txM (mR (fun p q=>p+q) (bU (tx2 a)) (bU (tx2 b)))).2])) w9 from⟨A9,n9,c9,m9,by rw[HRES.out],h1,by rw[HRES.out];exact h2,h3,HB3.out.trans (hb.mono HB3.out.size)⟩);clear h1 h2 h3 hb HE;go_wp2;go_ret2;exact HQ.out
  ·have tw:((wd (tx2 a):Int) !=(wd (tx2 b):Int))=true:=bne_iff_ne.2 (by omega);have HQ:=aH (RetMT.none_ (w:=w) (c:=3) (r:=rA (tx2 a) (tx2 b)) (by
    unfold rA aGf;rw[H1.out,H2.out,if_neg (by decide),if_neg (by decide),if_pos (.inr hw)]) HB3.out)
   clear hw;generalize wd (tx2 a)=wa at*;generalize wd (tx2 b)=wb at*;go_wp2_with fail;refine HWA.out.mono ?_;rintro e w4 ⟨rfl,rfl⟩;clear HWA;go_wp2_with fail;refine HWB.out.mono ?_;rintro e w5 ⟨rfl,rfl⟩;clear HWB;go_wp2;go_ret2;exact HQ.out
 ·have tl:((na:Int) !=(nb:Int))=true:=bne_iff_ne.2 (by omega);have HQ:=aH (RetMT.none_ (w:=w) (c:=3) (r:=rA (tx2 a) (tx2 b)) (by
   unfold rA aGf;rw[H1.out,H2.out,if_neg (by decide),if_neg (by decide),if_pos (.inl (by rw[LA.out,LB.out];exact hl))]) HB3.out)
  go_wp2;go_ret2;exact HQ.out
theorem aNb(a:List (List ByteArray))(na:Nat)(Aa:Option Addr)(ca:Nat)(b:List (List ByteArray))(nb:Nat)(Ab:Option Addr)(cb:Nat)(w:World)(ha:SMat w Aa na a)(sa:Sh2 a)(hb:SMat w Ab nb b)(sb:Sh2 b)(htab:Tab w): Calls Tryz.prog 44 #[.slice Aa na ca,.slice Ab nb cb] w (RetMT w (rA (tx2 a) (tx2 b))):=by
 by_cases h:cM [cU (tx2 a),cU (tx2 b)]=0
 ·obtain⟨h1,h2⟩:=wM h;exact aNa a na Aa ca b nb Ab cb w ha sa hb sb htab h1 h2
 ·exact aTf a na Aa ca b nb Ab cb w ha sa hb sb htab h
end Go.Proofs.YtenbglfkdldheaaGreatDoor
