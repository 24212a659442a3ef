/- netmodel.Name and netmodel.out. netmodel.permitted and netmodel.Branch. The names that netmodel.Check has seen: a map of bools that the call makes. netmodel's checker.device. Networks in memory. -/
import Derived.Test.YtenbglfkdldheaaGreatDoorUA
import Derived.Test.YtenbglfkdldheaaGreatDoorUN
import Derived.Lib.ConvBytes
import Derived.Maps.Own
import Derived.Maps.OwnOps
import Derived.Maps.Views
import Derived.Test.YtenbglfkdldheaaGreatDoorUG
set_option maxRecDepth 100000
set_option maxHeartbeats 1000000
namespace Go.Proofs.YtenbglfkdldheaaGreatDoor
section
open Go.RowKit
theorem aY(n a b:Int)(w:World):Calls Tryz.prog 161 #[I n,I a,I b] w fun e w'=>e= .returned (.bool (dW n a b))∧w=w':=by
 have H:=aH (show dW n a b=(decide (n<a)||decide (b<n)) by simp[dW]);go_enter Tryz.func161,Tryz.ntmps161;by_cases h1:n<a
 ·have H2:=aH (show dW n a b=true by rw[H.out];simp[h1]);go_wp2;go_ret;exact⟨cX H2.out.symm,rfl⟩
 ·by_cases h2:b<n
  ·have H2:=aH (show dW n a b=true by rw[H.out];simp[h2]);go_wp2;go_ret;exact⟨cX H2.out.symm,rfl⟩
  ·have H2:=aH (show dW n a b=false by rw[H.out];simp;omega);go_wp2;go_ret;exact⟨cX H2.out.symm,rfl⟩
theorem aRf(s:ByteArray)(k:Nat):(s.data.toList.getD k 0).toNat<256:=UInt8.toNat_lt _
theorem wN(s:ByteArray)(w:World)(hs:s.size≤9223372036854775807):Calls Tryz.prog 159 #[.string s] w fun e w'=>e= .returned (.bool (dV s))∧Below w.heap.size w w':=by
 have hcv:=Lib.run_convert_string_bytes (P:=Tryz.prog) w 9 219 5 s Tryz.underlying9 Tryz.underlying219 Tryz.underlying5;go_enter Tryz.func159,Tryz.ntmps159;go_wp2;have HB:Hid (Below w.heap.size w (Lib.bytesWorld w 5 s)):=⟨rfl,rfl,rfl,by rw[Lib.bytesWorld_size];omega,fun j hj=>Lib.bytesWorld_at_old w 5 s j hj⟩;have HC:=aH (fun j hj=>Lib.bytesWorld_cell w 5 s j hj);have hl:s.data.toList.length=s.size:=by simp
 have HL:=aH hl;clear hcv hl;generalize Lib.bytesWorld w 5 s=wb at*;generalize grownCap w s.size 0 5=gc at*;go_loopg [8] (s.size-0) (fun r v wr=>∃k:Nat,r=s.size-k∧v=I k∧k≤s.size∧wb=wr∧Hid (iD 0 s.data.toList=iD k (s.data.toList.drop k)));case atStart=>exact⟨0,rfl,rfl,by omega,rfl,rfl⟩
 case round=>
  obtain⟨k,rfl,rfl,hk,rfl,HO⟩:=hrel;by_cases hlt:k<s.size
  ·have hc:=HC.out k hlt;have hb:=aRf s k;have HO2:=aH (show iD 0 s.data.toList=(wM k (s.data.toList.getD k 0).toNat&&iD (k+1) (s.data.toList.drop (k+1))) by
    have hk':k<s.data.toList.length:=by rw[HL.out];exact hlt
    rw[HO.out,List.drop_eq_getElem_cons hk',iD,gD,gE hk'];rfl)
   obtain⟨x,hx⟩:∃x,(s.data.toList.getD k 0).toNat=x:=⟨_,rfl⟩;rw[hx]at hc hb HO2;clear hx HO;by_cases hok:wM k x=true
   ·have HO3:=aH (show iD 0 s.data.toList=iD (k+1) (s.data.toList.drop (k+1)) by rw[HO2.out,hok,Bool.true_and]);have hcase:(65≤x∧x≤90)∨(¬(65≤x∧x≤90)∧0<k∧48≤x∧x≤57):=by
     simp only[wM,Bool.or_eq_true,Bool.and_eq_true,decide_eq_true_eq]at hok;by_cases h:65≤x∧x≤90
     ·exact .inl h
     ·exact .inr ⟨h,by omega⟩
    clear hok;rcases hcase with⟨h1,h2⟩|⟨h1,h2,h3,h4⟩
    ·go_wp2;go_roundg (s.size-(k+1));case measure=>omega
     case rel=>exact⟨k+1,rfl,by go_num,by omega,rfl,HO3⟩
    ·have h5:x<65:=by omega
     have t57:decide ((x:Int)≤57)=true:=by simp;omega
     clear h1;go_wp2;go_roundg (s.size-(k+1));case measure=>omega
     case rel=>exact⟨k+1,rfl,by go_num,by omega,rfl,HO3⟩
   ·have HN:=aH (show dV s=false by rw[dV,HO2.out,Bool.eq_false_iff.2 hok];simp);have hcase:¬(65≤x∧x≤90)∧¬(0<k∧48≤x∧x≤57):=by
     simp only[wM,Bool.or_eq_true,Bool.and_eq_true,decide_eq_true_eq]at hok;omega
    clear hok;rcases Nat.lt_or_ge x 48 with hA|hA
    ·clear hcase;go_wp2;all_goals(go_ret;exact⟨cX HN.out.symm,HB.out⟩)
    ·rcases Nat.lt_or_ge x 65 with hB|hB
     ·rcases Nat.eq_zero_or_pos k with hC|hC
      ·subst hC;clear hcase;go_wp2;all_goals(go_ret;exact⟨cX HN.out.symm,HB.out⟩)
      ·have t57:decide ((x:Int)≤57)=false:=by simp;omega
       clear hcase;go_wp2;all_goals(go_ret;exact⟨cX HN.out.symm,HB.out⟩)
     ·have t90:decide ((x:Int)≤90)=false:=by simp;omega
      have t57:decide ((x:Int)≤57)=false:=by simp;omega
      clear hcase;go_wp2;all_goals(go_ret;exact⟨cX HN.out.symm,HB.out⟩)
  ·have HN:=aH (show dV s=decide (1≤s.size∧s.size≤8) by
    have hk':s.data.toList.drop k=[]:=List.drop_of_length_le (by rw[HL.out];omega);rw[dV,HO.out,hk',iD,Bool.true_and])
   by_cases h1:1≤s.size
   ·by_cases h2:s.size≤8
    ·have HN2:=aH (show dV s=true by rw[HN.out];simp[h1,h2]);go_wp2;go_ret;exact⟨cX (by rw[HN2.out];simp;omega),HB.out⟩
    ·have HN2:=aH (show dV s=false by rw[HN.out];simp[h2]);go_wp2;go_ret;exact⟨cX (by rw[HN2.out];simp;omega),HB.out⟩
   ·have HN2:=aH (show dV s=false by rw[HN.out];simp[h1]);go_wp2;go_ret;exact⟨cX HN2.out.symm,HB.out⟩
theorem cH(n:Int)(w:World):Calls Tryz.prog 162 #[I n] w fun e w'=>e= .returned (.bool (!dW n 0 100000))∧w=w':=by
 go_enter Tryz.func162,Tryz.ntmps162;go_wp2_with(go_at_call 161;refine(aY n 0 100000 _).mono ?_;rintro e w' ⟨rfl,rfl⟩);go_ret;exact⟨rfl,rfl⟩
def iE(b:BranchD):Int:=if bX b=true then 0 else 4
def BranchD.val(b:BranchD):Value:= .agg #[.string b.name,.string b.src,.string b.dst,I b.x,I b.tap,I b.shift,I b.limit,I b.short,I b.hold]
theorem aHe(b:BranchD)(w:World):Calls Tryz.prog 126 #[b.val] w fun e w'=>e= .returned (I (iE b))∧Below w.heap.size w w':=by
 have HD:=aH (show bX b= !(dW b.x 1 10000||dW b.tap 500 1500||dW b.shift (-1000) 1000||dW b.limit 0 100000||dW b.short b.limit 100000||dW b.hold 0 200000)from rfl);unfold BranchD.val;cases h0:dW b.x 1 10000
 case true=>
  have HR:=aH (show bX b=false by rw[HD.out,h0];simp);go_enter Tryz.func126,Tryz.ntmps126;go_wp2_with fail;refine(aY b.x 1 10000 _).mono ?_;rintro e w' ⟨rfl,rfl⟩;rw[h0];go_wp2;go_ret;exact⟨aE (by rw[iE,HR.out];rfl),(Below.refl _ _).alloc lR _⟩
 case false=>
  cases h1:dW b.tap 500 1500
  case true=>
   have HR:=aH (show bX b=false by rw[HD.out,h0,h1];simp);go_enter Tryz.func126,Tryz.ntmps126;go_wp2_with fail;refine(aY b.x 1 10000 _).mono ?_;rintro e w' ⟨rfl,rfl⟩;rw[h0];go_wp2_with fail;refine(aY b.tap 500 1500 _).mono ?_;rintro e w' ⟨rfl,rfl⟩;rw[h1];go_wp2;go_ret;exact⟨aE (by rw[iE,HR.out];rfl),(Below.refl _ _).alloc lR _⟩
  case false=>
   cases h2:dW b.shift (-1000) 1000
   case true=>
    have HR:=aH (show bX b=false by rw[HD.out,h0,h1,h2];simp);go_enter Tryz.func126,Tryz.ntmps126;go_wp2_with fail;refine(aY b.x 1 10000 _).mono ?_;rintro e w' ⟨rfl,rfl⟩;rw[h0];go_wp2_with fail;refine(aY b.tap 500 1500 _).mono ?_;rintro e w' ⟨rfl,rfl⟩;rw[h1];go_wp2_with fail;refine(aY b.shift (-1000) 1000 _).mono ?_;rintro e w' ⟨rfl,rfl⟩;rw[h2];go_wp2;go_ret;exact⟨aE (by rw[iE,HR.out];rfl),(Below.refl _ _).alloc lR _⟩
   case false=>
    cases h3:dW b.limit 0 100000
    case true=>
     have HR:=aH (show bX b=false by rw[HD.out,h0,h1,h2,h3];simp);go_enter Tryz.func126,Tryz.ntmps126;go_wp2_with fail;refine(aY b.x 1 10000 _).mono ?_;rintro e w' ⟨rfl,rfl⟩;rw[h0];go_wp2_with fail;refine(aY b.tap 500 1500 _).mono ?_;rintro e w' ⟨rfl,rfl⟩;rw[h1];go_wp2_with fail;refine(aY b.shift (-1000) 1000 _).mono ?_;rintro e w' ⟨rfl,rfl⟩;rw[h2];go_wp2_with fail;refine(aY b.limit 0 100000 _).mono ?_;rintro e w' ⟨rfl,rfl⟩;rw[h3];go_wp2;go_ret;exact⟨aE (by rw[iE,HR.out];rfl),(Below.refl _ _).alloc lR _⟩
    case false=>
     cases h4:dW b.short b.limit 100000
     case true=>
      have HR:=aH (show bX b=false by rw[HD.out,h0,h1,h2,h3,h4];simp);go_enter Tryz.func126,Tryz.ntmps126;go_wp2_with fail;refine(aY b.x 1 10000 _).mono ?_;rintro e w' ⟨rfl,rfl⟩;rw[h0];go_wp2_with fail;refine(aY b.tap 500 1500 _).mono ?_;rintro e w' ⟨rfl,rfl⟩;rw[h1];go_wp2_with fail;refine(aY b.shift (-1000) 1000 _).mono ?_;rintro e w' ⟨rfl,rfl⟩;rw[h2];go_wp2_with fail;refine(aY b.limit 0 100000 _).mono ?_;rintro e w' ⟨rfl,rfl⟩;rw[h3];go_wp2_with fail;refine(aY b.short b.limit 100000 _).mono ?_;rintro e w' ⟨rfl,rfl⟩;rw[h4];go_wp2;go_ret;exact⟨aE (by rw[iE,HR.out];rfl),(Below.refl _ _).alloc lR _⟩
     case false=>
      cases h5:dW b.hold 0 200000
      case true=>
       have HR:=aH (show bX b=false by rw[HD.out,h0,h1,h2,h3,h4,h5];simp);go_enter Tryz.func126,Tryz.ntmps126;go_wp2_with fail;refine(aY b.x 1 10000 _).mono ?_;rintro e w' ⟨rfl,rfl⟩;rw[h0];go_wp2_with fail;refine(aY b.tap 500 1500 _).mono ?_;rintro e w' ⟨rfl,rfl⟩;rw[h1];go_wp2_with fail;refine(aY b.shift (-1000) 1000 _).mono ?_;rintro e w' ⟨rfl,rfl⟩;rw[h2];go_wp2_with fail;refine(aY b.limit 0 100000 _).mono ?_;rintro e w' ⟨rfl,rfl⟩;rw[h3];go_wp2_with fail;refine(aY b.short b.limit 100000 _).mono ?_;rintro e w' ⟨rfl,rfl⟩;rw[h4];go_wp2_with fail;refine(aY b.hold 0 200000 _).mono ?_;rintro e w' ⟨rfl,rfl⟩;rw[h5];go_wp2;go_ret;exact⟨aE (by rw[iE,HR.out];rfl),(Below.refl _ _).alloc lR _⟩
      case false=>
       have HR:=aH (show bX b=true by rw[HD.out,h0,h1,h2,h3,h4,h5];simp);go_enter Tryz.func126,Tryz.ntmps126;go_wp2_with fail;refine(aY b.x 1 10000 _).mono ?_;rintro e w' ⟨rfl,rfl⟩;rw[h0];go_wp2_with fail;refine(aY b.tap 500 1500 _).mono ?_;rintro e w' ⟨rfl,rfl⟩;rw[h1];go_wp2_with fail;refine(aY b.shift (-1000) 1000 _).mono ?_;rintro e w' ⟨rfl,rfl⟩;rw[h2];go_wp2_with fail;refine(aY b.limit 0 100000 _).mono ?_;rintro e w' ⟨rfl,rfl⟩;rw[h3];go_wp2_with fail;refine(aY b.short b.limit 100000 _).mono ?_;rintro e w' ⟨rfl,rfl⟩;rw[h4];go_wp2_with fail;refine(aY b.hold 0 200000 _).mono ?_;rintro e w' ⟨rfl,rfl⟩;rw[h5];go_wp2;go_ret;exact⟨aE (by rw[iE,HR.out];rfl),(Below.refl _ _).alloc lR _⟩
end
section
open Go.RowKit Go.Maps
theorem aRg:Keyed Tryz.prog 9:=string_keyed Tryz.underlying9
theorem bBd(w:World):(zeroValue 4).run Tryz.prog w= .ok (.bool false) w:=by kernel_rfl
def SeenMap(w:World)(b:Nat)(ss:List ByteArray):Prop:=∃D:DataW Unit,w.ownsMap Tryz.prog 9 (plainElem Tryz.prog 4) b ss.length D∧IsMap D∧∀s:ByteArray,D.atKey (.string s.data.toList) (.lit (.bool false))= .lit (.bool (Lib.containsS ss s))
theorem wO(x:ByteArray)(l:List ByteArray)(s:ByteArray):Lib.containsS (x::l) s=(decide (s=x)||Lib.containsS l s):=by
 rw[Bool.eq_iff_iff,Lib.containsS_iff,Bool.or_eq_true,Lib.containsS_iff,decide_eq_true_eq,List.mem_cons]
theorem SeenMap.made(w:World):SeenMap (w.alloc (.map #[] 0)) w.heap.size []:=⟨.map [],World.ownsMap_made w _ _ _,⟨_,rfl⟩,fun s=>by simp[DataW.atKey,Lib.containsS,Lib.idxOfS,Lib.idxFromS]⟩
theorem nK{P:Program}{e:TypeId}(he:P.underlying e=some .bool){v:Value}{z:DataW Unit×List MemPlace}(h:plainElem P e v=some z):∃x,v= .bool x∧z=(.lit (.bool x),[]):=by
 unfold plainElem at h;rw[he]at h;cases v<;>simp at h;subst h;exact⟨_,rfl,rfl⟩
theorem SeenMap.lookup{w:World}{b:Nat}{ss:List ByteArray}(h:SeenMap w b ss)(s:ByteArray)(hs:s.size≤maxLen): (Instr.lookup 200 (.map (some b)) (.string s) false).run Tryz.prog w= .ok (.bool (Lib.containsS ss s)) w:=by
 obtain⟨D,h1,h2,h3⟩:=h;obtain⟨v,ps,hrun,hv⟩:=h1.lookup aRg Tryz.underlying200 (bBd w) (plainElem_bool Tryz.underlying4 false) (WideMaps.keyOf_string_mk Tryz.underlying9 hs);obtain⟨x,rfl,hx⟩:=nK Tryz.underlying4 hv;rw[h3 s]at hx;simp at hx;rw[hrun,hx.1]
theorem aMs{a b:ByteArray}(h:a.data.toList=b.data.toList):a=b:=ByteArray.ext (Array.toList_inj.mp h)
theorem SeenMap.update{w:World}{b:Nat}{ss:List ByteArray}(h:SeenMap w b ss)(s:ByteArray)(hs:s.size≤maxLen)(hn:ss.length<1000000): ∃w',(Instr.mapUpdate 200 (.map (some b)) (.string s) (.bool true)).run Tryz.prog w= .ok () w'∧SeenMap w' b (s::ss)∧w.grownBy w' (some b):=by
 obtain⟨D,h1,h2,h3⟩:=h;obtain⟨w',hrun,g1,g2⟩:=h1.update aRg Tryz.underlying200 (by unfold maxLen;omega) (WideMaps.keyOf_string_mk Tryz.underlying9 hs) (plainElem_bool Tryz.underlying4 true);refine⟨w',hrun,⟨_,g1,h2.put _ _,fun x=>?_⟩,g2⟩;rw[wO];by_cases e:x=s
 ·subst e;rw[atKey_put_same (k:= .string x.data.toList) h2 (by simp[WideAt.IsKeyLit])];simp
 ·rw[atKey_put_other (fun h=>e (aMs (by injection h))),h3 x];simp[e]
theorem SeenMap.ext{w w':World}{b:Nat}{ss:List ByteArray}(h:SeenMap w b ss)(hb:Below w.heap.size w w'):SeenMap w' b ss:=by
 obtain⟨D,h1,h2⟩:=h;refine⟨D,?_,h2⟩;obtain⟨es,clock,e1,e2⟩:=h1;exact⟨es,clock,(hb.block b (Array.getElem?_eq_some_iff.1 e1).1).trans e1,e2⟩
theorem SeenMap.ne{w:World}{b:Nat}{ss:List ByteArray}(h:SeenMap w b ss){g o:Nat}{v:Value}(hc:w.cell? ⟨g,o,none⟩=some v):g≠b:=by
 rintro rfl;obtain⟨D,⟨es,clock,e1,_⟩,_⟩:=h;simp[World.cell?,e1]at hc
theorem SeenMap.reads{w w':World}{b:Nat}{ss:List ByteArray}(h:SeenMap w b ss)(hg:w.grownBy w' (some b)){sz n:Nat}{A:Option Addr}{xs:List Value}(hr:Reads w w.heap.size sz A n xs):Reads w' w'.heap.size sz A n xs:=by
 refine⟨hr.1,fun hn=>?_⟩;obtain⟨g,off,e,hb,hc⟩:=hr.2 hn;refine⟨g,off,e,Nat.lt_of_lt_of_le hb hg.size,fun j u hu=>?_⟩;have h1:=hc j u hu;exact hg.cell h1 (fun e=>h.ne h1 (by injection e))
abbrev S(s:ByteArray):Value:= .string s
theorem pC(l:List ByteArray)(n:Nat)(A:Option Addr)(c:Nat)(x:ByteArray)(w:World)(B:Nat)(hln:l.length=n)(hr:Reads w B 1 A n (l.map S))(hl:n≤1000000): Calls Tryz.prog 160 #[.slice A n c,.string x] w fun e w'=>e= .returned (.bool (Lib.containsS l x))∧w=w':=by
 subst hln;by_cases h0:l.length=0
 ·have:l=[]:=List.eq_nil_of_length_eq_zero h0;subst this;exact(Tryz.slices_Contains_string_empty A c x w).mono fun e w' ⟨h1,h2⟩=>⟨by rw[h1];rfl,h2.symm⟩
 ·obtain⟨b,off,rfl,_,hc⟩:=hr.2 (by omega);refine(Tryz.slices_Contains_string b off l.length c l x w lR (by omega) (fun j hj=>hc j _ (by simp[hj]))).mono fun e w' ⟨h1,h2⟩=>⟨by rw[h1,List.take_of_length_le lR],h2.symm⟩
def aBx(w:World)(mb:Nat)(r:Int×List ByteArray)(e:Ending)(w':World):Prop:=e= .returned (I r.1)∧SeenMap w' mb r.2∧w.grownBy w' (some mb)
theorem dG{a w:World}(h:Below a.heap.size a w)(row:Option Nat):a.grownBy w row:=⟨h.os,h.tape,h.output,h.size,fun i hi _=>h.block i hi⟩
theorem kA{a w:World}{row:Option Nat}(h:a.grownBy w row)(n:Nat):a.grownBy (w.drewN n) row:=⟨h.os,h.tape,h.output,h.size,h.block⟩
theorem cW{w w1:World}{o:Obj}(h:Below (w.alloc o).heap.size (w.alloc o) w1):Below w.heap.size w w1:=((Below.refl _ w).alloc lR _).trans (h.mono (by simp))
theorem aHf(nodes seen:List ByteArray)(name:ByteArray)(ends:List ByteArray)(mb:Nat)(NA EA:Option Addr)(nc ec:Nat)(w:World)(hsm:SeenMap w mb seen)(hs:name.size≤9223372036854775807)(hb:dV name=false): Calls Tryz.prog 125 #[.agg #[.map (some mb),.slice NA nodes.length nc],.string name,.slice EA ends.length ec] w (aBx w mb (aW nodes seen name ends)):=by
 have HR:=aH (show aW nodes seen name ends=(5,seen) by rw[aW,if_pos hb]);go_enter Tryz.func125,Tryz.ntmps125;go_wp2_with(go_at_call 159;refine(wN name _ hs).mono ?_;rintro e w1 ⟨rfl,hb1⟩;rw[hb]);go_ret;rw[HR.out];exact⟨rfl,hsm.ext (cW hb1),dG (cW hb1) _⟩
theorem aBy(nodes seen:List ByteArray)(name:ByteArray)(ends:List ByteArray)(mb:Nat)(NA EA:Option Addr)(nc ec:Nat)(w:World)(hsm:SeenMap w mb seen)(hs:name.size≤9223372036854775807)(hb:dV name=true)(hc:Lib.containsS seen name=true): Calls Tryz.prog 125 #[.agg #[.map (some mb),.slice NA nodes.length nc],.string name,.slice EA ends.length ec] w (aBx w mb (aW nodes seen name ends)):=by
 have HR:=aH (show aW nodes seen name ends=(7,seen) by rw[aW,if_neg (by simp[hb]),if_pos hc]);go_enter Tryz.func125,Tryz.ntmps125;go_wp2_with(go_at_call 159;refine(wN name _ hs).mono ?_;rintro e w1 ⟨rfl,hb1⟩;rw[hb];have hlk:=(hsm.ext (cW hb1)).lookup name hs;have hbx:=(Blk.new w 202 #[.map (some mb),.slice NA nodes.length nc]).below hb1 (by simp);have hc0:=hbx.cell 0;have hc1:=hbx.cell 1);go_ret;rw[HR.out];exact⟨rfl,hsm.ext (cW hb1),dG (cW hb1) _⟩
theorem aMt(nodes seen:List ByteArray)(name:ByteArray)(ends:List ByteArray)(mb:Nat)(NA EA:Option Addr)(nc ec:Nat)(w:World)(hsm:SeenMap w mb seen)(hs:name.size≤9223372036854775807)(hb:dV name=true)(hc:Lib.containsS seen name=false) (hN:Reads w w.heap.size 1 NA nodes.length (nodes.map S))(hE:Reads w w.heap.size 1 EA ends.length (ends.map S))(hnl:nodes.length≤1000)(hel:ends.length≤2)(hsl:seen.length≤1000):
  Calls Tryz.prog 125 #[.agg #[.map (some mb),.slice NA nodes.length nc],.string name,.slice EA ends.length ec] w (aBx w mb (aW nodes seen name ends)):=by
 have HN:=aH hN;have HE:=aH hE;clear hN hE;go_enter Tryz.func125,Tryz.ntmps125;go_wp2_with(go_at_call 159;refine(wN name _ hs).mono ?_;rintro e w1 ⟨rfl,hb1⟩;rw[hb];have hlk:=(hsm.ext (cW hb1)).lookup name hs;have hbx:=(Blk.new w 202 #[.map (some mb),.slice NA nodes.length nc]).below hb1 (by simp);have hc0:=hbx.cell 0;have hc1:=hbx.cell 1;obtain⟨w2,hup,hsm2,hg2⟩:=(hsm.ext (cW hb1)).update name hs (by omega));have hsm1:=hsm.ext (cW hb1);have hc1':w1.cell? ⟨w.heap.size,1,none⟩=some (.slice NA nodes.length nc):=by rw[hc1];rfl
 have hcx:w2.cell? ⟨w.heap.size,1,none⟩=some (.slice NA nodes.length nc):=hg2.cell hc1' (fun e=>hsm1.ne hc1' (by injection e));have HN2:=aH (hsm1.reads hg2 ((HN.out.below (cW hb1)).more (cW hb1).size));have HE2:=aH (hsm1.reads hg2 ((HE.out.below (cW hb1)).more (cW hb1).size));have HG:Hid (w.grownBy w2 (some mb)):=by
  have h1:=cW hb1;exact⟨hg2.os.trans h1.os,hg2.tape.trans h1.tape,hg2.output.trans h1.output,Nat.le_trans h1.size hg2.size,fun i hi hne=>(hg2.block i (Nat.lt_of_lt_of_le hi h1.size) hne).trans (h1.block i hi)⟩
 have HSM:=aH hsm2;have HD:=aH (show aW nodes seen name ends=if(ends.all fun e=>Lib.containsS nodes e)=false then(6,name::seen)else if fB ends=true then(3,name::seen)else(0,name::seen) by
  rw[aW,if_neg (by simp[hb]),if_neg (by simp[hc])])
 clear hc0 hc1 hc1' hlk hbx hup hsm2 hg2 hsm1 hsm hb1 HN HE;go_loopg [23] (ends.length-0) (fun r v wr=>∃k:Nat,r=ends.length-k∧v=I k∧k≤ends.length∧w2=wr∧Hid ((ends.take k).all (fun e=>Lib.containsS nodes e)=true));case atStart=>exact⟨0,rfl,rfl,by omega,rfl,rfl⟩
 case round=>
  obtain⟨k,rfl,rfl,hk,rfl,HA⟩:=hrel;by_cases hlt:k<ends.length
  ·obtain⟨b,off,u,rfl,_,hu,hcu⟩:=HE2.out.at1 hlt;obtain⟨x,hx⟩:∃x,ends[k]=x:=⟨_,rfl⟩;obtain rfl:u=S x:=by simp[hlt,hx]at hu;exact hu.symm
   cases hcb:Lib.containsS nodes x
   ·have HF:=aH (show(ends.all fun e=>Lib.containsS nodes e)=false by
     rw[Bool.eq_false_iff];intro h;have:=List.all_eq_true.1 h x (by rw[←hx];exact List.getElem_mem hlt);rw[hcb]at this;cases this)
    clear hu hx;go_wp2_with(go_at_call 160;refine(pC nodes _ NA nc x _ _ rfl HN2.out (by omega)).mono ?_;rintro e w' ⟨rfl,rfl⟩;rw[hcb]);go_ret;rw[HD.out,if_pos HF.out];exact⟨rfl,HSM.out,HG.out⟩
   ·have HA2:=aH (show(ends.take (k+1)).all (fun e=>Lib.containsS nodes e)=true by
     rw[List.take_succ_eq_append_getElem hlt,List.all_append,HA.out,hx];simp[hcb])
    clear hu hx;go_wp2_with(go_at_call 160;refine(pC nodes _ NA nc x _ _ rfl HN2.out (by omega)).mono ?_;rintro e w' ⟨rfl,rfl⟩;rw[hcb]);go_roundg (ends.length-(k+1));case measure=>omega
    case rel=>exact⟨k+1,rfl,by go_num,by omega,rfl,HA2⟩
  ·have HT:=aH (show(ends.all fun e=>Lib.containsS nodes e)=true by
    have:=HA.out;rwa [List.take_of_length_le (by omega)]at this)
   have HD2:=aH (show aW nodes seen name ends=if fB ends=true then(3,name::seen)else(0,name::seen) by rw[HD.out,if_neg (by simp[HT.out])]);clear HD HA HT;match ends,hel with
   |[],_=>
    have HD3:=aH (show aW nodes seen name []=(0,name::seen) by rw[HD2.out];rfl);have t2:(((0:Nat):Int)==2)=false:=by decide
    simp only[List.length_nil];go_wp2;go_quiet (fail);go_wp2;go_ret;rw[HD3.out];exact⟨rfl,HSM.out,kA HG.out _⟩
   |[a],_=>
    have HD3:=aH (show aW nodes seen name [a]=(0,name::seen) by rw[HD2.out];rfl);simp only[List.length_cons,List.length_nil];have hk1:(1:Nat)≤k:=by simp only[List.length_cons,List.length_nil]at hlt;omega
    go_wp2;go_quiet (fail);go_wp2;go_ret;rw[HD3.out];exact⟨rfl,HSM.out,kA HG.out _⟩
   |[a,b],_=>
    have hk1:(2:Nat)≤k:=by simp only[List.length_cons,List.length_nil]at hlt;omega
    obtain⟨eb,eo,hEA,_,hce⟩:=HE2.out.2 (by simp);have hca:=hce 0 (S a) rfl;have hcb:=hce 1 (S b) rfl;subst hEA;simp only[Nat.add_zero]at hca;clear hce;by_cases hab:a=b
    ·have HD3:=aH (show aW nodes seen name [a,b]=(3,name::seen) by rw[HD2.out,if_pos (by simp[fB,hab])]);subst hab;simp only[List.length_cons,List.length_nil];go_wp2;go_quiet (fail);go_wp2;go_ret;rw[HD3.out];exact⟨rfl,HSM.out,kA HG.out _⟩
    ·have HD3:=aH (show aW nodes seen name [a,b]=(0,name::seen) by rw[HD2.out,if_neg (by simp[fB,hab])]);have tab:(a.toList==b.toList)=false:=(Lib.bytes_beq_false_iff a b).2 hab;simp only[List.length_cons,List.length_nil];clear hab;go_wp2;go_quiet (fail);go_wp2;go_ret;rw[HD3.out];exact⟨rfl,HSM.out,kA HG.out _⟩
theorem aHg(nodes seen:List ByteArray)(name:ByteArray)(ends:List ByteArray)(mb:Nat)(NA EA:Option Addr)(nc ec:Nat)(w:World)(hsm:SeenMap w mb seen)(hs:name.size≤9223372036854775807) (hN:Reads w w.heap.size 1 NA nodes.length (nodes.map S))(hE:Reads w w.heap.size 1 EA ends.length (ends.map S))(hnl:nodes.length≤1000)(hel:ends.length≤2)(hsl:seen.length≤1000):
  Calls Tryz.prog 125 #[.agg #[.map (some mb),.slice NA nodes.length nc],.string name,.slice EA ends.length ec] w (aBx w mb (aW nodes seen name ends)):=by
 cases hb:dV name
 ·exact aHf nodes seen name ends mb NA EA nc ec w hsm hs hb
 ·cases hc:Lib.containsS seen name
  ·exact aMt nodes seen name ends mb NA EA nc ec w hsm hs hb hc hN hE hnl hel hsl
  ·exact aBy nodes seen name ends mb NA EA nc ec w hsm hs hb hc
end
section
open Go.RowKit
theorem eQ{α:Type}{f:α→List Value}{sz:Nat}(hf:∀x,(f x).length=sz)(hz:0<sz){w:World}{B:Nat}{A:Option Addr}{l:List α}{n:Nat}(h:Reads w B sz A n (aN f l)){k:Nat}(hk:k<l.length): ∃b off,A=some ⟨b,off,none⟩∧b<B∧∀j u,(f l[k])[j]?=some u→w.cell? ⟨b,off+(k*sz+j),none⟩=some u:=by
 have hl:l.length*sz=n*sz:=by rw[←dY hf l,h.1]
 have hn:0<n:=by
  rcases Nat.eq_zero_or_pos n with h0|h0
  ·subst h0;have:0<l.length*sz:=Nat.mul_pos (by omega) hz;omega
  ·exact h0
 obtain⟨b,off,e,hb,hc⟩:=h.2 hn;refine⟨b,off,e,hb,fun j u hu=>hc _ u ?_⟩;have hj:j<sz:=by have:=(List.getElem?_eq_some_iff.1 hu).1;rw[hf]at this;exact this
 rw[uT hf l k l[k] (by simp[hk]) j hj];exact hu
def SwitchD.cells(s:SwitchD):List Value:=[.string s.name,.string s.a,.string s.b,.bool s.breaker,.bool s.opn]
def BranchD.cells(b:BranchD):List Value:=[.string b.name,.string b.src,.string b.dst,I b.x,I b.tap,I b.shift,I b.limit,I b.short,I b.hold]
def GenD.cells(g:GenD):List Value:=[.string g.name,.string g.node,I g.least,I g.most,I g.ramp]
def LoadD.cells(l:LoadD):List Value:=[.string l.name,.string l.node,I l.demand]
def StoreD.cells(s:StoreD):List Value:=[.string s.name,.string s.node,I s.charge,I s.discharge,I s.capacity]
structure NetV where
 na:Option Addr
 nc:Nat
 sa:Option Addr
 sc:Nat
 ba:Option Addr
 bc:Nat
 ga:Option Addr
 gc:Nat
 la:Option Addr
 lc:Nat
 ta:Option Addr
 tc:Nat
def NetV.parts(v:NetV)(n:NetD):Array Value:=#[.slice v.na n.nodes.length v.nc,.slice v.sa n.switches.length v.sc,.slice v.ba n.branches.length v.bc,.slice v.ga n.gens.length v.gc,.slice v.la n.loads.length v.lc,.slice v.ta n.stores.length v.tc]
def NetV.val(v:NetV)(n:NetD):Value:= .agg (v.parts n)
structure NetOk(n:NetD):Prop where
 nodes:∀s∈n.nodes,s.size≤9223372036854775807
 switches:∀s∈n.switches,s.name.size≤9223372036854775807∧s.a.size≤9223372036854775807∧s.b.size≤9223372036854775807
 branches:∀s∈n.branches,s.name.size≤9223372036854775807∧s.src.size≤9223372036854775807∧s.dst.size≤9223372036854775807
 gens:∀s∈n.gens,s.name.size≤9223372036854775807∧s.node.size≤9223372036854775807
 loads:∀s∈n.loads,s.name.size≤9223372036854775807∧s.node.size≤9223372036854775807
 stores:∀s∈n.stores,s.name.size≤9223372036854775807∧s.node.size≤9223372036854775807
structure NetIn(w:World)(n:NetD)(v:NetV):Prop where
 nodes:Reads w w.heap.size 1 v.na n.nodes.length (n.nodes.map S)
 switches:Reads w w.heap.size 5 v.sa n.switches.length (aN SwitchD.cells n.switches)
 branches:Reads w w.heap.size 9 v.ba n.branches.length (aN BranchD.cells n.branches)
 gens:Reads w w.heap.size 5 v.ga n.gens.length (aN GenD.cells n.gens)
 loads:Reads w w.heap.size 3 v.la n.loads.length (aN LoadD.cells n.loads)
 stores:Reads w w.heap.size 5 v.ta n.stores.length (aN StoreD.cells n.stores)
theorem NetIn.below{w w':World}{n:NetD}{v:NetV}(h:NetIn w n v)(hb:Below w.heap.size w w'):NetIn w' n v:=⟨(h.nodes.below hb).more hb.size,(h.switches.below hb).more hb.size,(h.branches.below hb).more hb.size,(h.gens.below hb).more hb.size,(h.loads.below hb).more hb.size,(h.stores.below hb).more hb.size⟩
theorem NetIn.seen{w w':World}{n:NetD}{v:NetV}{b:Nat}{ss:List ByteArray}(h:NetIn w n v)(hs:SeenMap w b ss)(hg:w.grownBy w' (some b)):NetIn w' n v:=⟨hs.reads hg h.nodes,hs.reads hg h.switches,hs.reads hg h.branches,hs.reads hg h.gens,hs.reads hg h.loads,hs.reads hg h.stores⟩
end
end Go.Proofs.YtenbglfkdldheaaGreatDoor
