/- The table of powers of ten in memory. (*strings.Builder).copyCheck, WriteString at this translation. strconv.FormatUint at base 10. Numerals in parts of nine digits: plain facts. No program here. More words for memory: append with what it leaves alone; slices of slices of ints. No program here. (large.Int).Text: the parts of nine digits. (large.Int).Text. -/
import Derived.Test.YtenbglfkdldheaaGreatDoorUG
import Derived.Lib.AppendIntMem
import Derived.Lib.ItoaNum
import Derived.Test.YtenbglfkdldheaaGreatDoorUFG
set_option maxRecDepth 100000
set_option maxHeartbeats 4000000
namespace Go.Proofs.YtenbglfkdldheaaGreatDoor
section
open Go.RowKit Go.Shelf Go.Sort
theorem aGz(w:World)(k:Nat)(os:Array Obj):Below w.heap.size w (grow (w.drewN k) os):=by
 refine⟨rfl,rfl,rfl,?_,fun b hb=>?_⟩
 ·simp[grow]
 ·simp only[grow,World.heap_drewN];rw[Array.getElem?_append_left hb]
abbrev Tab(w:World):Prop:=Lib.TabIs Tryz.prog w "internal/strconv.uint64pow10" .u64 Lib.pow10Tab
theorem aO{w w':World}(h:Tab w)(hb:Below w.heap.size w w'):Tab w':=by
 unfold Tab Lib.TabIs World.var? at*;cases hg:Tryz.prog.globalNamed "internal/strconv.uint64pow10" with
 |none=>simp[hg]at h
 |some g=>
  simp only[hg,Option.bind_some]at h⊢;have hlt:g<w.heap.size:=by
   rcases Nat.lt_or_ge g w.heap.size with h'|h'
   ·exact h'
   ·rw[Array.getElem?_eq_none h']at h;simp at h
  rw[hb.block g hlt];exact h
theorem fW(w:World)(q:Nat):Below w.heap.size w (w.drewN q):=⟨rfl,rfl,rfl,Nat.le_refl _,fun _ _=>rfl⟩
end
section
open Go.RowKit Go.Shelf
theorem aDv:(Tryz.prog.info? 284).map (·.size)=some 2:=by kernel_rfl
theorem aMm:(Tryz.prog.info? 5).map (fun i=>(i.zero,i.size,i.bytes))=some (some (.int .u8 0),1,1):=by kernel_rfl
theorem vX(b:Nat)(w:World)(h0:w.cell? ⟨b,0,none⟩=some (.pointer (some ⟨b,0,none⟩))): Calls Tryz.prog 212 #[.pointer (some ⟨b,0,none⟩)] w fun e w'=>e= .returned (.tuple #[])∧w'=w:=by
 obtain⟨j,hj,_⟩:=Option.map_eq_some_iff.1 aDv;go_enter Tryz.func212,Tryz.ntmps212;go_wp2;rw[Lib.run_neq_ptr_same w _ Tryz.underlying282 hj];go_wp2;go_end0;exact⟨rfl,rfl⟩
theorem tO(b:Nat)(w:World)(h0:w.cell? ⟨b,0,none⟩=some (.pointer none))(hsh:w.shape? b=some (284,2))(hfz:w.frozen? ⟨b,0,none⟩=false): Calls Tryz.prog 212 #[.pointer (some ⟨b,0,none⟩)] w fun e w'=>e= .returned (.tuple #[])∧w'=w.setCell ⟨b,0,none⟩ (.pointer (some ⟨b,0,none⟩)):=by
 obtain⟨j,hj,hjs⟩:=Option.map_eq_some_iff.1 aDv;go_enter Tryz.func212,Tryz.ntmps212;go_wp2;rw[Lib.run_to_unsafe w ⟨b,0,none⟩ Tryz.underlying282 Tryz.underlying305 hj (by rw[hjs];decide) hsh (Nat.zero_lt_succ 1)];simp only[Result.andThen];rw[Oper.upon_value];go_wp2;rw[run_callFunc_extern Tryz.func224 (by kernel_rfl) (by kernel_rfl) (by kernel_rfl) (e:=Extern.AbiNoEscape.same) (by kernel_rfl)];rw[Lib.run_noEscape];simp only[Result.andThen];rw[Oper.upon_value];go_wp2;rw[Lib.run_from_unsafe w ⟨b,0,none⟩ Tryz.underlying305 Tryz.underlying282 hj hsh (by kernel_rfl)];simp only[Result.andThen];rw[Oper.upon_value];go_wp2;go_end0;exact⟨rfl,rfl⟩
theorem yF(B b:Nat)(bs:List Value)(w:World)(h:Lib.IsBuilder 284 5 B b bs w): Calls Tryz.prog 212 #[.pointer (some ⟨b,0,none⟩)] w fun e w'=>e= .returned (.tuple #[])∧(Lib.BuilderAt 284 5 B b (.pointer (some ⟨b,0,none⟩)) bs w'∧Below B w w'):=by
 rcases h with h|h
 ·refine(tO b w h.cell0 h.shape h.frozen0).mono ?_;rintro e w' ⟨rfl,rfl⟩;exact⟨rfl,h.used _,(Below.refl B w).setCell (p:=⟨b,0,none⟩) h.1 _⟩
 ·refine(vX b w h.cell0).mono ?_;rintro e w' ⟨rfl,rfl⟩;exact⟨rfl,h,Below.refl B _⟩
theorem iL(B b:Nat)(bs:List Value)(s:ByteArray)(w:World)(h:Lib.IsBuilder 284 5 B b bs w)(hlen:bs.length+s.size≤140737488355328)(hBw:B≤w.heap.size): Calls Tryz.prog 203 #[.pointer (some ⟨b,0,none⟩),.string s] w fun e w'=>e= .returned (.tuple #[.int .i64 s.size,.nilIface])∧(Lib.BuilderAt 284 5 B b (.pointer (some ⟨b,0,none⟩)) (bs++Lib.strCells s) w'∧Below B w w'):=by
 obtain⟨i0,hi,hz0,hz1,hz2⟩:=info_parts aMm;go_enter Tryz.func203,Tryz.ntmps203;go_wp2_with(go_at_call 212;refine(yF B b bs _ h).mono ?_);rintro e w1 ⟨rfl,h1,hb1⟩;obtain⟨hB,v,hbk,hown,hne⟩:=h1;have c0:w1.cell? ⟨b,0,none⟩=some (.pointer (some ⟨b,0,none⟩)):=by rw[Lib.cell_of_heap hbk];rfl
 have c1:w1.cell? ⟨b,1,none⟩=some v:=by rw[Lib.cell_of_heap hbk];rfl
 go_wp2_with(at_builtin;refine Lib.wpList_append_own_string _ rfl _ _ 219 9 rfl B 5 i0 Tryz.underlying219 Tryz.underlying9 hi hz0 hz1 hz2 _ _ _ rfl hown s rfl ?c3 ?c4 ?c5 ?_);case c3=>unfold maxLen;omega
 case c4=>omega
 case c5=>have:=hb1.size;omega
 intro v' w2 hown' hgrow _;have hlt:b<w1.heap.size:=by
  rcases Nat.lt_or_ge b w1.heap.size with h'|h'
  ·exact h'
  ·simp[Array.getElem?_eq_none h']at hbk
 have hb2:w2.heap[b]?=some (.cells #[.pointer (some ⟨b,0,none⟩),v] 284 (0,0)):=by
  rw[hgrow.block b hlt (fun e=>hne e.symm)];exact hbk
 have d0:w2.cell? ⟨b,0,none⟩=some (.pointer (some ⟨b,0,none⟩)):=by rw[Lib.cell_of_heap hb2];rfl
 have d1:w2.cell? ⟨b,1,none⟩=some v:=by rw[Lib.cell_of_heap hb2];rfl
 have f1:w2.frozen? ⟨b,1,none⟩=false:=Lib.frozen_of_heap hb2 1;obtain⟨ao,n',cap,rfl⟩:∃ao n' cap,v'= .slice ao n' cap:=by
  rcases hown'.2 with⟨hv,_⟩|⟨g,cap,cur,hv,_⟩
  ·exact⟨_,_,_,hv⟩
  ·exact⟨_,_,_,hv⟩
 go_wp2;go_ret2;refine⟨rfl,?_,?_⟩
 ·exact Lib.BuilderAt.put (T:=284) (e:=5) hB hb2 (bs':=bs++Lib.strCells s) (by simpa[Lib.strCells_length]using hown') (by decide)
 ·exact(hb1.grown hgrow (by have:=hb1.size;omega) (fun k hk=>(hown.lt k hk).1)).setCell (p:=⟨b,1,none⟩) hB _
end
section
open Go.RowKit Go.Shelf Go.Sort
theorem aZb(u:Nat)(hu64:u<18446744073709551616)(w:World)(htab:Tab w): Calls Tryz.prog 211 #[.int .u64 u,.int .i64 10] w fun e w'=>e= .returned (.string ⟨(Lib.decDigits u).toArray⟩)∧Below w.heap.size w w':=by
 by_cases hs:u<100
 ·have hs1:(u:Int)<100:=by omega
  go_enter Tryz.func211,Tryz.ntmps211;go_wp2_with(go_at_call 220;refine(Tryz.internal_strconv_small u hs _).mono ?_;rintro e w' ⟨rfl,rfl⟩);go_ret;exact⟨rfl,Below.refl _ _⟩
 ·have hu1:1≤u:=by omega
  have hs1:¬(u:Int)<100:=by omega
  have hnd20:Lib.nDigits u≤20:=by have:=Lib.numDigits_eq u hu1 hu64;split at this<;>omega
  have hal:Tryz.prog.arrayLen 300=24:=by kernel_rfl
  have hsl1:∀W,(Instr.sliceAt 300 (.pointer (some ⟨w.heap.size,0,none⟩)) none (some (.int .i64 (Lib.nDigits u:Int))) none).run Tryz.prog W= .ok (.slice (some ⟨w.heap.size,0,none⟩) (Lib.nDigits u) 24) W:=fun W=>by
   rw[run_sliceAt_array_h W 300 ⟨w.heap.size,0,none⟩ (by simp[Program.arrayLen,Program.elem,Tryz.underlying300]) .i64 (Lib.nDigits u:Int) (by omega) (by rw[hal];omega)];go_simp;try omega
  have hH0:=Lib.holds_zero0 w 300 (Lib.nDigits u) (by omega);have hfmt:=Tryz.internal_strconv_formatBase10 w.heap.size 0 24 u (Array.replicate (Lib.nDigits u) 0) (w.alloc (.cells Lib.zeros24 300)) hH0 (by rw[Array.size_replicate];exact Lib.lt_pow_nDigits u) hu64 (by rw[Array.size_replicate];omega);rw[Array.size_replicate]at hfmt;have HH0:=aH hH0;have HF:=aH hfmt;clear hH0 hal hfmt;go_enter Tryz.func211,Tryz.ntmps211;go_wp2_with(go_at_call 221;refine(Tryz.internal_strconv_numDigits u hu1 hu64 _ (Lib.tabIs_alloc htab _)).mono ?_;rintro e w' ⟨rfl,rfl⟩);go_at_call 222;refine HF.out.mono ?_;rintro e w' ⟨rfl,k,v',dk,rfl,hF⟩;have hcv:(convert 219 9 (.slice (some ⟨w.heap.size,0,none⟩) (Lib.nDigits u) 24)).run Tryz.prog ((putRow (fun(b:UInt8)=>Value.int .u8 (b.toNat:Int)) (w.alloc (.cells Lib.zeros24 300)) w.heap.size 0 dk).drewN k)= .ok (.string ⟨(Lib.decDigits u).toArray⟩) ((putRow (fun(b:UInt8)=>Value.int .u8 (b.toNat:Int)) (w.alloc (.cells Lib.zeros24 300)) w.heap.size 0 dk).drewN k):=by
   have h:=run_convert_bytes_back (P:=Tryz.prog) ((putRow (fun(b:UInt8)=>Value.int .u8 (b.toNat:Int)) (w.alloc (.cells Lib.zeros24 300)) w.heap.size 0 dk).drewN k) 219 9 5 ⟨w.heap.size,0,none⟩ 24 (Lib.decDigits u) Tryz.underlying219 Tryz.underlying5 Tryz.underlying9 (fun j hj=>by
    rw[Lib.row_is_numeral hF j hj,Lib.add_plain,World.cell?_drewN];exact cell?_putRow (fun(b:UInt8)=>Value.int .u8 (b.toNat:Int)) _ w.heap.size 0 _ dk HH0.out (by rw[hF.size,Array.size_replicate]) j (by rw[hF.size];rw[Lib.decDigits_length]at hj;exact hj))
   rw[Lib.decDigits_length]at h;exact h
  go_wp2;go_ret;obtain⟨os,eo⟩:=Lib.fin_at w (.cells Lib.zeros24 300) dk k 0;exact⟨rfl,by rw[eo];exact aGz w k os⟩
theorem aVx(u:Nat)(hu64:u<18446744073709551616)(w:World)(htab:Tab w): Calls Tryz.prog 202 #[.int .u64 u,.int .i64 10] w fun e w'=>e= .returned (.string ⟨(Lib.decDigits u).toArray⟩)∧Below w.heap.size w w':=by
 have HF:=aH (aZb u hu64 w htab);go_enter Tryz.func202,Tryz.ntmps202;go_wp2_with fail;refine HF.out.mono ?_;rintro e w1 ⟨rfl,hb⟩;have HB:=aH hb;clear hb HF;go_wp2;go_ret;exact⟨rfl,HB.out⟩
end
section
open Go.Lib
def aBo:Nat→Nat→List UInt8
 |0,_=>[]
 |n+1,b=>aBo n (b/10)++[UInt8.ofNat (48+b%10)]
theorem nG{u:Nat}(h:10≤u):decDigits u=decDigits (u/10)++[UInt8.ofNat (48+u%10)]:=by rw[decDigits,dif_neg (by omega)]
theorem aDw(a:Nat)(ha:1≤a):∀(n b:Nat),b<10^n→decDigits (a*10^n+b)=decDigits a++aBo n b
 |0,b,h=>by
  have:b=0:=by simpa using h
  subst this;simp[aBo]
 |n+1,b,h=>by
  have hp:0<10^n:=Nat.pow_pos (by decide);have e:10^(n+1)=10*10^n:=by rw[Nat.pow_succ,Nat.mul_comm]
  have h1:a*10^(n+1)=10*(a*10^n):=by rw[e,Nat.mul_left_comm]
  have h2:10^n≤a*10^n:=Nat.le_mul_of_pos_left _ ha;rw[h1,nG (by omega),show(10*(a*10^n)+b)/10=a*10^n+b/10 by omega,show(10*(a*10^n)+b)%10=b%10 by omega,aDw a ha n (b/10) (by omega),aBo,List.append_assoc]
theorem zJ:∀n,aBo n 0=List.replicate n 48
 |0=>rfl
 |n+1=>by rw[aBo,zJ n,List.replicate_succ'];rfl
theorem nH(u:Nat):1≤(decDigits u).length:=by
 rw[decDigits];split<;>simp
theorem jL:∀(n b:Nat),b<10^n→1≤n→(decDigits b).length≤n
 |0,_,_,h=>by omega
 |n+1,b,h,_=>by
  by_cases hb:b<10
  ·rw[decDigits,dif_pos hb];simp
  ·have hn:1≤n:=by
    rcases Nat.eq_zero_or_pos n with h0|h0
    ·subst h0;simp at h;omega
    ·exact h0
   have e:10^(n+1)=10*10^n:=by rw[Nat.pow_succ,Nat.mul_comm]
   rw[nG (by omega),List.length_append];have:=jL n (b/10) (by omega) hn;simp;omega
theorem aJn:∀(n b:Nat),b<10^n→1≤n→aBo n b=List.replicate (n-(decDigits b).length) 48++decDigits b
 |0,_,_,h=>by omega
 |n+1,b,h,_=>by
  by_cases hb:b<10
  ·have e:decDigits b=[UInt8.ofNat (48+b)]:=by rw[decDigits,dif_pos hb]
   rw[aBo,show b/10=0 by omega,zJ,e,show b%10=b by omega];simp
  ·have hn:1≤n:=by
    rcases Nat.eq_zero_or_pos n with h0|h0
    ·subst h0;simp at h;omega
    ·exact h0
   have e:10^(n+1)=10*10^n:=by rw[Nat.pow_succ,Nat.mul_comm]
   rw[aBo,aJn n (b/10) (by omega) hn,nG (show 10≤b by omega),List.append_assoc];congr 2;simp
def mP:List Int→Int
 |[]=>0
 |p::r=>p+1000000000*mP r
def OkB(l:List Int):Prop:=∀x∈l,0≤x∧x<1000000000
theorem OkB.nil:OkB []:=fun _ h=>by simp at h
theorem OkB.snoc{l:List Int}(h:OkB l){x:Int}(hx:0≤x∧x<1000000000):OkB (l++[x]):=fun y hy=>by
 rcases List.mem_append.1 hy with h1|h1
 ·exact h y h1
 ·simp at h1;subst h1;exact hx
theorem OkB.at_{l:List Int}(h:OkB l)(i:Nat):0≤l.getD i 0∧l.getD i 0<1000000000:=by
 rw[gD];by_cases hi:i<l.length
 ·rw[gE hi];exact h _ (List.getElem_mem hi)
 ·rw[List.getElem?_eq_none (by omega)];exact⟨by decide,by decide⟩
theorem tE:∀{l:List Int},OkB l→0≤mP l
 |[],_=>Int.le_refl _
 |x::l,h=>by
  have h1:=tE (l:=l) fun y hy=>h y (List.mem_cons_of_mem _ hy);have h2:=h x List.mem_cons_self;rw[mP];omega
theorem zK:∀(l:List Int) (x:Int),mP (l++[x])=mP l+1000000000^l.length*x
 |[],x=>by simp[mP]
 |y::l,x=>by
  rw[List.cons_append,mP,mP,zK l x,List.length_cons,Int.pow_succ];grind
def txt:List Int→List UInt8
 |[]=>[]
 |[p]=>decDigits p.toNat
 |p::q::r=>txt (q::r)++(List.replicate (9-(decDigits p.toNat).length) 48++decDigits p.toNat)
theorem aJo:∀{l:List Int},OkB l→(hne:l≠[])→l.getLast hne≠0→1≤mP l
 |[x],h,_,hl=>by
  have:=h x List.mem_cons_self;simp at hl;simp[mP];omega
 |x::y::r,h,_,hl=>by
  have h1:=aJo (l:=y::r) (fun z hz=>h z (List.mem_cons_of_mem _ hz)) (by simp) (by simpa using hl);have h2:=h x List.mem_cons_self;rw[mP];omega
theorem aQt:∀{l:List Int},OkB l→(hne:l≠[])→l.getLast hne≠0→txt l=decDigits (mP l).toNat
 |[x],_,_,_=>by simp[txt,mP]
 |x::y::r,h,_,hl=>by
  have hr:OkB (y::r):=fun z hz=>h z (List.mem_cons_of_mem _ hz);have h1:=aJo hr (by simp) (by simpa using hl);have h2:=h x List.mem_cons_self;have ih:=aQt hr (by simp) (by simpa using hl);have e:(mP (x::y::r)).toNat=(mP (y::r)).toNat*10^9+x.toNat:=by rw[mP];omega
  rw[e,aDw _ (by omega) 9 _ (by omega),txt,ih,aJn 9 _ (by omega) (by omega)]
theorem aQu{l:List Int}{i:Nat}(h:i+1<l.length):txt (l.drop i)=txt (l.drop (i+1))++(List.replicate (9-(decDigits (l.getD i 0).toNat).length) 48++decDigits (l.getD i 0).toNat):=by
 have e1:l.drop i=l.getD i 0::l.drop (i+1):=by rw[List.drop_eq_getElem_cons (by omega),gD,gE (by omega)];rfl
 have e2:l.drop (i+1)=l.getD (i+1) 0::l.drop (i+2):=by rw[List.drop_eq_getElem_cons h,gD,gE h];rfl
 rw[e1,e2,txt]
theorem aQv{l:List Int}{i:Nat}(h:i+1=l.length):txt (l.drop i)=decDigits (l.getD i 0).toNat:=by
 have e1:l.drop i=l.getD i 0::l.drop (i+1):=by rw[List.drop_eq_getElem_cons (by omega),gD,gE (by omega)];rfl
 rw[e1,List.drop_of_length_le (by omega),txt]
theorem lV(u n:Nat)(hn:1≤n):(decDigits u).length≤n↔u<10^n:=by
 refine⟨fun h=>?_,fun h=>jL n u h hn⟩;have h1:=lt_pow_nDigits u;rw[decDigits_length]at h;exact Nat.lt_of_lt_of_le h1 (Nat.pow_le_pow_right (by decide) h)
end
section
open Go.RowKit
theorem mM{P:Program}(w:World)(base:Nat)(t ty e:TypeId)(i:TypeInfo)(z:Value)(sz bytes:Nat)(ht:P.underlying t=some (.slice e))(hi:P.info? e=some i)(hz:i.zero=some z) (hsize:i.size=sz)(hby:i.bytes=bytes)(hzs:z.cells.size=sz)(hsz:0<sz)
  (v:Value)(n:Nat)(xs:List Value)(hr:Row w base e sz v n xs)
  (B:Nat)(A:Option Addr)(m c:Nat)(news:List Value)(hs:Reads w B sz A m news)(h1:∀u∈news,u.oneCell'=true)
  (h63:n+m≤maxLen)(hbytes:(n+m)*bytes≤140737488355328)(hbase:base≤w.heap.size):
  ∃v' w',(Builtin.append_ #[t,t] ty #[v,.slice A m c]).run P w= .ok v' w'∧Row w' base e sz v' (n+m) (xs++news)∧w.grownBy w' v.ownBlock:=by
 rcases A with _|ad
 ·have hm:m=0:=by
   rcases Nat.eq_zero_or_pos m with h0|h0
   ·exact h0
   ·obtain⟨b,off,h,_⟩:=hs.2 h0;cases h
  subst hm;have hn:news=[]:=List.eq_nil_of_length_eq_zero (by simpa using hs.1);subst hn;exact⟨v,w,eB w base t ty e i ht hi sz n v xs hr c,by simpa using hr,World.grownBy.refl w _⟩
 ·have hcells:∀j u,news[j]?=some u→w.cell? (ad.add j)=some u:=by
   intro j u hu;rcases Nat.eq_zero_or_pos m with h0|h0
   ·subst h0;have hn:news=[]:=List.eq_nil_of_length_eq_zero (by simpa using hs.1);subst hn;simp at hu
   ·obtain⟨b,off,h,_,hc⟩:=hs.2 h0;injection h with h;subst h;rw[Addr.add_lit];exact hc j u hu
  rcases hr.2 with⟨rfl,rfl⟩|⟨g,off,cap,cur,rfl,hbg,hg,hnc,hcm,hcs,htake⟩
  ·have hx:xs=[]:=List.eq_nil_of_length_eq_zero (by simpa using hr.1);subst hx;obtain⟨v',w',hrun,h2,h3,_⟩:=run_append_own (P:=P) w base t ty e i z sz bytes ht hi hz hsize hby hzs hsz (.slice none 0 0) 0 [] (World.ownsRow_nil w _ e sz) ad m c news hs.1 hcells h1 h63 hbytes hbase;exact⟨v',w',hrun,Row.of_own h2,h3⟩
  ·by_cases hroom:n+m≤cap
   ·subst hsize;have hle:(n+m)*i.size≤cap*i.size:=Nat.mul_le_mul_right _ hroom;rw[Nat.add_mul]at hle;have hl:=hs.1;have hfit:off+n*i.size+news.length≤cur.size:=by omega
    refine⟨_,_,dR w t ty e i ht hi g off n cap cur hg ad m c news hs.1 hcells h1 hroom hfit,⟨by rw[List.length_append,hr.1,hl,Nat.add_mul],.inr ⟨g,off,cap,_,rfl,hbg,setRow_heap w g cur _ e _ hg,hroom,hcm,?_,?_⟩⟩,?_⟩
    ·simp only[List.size_toArray,List.length_append,List.length_take,List.length_drop,Array.length_toList];omega
    ·simp only;rw[Nat.add_mul,←hl];have:=nY (m:=news.length) htake hr.1 rfl (by simpa using hfit);exact this
    ·exact⟨rfl,rfl,rfl,by simp[World.setRow],fun k _ hk=>setRow_other w g k _ (fun e=>hk (by simp[Value.ownBlock,e]))⟩
   ·have holds:∀j u,xs[j]?=some u→w.cell? ((⟨g,off,none⟩:Addr).add j)=some u:=by
     intro j u hu;rw[Addr.add_lit,hg.cell];rw[←htake,List.getElem?_take]at hu;split at hu
     ·simpa using hu
     ·cases hu
    obtain⟨v',w',hrun,h2,h3⟩:=run_append_arg_grows (P:=P) w t ty e i z sz bytes ht hi hz hsize hby hzs hsz ⟨g,off,none⟩ n cap xs hr.1 holds ad m c news hs.1 hcells (by omega) h63 hbytes;exact⟨v',w',hrun,(Row.of_own h2).less hbase,⟨h3.os,h3.tape,h3.output,h3.size,fun k hk _=>h3.block k hk (by simp)⟩⟩
theorem dF{P:Program}{w:World}{ops:Array Oper}{rest:List Oper}{o:Oper}{a:Act}{Q:Exit→Act→World→Prop}(hgd:o.guard=none)(s x:Operand)(t:TypeId) (ho:o.op= .call {callee:= .builtin .append,args:=#[s,x],argTypes:=#[t,t]})
  (base:Nat)(e:TypeId)(i:TypeInfo)(z:Value)(sz bytes:Nat)(ht:P.underlying t=some (.slice e))(hi:P.info? e=some i)(hz:i.zero=some z)
  (hsize:i.size=sz)(hby:i.bytes=bytes)(hzs:z.cells.size=sz)(hsz:0<sz)
  (v:Value)(n:Nat)(xs:List Value)(hsv:a.eval s=v)(hr:Row w base e sz v n xs)
  (B:Nat)(A:Option Addr)(m c:Nat)(news:List Value)(hx:a.eval x= .slice A m c)(hs:Reads w B sz A m news)(h1:∀u∈news,u.oneCell'=true)
  (h63:n+m≤maxLen)(hbytes:(n+m)*bytes≤140737488355328)(hbase:base≤w.heap.size)
  (h:∀v' w',Row w' base e sz v' (n+m) (xs++news)→w.grownBy w' v.ownBlock→wpList P ops Q rest (a.put o.dst v') w'):wpList P ops Q (o::rest) a w:=by
 refine wpList_plain hgd fun K hK=>?_;obtain⟨v',w',hrun,h2,h3⟩:=mM (P:=P) w base t o.type e i z sz bytes ht hi hz hsize hby hzs hsz v n xs hr B A m c news hs h1 h63 hbytes hbase;unfold Oper.wp execOp;simp only[ho,resolve,invoke,builtin,Sem.run_bind,Sem.run_pure,Result.andThen_ok,List.map_toArray,List.map_cons,List.map_nil,hsv,hx,hrun];exact hK _ _ (h v' w' h2 h3)
section
variable {w w':World} {base:Nat} {e e':TypeId} {sz sz':Nat} {v u:Value} {n m:Nat} {xs ys:List Value}
theorem Row.apart(h:Row w base e sz v n xs)(hu:Row w base e' sz' u m ys)(hne:e≠e')(hg:w.grownBy w' u.ownBlock):Row w' base e sz v n xs:=by
 obtain⟨h1,h2⟩:=h;refine⟨h1,h2.imp id ?_⟩;rintro⟨g,off,cap,cur,hv,hb,hh,r⟩;refine⟨g,off,cap,cur,hv,hb,(hg.block g hh.lt ?_).trans hh,r⟩;rcases hu.2 with⟨rfl,_⟩|⟨g',off',cap',cur',rfl,_,hh',_⟩
 ·simp[Value.ownBlock]
 ·intro he;have hgg:g=g':=by simpa[Value.ownBlock]using he
  subst hgg;unfold Blk at hh hh';rw[hh]at hh';injection hh' with hh';injection hh' with _ ht;exact hne ht
theorem Row.belowG(hu:Row w base e sz u m ys)(hg:w.grownBy w' u.ownBlock)(hbase:base≤w.heap.size):Below base w w':=by
 refine(Below.refl base w).grown hg hbase ?_;intro k hk;rcases hu.2 with⟨rfl,_⟩|⟨g',off',cap',cur',rfl,hb,_⟩
 ·simp[Value.ownBlock]at hk
 ·simp[Value.ownBlock]at hk;omega
end
theorem p9_pos:∀n:Nat,(0:Int)<1000000000^n
 |0=>by decide
 |n+1=>by rw[Int.pow_succ];exact Int.mul_pos (p9_pos n) (by decide)
theorem aQw{n:Nat}(h:(1000000000:Int)^n<P32 210):n≤231:=by
 rcases Nat.lt_or_ge 231 n with h1|h1
 ·have h2:(1000000000:Int)^232≤1000000000^n:=by
   obtain⟨k,rfl⟩:=Nat.le.dest (show 232≤n by omega);rw[Int.pow_add];have hp:(1:Int)≤1000000000^k:=by have:=p9_pos k;omega
   have h3:(0:Int)≤1000000000^232:=by decide
   have:=Int.mul_le_mul_of_nonneg_left hp h3;omega
  have h4:P32 210≤(1000000000:Int)^232:=by decide
  omega
 ·exact h1
structure T1(w:World)(z:Int)(A:Option Addr)(n c:Nat)(ps ws:List Int)(pv:Value)(Aw:Option Addr)(cw:Nat)(wr:World):Prop where
 row:Row wr (w.heap.size+1) 247 1 pv ps.length (ps.map U)
 va:Var wr w.heap.size (.bool (decide (z<0))) (.slice A n c)
 nn:Nn wr Aw cw ws
 len:ws.length≤210
 okb:OkB ps
 sum:mP ps+1000000000^ps.length*val ws=(z.natAbs:Int)
 top:val ws=0→∃hne:ps≠[],ps.getLast hne≠0
 below:Below w.heap.size w wr
 plen:ps.length≤232
theorem T1.part{w:World}{z:Int}{A:Option Addr}{n c:Nat}{ps ws:List Int}{pv:Value}{Aw:Option Addr}{cw:Nat}{wr:World}(h:T1 w z A n c ps ws pv Aw cw wr)(hz:(z.natAbs:Int)<P32 210)(h1:1≤val ws):ps.length≤231:=by
 refine aQw ?_;have h2:=tE h.okb;have h3:=h.sum;have hp:(0:Int)≤1000000000^ps.length:=Int.le_of_lt (p9_pos _);have:=Int.mul_le_mul_of_nonneg_left h1 hp;omega
theorem Row.own_lt{w:World}{base:Nat}{e:TypeId}{sz:Nat}{v:Value}{n:Nat}{xs:List Value}(h:Row w base e sz v n xs):∀k,v.ownBlock=some k→base≤k∧k<w.heap.size:=by
 intro k hk;rcases h.2 with⟨rfl,_⟩|⟨g,off,cap,cur,rfl,hb,hh,_⟩
 ·simp[Value.ownBlock]at hk
 ·simp[Value.ownBlock]at hk;subst hk;exact⟨hb,hh.lt⟩
theorem Var.grown{w w':World}{g:Nat}{x0 x1:Value}(h:Var w g x0 x1){row:Option Nat}(hg:w.grownBy w' row)(hne:row≠some g):Var w' g x0 x1:=by
 have hb:w'.heap[g]?=w.heap[g]?:=hg.block g h.lt (fun e=>hne e.symm);refine⟨?_,?_,?_,?_⟩
 ·rw[←h.c0];simp[World.cell?,hb]
 ·rw[←h.c1];simp[World.cell?,hb]
 ·rw[←h.f0];simp[World.frozen?,hb]
 ·rw[←h.f1];simp[World.frozen?,hb]
def aVy(w:World)(z:Int)(e:Ending)(w':World):Prop:=e= .returned (.tuple #[.string ⟨(Lib.itoa z).toArray⟩,.bool (decide ((Lib.decDigits z.natAbs).length≤2000))])∧Below w.heap.size w w'
theorem aQx:∀n:Fin 10,((⟨#[48,48,48,48,48,48,48,48,48]⟩:ByteArray).extract n.val 9).data.toList=List.replicate (9-n.val) 48:=by decide+kernel
theorem zL{n:Nat}(h:n≤9):Lib.strCells ((⟨#[48,48,48,48,48,48,48,48,48]⟩:ByteArray).extract n 9)=Lib.byteCells (List.replicate (9-n) 48)∧((⟨#[48,48,48,48,48,48,48,48,48]⟩:ByteArray).extract n 9).size=9-n:=by
 have h1:=aQx ⟨n,by omega⟩;simp only at h1;refine⟨by rw[Lib.strCells_eq,h1],?_⟩;have e:(⟨#[48,48,48,48,48,48,48,48,48]⟩:ByteArray).size=9:=rfl;simp[e]
theorem aBp:∀(l:List Int),OkB l→(txt l).length≤9*l.length
 |[],_=>by simp[txt]
 |[x],h=>by
  have h1:=h x List.mem_cons_self;have:=jL 9 x.toNat (by omega) (by omega);simp[txt];omega
 |x::y::r,h=>by
  have h1:=h x List.mem_cons_self;have h2:=jL 9 x.toNat (by omega) (by omega);have h3:=aBp (y::r) fun z hz=>h z (List.mem_cons_of_mem _ hz);simp only[txt,List.length_append,List.length_replicate,List.length_cons]at*;omega
theorem OkB.drop{l:List Int}(h:OkB l)(k:Nat):OkB (l.drop k):=fun x hx=>h x (List.mem_of_mem_drop hx)
structure T2(wa:World)(ps:List Int)(r:Nat)(wr:World):Prop where
 bld:Lib.IsBuilder 284 5 wa.heap.size wa.heap.size (Lib.byteCells (txt (ps.drop r))) wr
 below:Below wa.heap.size wa wr
theorem zM{T e:TypeId}{B b:Nat}{bs:List Value}{w w':World}(h:Lib.IsBuilder T e B b bs w)(hb:Below w.heap.size w w'):Lib.IsBuilder T e B b bs w':=by
 have key:∀p,Lib.BuilderAt T e B b p bs w→Lib.BuilderAt T e B b p bs w':=by
  rintro p ⟨h1,v,h2,h3,h4⟩;have hl:b<w.heap.size:=(Array.getElem?_eq_some_iff.1 h2).1;refine⟨h1,v,(hb.block b hl).trans h2,⟨h3.1,h3.2.imp id ?_⟩,h4⟩;rintro⟨g,cap,cur,a1,a2,a3,a4⟩;exact⟨g,cap,cur,a1,a2,(hb.block g (Array.getElem?_eq_some_iff.1 a3).1).trans a3,a4⟩
 exact h.imp (key _) (key _)
theorem aBq{z:Int}{L:List UInt8}(hL:Lib.decDigits z.natAbs=L)(hz:decide (z<0)=false):Ending.returned (.tuple #[.string ⟨L.toArray⟩,.bool (decide ((L.length:Int)≤2000))])= .returned (.tuple #[.string ⟨(Lib.itoa z).toArray⟩,.bool (decide ((Lib.decDigits z.natAbs).length≤2000))]):=by
 have h0:¬z<0:=of_decide_eq_false hz;have e:Lib.itoa z=L:=by rw[Lib.itoa,if_neg h0,←hL];congr 1;omega
 have e2:decide ((L.length:Int)≤2000)=decide (L.length≤2000):=by congr 1;simp;omega
 rw[e,hL,e2]
theorem aBr{z:Int}{L:List UInt8}(hL:Lib.decDigits z.natAbs=L)(hz:decide (z<0)=true):Ending.returned (.tuple #[.string ((⟨#[45]⟩:ByteArray)++⟨L.toArray⟩),.bool (decide ((L.length:Int)≤2000))])= .returned (.tuple #[.string ⟨(Lib.itoa z).toArray⟩,.bool (decide ((Lib.decDigits z.natAbs).length≤2000))]):=by
 have h0:z<0:=of_decide_eq_true hz;have e:Lib.itoa z=45::L:=by rw[Lib.itoa,if_pos h0,←hL]
 have e2:decide ((L.length:Int)≤2000)=decide (L.length≤2000):=by congr 1;simp;omega
 have e3:(⟨#[45]⟩:ByteArray)++⟨L.toArray⟩=⟨(45::L).toArray⟩:=by
  apply ByteArray.ext;simp
 rw[e,hL,e2,e3]
theorem aDx(b:Bool)(A:Option Addr)(n c:Nat)(w:World):(Instr.field 120 (.agg #[.bool b,.slice A n c]) 1).run Tryz.prog w= .ok (.slice A n c) w:=by kernel_rfl
theorem aDy(z:Int)(A:Option Addr)(ca:Nat)(wz:List Int)(w:World)(hnz:Nn w A ca wz)(hvz:val wz=(z.natAbs:Int))(h0:1≤wz.length)(hl:wz.length≤210)(htab:Tab w): Calls Tryz.prog 181 #[.agg #[.bool (decide (z<0)),.slice A wz.length ca]] w (aVy w z):=by
 have hzb:(z.natAbs:Int)<P32 210:=by
  have h1:=dN hnz.ok;have h2:=eO hl;omega
 have hb1:Below w.heap.size w (w.alloc (.cells #[.bool (decide (z<0)),.slice A wz.length ca] aK)):=(Below.refl _ _).alloc lR _;have hv1:val wz≠0:=by
  intro e;have:=(tV hnz.ok hnz.nm).2 e;rw[this]at h0;simp at h0
 have HT:Hid (T1 w z A wz.length ca [] wz (.slice none 0 0) A ca (w.alloc (.cells #[.bool (decide (z<0)),.slice A wz.length ca] aK))):=aH ⟨Row.nil _ _ _ _,(Blk.new w aK #[.bool (decide (z<0)),.slice A wz.length ca]).var,hnz.ext hb1,hl,OkB.nil,by simp[mP];omega,fun e=>absurd e hv1,hb1,by simp⟩
 have t0:((wz.length:Int)==0)=false:=beq_eq_false_iff_ne.2 (by omega);have t1:decide (210<(wz.length:Int))=false:=decide_eq_false (by omega);have HPART:=aH fun(ps ws:List Int) (pv:Value) (Aw:Option Addr) (cw:Nat) (wr:World) (h:T1 w z A wz.length ca ps ws pv Aw cw wr) (h1:1≤val ws)=>h.part hzb h1;obtain⟨i0,hi0,hz0,hz1,hz2⟩:=info_parts uW;have HI:=aH hi0;have HZ0:=aH hz0;have HZ1:=aH hz1;have HZ2:=aH hz2;have HTAB:=aH htab;clear hi0 hz0 hz1 hz2 hv1 hzb hvz hnz hb1 htab;generalize hbe:decide (z<0)=b at*;have HBE:=aH hbe;clear hbe;unfold aK at*;go_enter Tryz.func181,Tryz.ntmps181;go_wp2_with fail;go_loopg [4,5] (val wz).toNat (fun r pv sv wr=>∃ps ws Aw cw,r=(val ws).toNat∧sv= .slice Aw (ws:List Int).length cw∧T1 w z A wz.length ca ps ws pv Aw cw wr);case atStart=>exact⟨_,_,_,_,rfl,rfl,HT.out⟩
 case round=>
  clear HT;obtain⟨ps,ws,Aw,cw,rfl,rfl,hT⟩:=hrel;obtain⟨wa,rfl⟩:=wE wr;have hlen:=hT.len;by_cases hw:1≤ws.length
  ·have hv0:=bD hT.nn.ok;have hv1:1≤val ws:=by
    have h1:=(tV hT.nn.ok hT.nn.nm);have h2:ws≠[]:=by intro e;rw[e]at hw;simp at hw
    have h3:=mt h1.2 h2;omega
   have hpl:=HPART.out _ _ _ _ _ _ hT hv1;have HS:=aH (qE ws Aw cw 1000000000 wa hT.nn.reads hT.nn.ok (by omega) (by omega) (by omega));have HT:=aH hT;have hwa:w.heap.size<wa.heap.size:=hT.va.lt;have hw0:0<ws.length:=hw;clear hT;go_wp2_with fail;refine HS.out.mono ?_;rintro e w1 ⟨q,o,rfl,hq,oo,vo,lo,hb1⟩;obtain⟨A1,c1,rfl,hc1,hm1⟩:=hq.caps;have HLO:=aH lo;clear lo;have hm0:=Int.emod_nonneg (val ws) (show(1000000000:Int)≠0 by omega);have hm2:=Int.emod_lt_of_pos (val ws) (show(0:Int)<1000000000 by omega);have hsp:=Int.emod_add_mul_ediv (val ws) 1000000000;rw[←vo]at hsp;have hz1:wa.heap.size≤w1.heap.size:=hb1.size;have HQ:=aH hq;have HB1:=aH hb1;generalize val ws%1000000000=m at*;have HSP:=aH hsp;have HR:=aH ((HT.out.row.call hb1).alloc (.cells #[U m] 247));have HOWN:=aH HT.out.row.own_lt;have H1:Hid (∀u∈[U m],u.oneCell'=true):=aH (by intro u hu;simp at hu;subst hu;rfl);clear HS hq hb1 hsp vo;go_wp2_with(at_builtin;refine dF rfl _ _ 118 rfl (w.heap.size+1) 247 i0 _ 1 4 Tryz.underlying118 HI.out HZ0.out HZ1.out HZ2.out rfl (by decide) _ ps.length (ps.map U) rfl HR.out (w1.heap.size+1) (some ⟨w1.heap.size,0,none⟩) 1 1 [U m] rfl (kN w1 _ _) H1.out ?c1 ?c2 ?c3 ?_);case c1=>unfold maxLen;omega
   case c2=>omega
   case c3=>simp;omega
   intro v' w2 hr' hg;have hz2:=hg.size;have hq2:=(HQ.out.alloc (.cells #[U m] 247)).keep (w':=w2) (fun g h1 h2=>hg.block g h2 (fun e=>by have:=(HOWN.out g e.symm).2;omega));have hva2:=((HT.out.va.below HB1.out).alloc (.cells #[U m] 247)).grown hg (fun e=>by have:=(HOWN.out _ e).1;omega);have hbl2:Below w.heap.size w w2:=by
    have hb3:=(HT.out.below.trans (HB1.out.mono HT.out.below.size)).alloc (o:= .cells #[U m] 247) (by omega);exact hb3.grown hg (by simp;omega) (fun k hk=>by have:=(HOWN.out k hk).1;omega)
   have HNM:=aH (fH false o A1 c1 w2 hq2.reads hc1 hm1 oo);have HVA2:=aH hva2;have HBL2:=aH hbl2;have HR2:=aH hr';clear hr' hg hq2 hva2 hbl2 HQ HR HB1 H1;go_wp2_with fail;refine HNM.out.mono ?_;rintro e w3 ⟨v3,rfl,hv3,hb3⟩;obtain⟨A3,c3,r3,rfl,hn3,hv3'⟩:=hv3.nn;have ho0:=bD oo;have hv3e:val r3=val o:=by rw[hv3',tW false ho0]
   have e4:sgn false (val o)=val o:=rfl;rw[e4,decide_eq_false (show¬val o<0 by omega)];have hfld:=aDx false A3 r3.length c3;have hspl:=HSP.out;have hmeas:val r3<val ws:=by omega
   have hmeas0:0≤val r3:=by omega
   have HF:Hid (T1 w z A wz.length ca (ps++[m]) r3 v' A3 c3 w3):=aH (by
    refine⟨?_,HVA2.out.below hb3,hn3,?_,HT.out.okb.snoc ⟨hm0,hm2⟩,?_,?_,HBL2.out.trans (hb3.mono HBL2.out.size),by simp;omega⟩
    ·have:=HR2.out.call hb3;simpa using this
    ·have h1:=dN HT.out.nn.ok;have:=lO hn3.ok hn3.nm (k:=ws.length) (by omega);omega
    ·rw[zK,List.length_append,List.length_singleton,Int.pow_succ,hv3e,Int.mul_assoc,Int.add_assoc,←Int.mul_add,hspl];exact HT.out.sum
    ·intro e;refine⟨by simp,?_⟩;have hlm:(ps++[m]).getLast (by simp)=m:=by simp
     rw[hlm];omega)
   clear hv3 hn3 hv3' HNM HVA2 HBL2 HR2 e4 HSP hspl;go_wp2;go_roundg (val r3).toNat;case measure=>omega
   case rel=>exact⟨_,_,_,_,rfl,rfl,HF.out⟩
  ·have hnil:ws=[]:=List.eq_nil_of_length_eq_zero (by omega);subst hnil;obtain⟨hne,hlast⟩:=hT.top rfl;have hsum:=hT.sum;simp only[val,Int.mul_zero,Int.add_zero]at hsum;have htx:=aQt hT.okb hne hlast;rw[hsum,Int.toNat_natCast]at htx;have hpos:0<ps.length:=List.length_pos_iff.2 hne;have HTX:=aH htx;have HOB:=aH hT.okb;have HF0:=aH (Lib.fresh_isBuilder 284 5 wa);have HTB:=aH (aO HTAB.out hT.below);have HT:=aH hT;obtain⟨PA,pc,hpv,hpc,hpm⟩:=hT.row.caps;subst hpv;have HRD:=aH hT.row.reads;have hplen:=hT.plen;clear hT hsum htx hlast hne;have HT2:Hid (T2 wa ps ps.length (wa.alloc (.cells #[.pointer none,.slice none 0 0] 284))):=aH ⟨by rw[List.drop_of_length_le lR];exact HF0.out,(Below.refl _ _).alloc lR _⟩;go_wp2_with fail;go_loopg [9] ps.length (fun r iv wr=>iv=I ((r:Int)-1)∧r≤ps.length∧T2 wa ps r wr);case atStart=>exact⟨rfl,Nat.le_refl _,HT2.out⟩
   case round=>
    clear HT2 HF0;obtain⟨rfl,hr,hT2⟩:=hrel;rcases gk with _|k
    ·have e0:(((0:Nat):Int)-1)=-1:=by omega
     rw[e0];clear e0;have hbl:=hT2.bld;rw[List.drop_zero,HTX.out]at hbl;have HS:=aH (Tryz.Builder_String_any wa.heap.size wa.heap.size _ wr hbl hT2.below.size);have hva:=HT.out.va.below hT2.below;have HVA:=aH hva;have HBL:=aH (HT.out.below.trans (hT2.below.mono HT.out.below.size));have HB2:=aH hT2.below;have hwa:w.heap.size<wa.heap.size:=HT.out.va.lt;generalize hL:Lib.decDigits z.natAbs=L at*;have hLlen:L.length≤2100:=by
      have h1:=aBp ps HOB.out;rw[HTX.out]at h1;omega
     have HL:=aH hL;have a0:=hva.c0;rw[HBE.out]at a0;clear hbl hva hT2 hL;go_wp2_with fail;refine HS.out.mono ?_;rintro e w1 ⟨rfl,hb1⟩;have a1:w1.cell? ⟨w.heap.size,0,none⟩=some (.bool b):=(hb1.cell (p:=⟨w.heap.size,0,none⟩) hwa).trans a0;have hl1:w.heap.size<w1.heap.size:=by have:=hb1.size;have:=HB2.out.size;omega
     have HB3:=aH (HT.out.below.trans ((HB2.out.trans hb1).mono HT.out.below.size));clear hb1 HS a0 HBL HB2 HVA;cases b
     ·go_wp2;go_ret2;exact⟨aBq HL.out HBE.out,HB3.out⟩
     ·go_wp2;go_ret2;exact⟨aBr HL.out HBE.out,HB3.out⟩
    ·have e0:(((k+1:Nat):Int)-1)=k:=by omega
     rw[e0];clear e0;obtain⟨bp,offp,hPA,hbp,hcp⟩:=(HRD.out.below hT2.below).word (k:=k) (by omega);subst hPA;have hpb:=HOB.out.at_ k;obtain⟨u,hu⟩:=Int.eq_ofNat_of_zero_le hpb.1;rw[hu]at hcp hpb;have hu9:u<1000000000:=by omega
     have hul:(Lib.decDigits u).length≤9:=jL 9 u (by omega) (by omega);have hbw:bp<wr.heap.size:=by have:=hT2.below.size;omega
     have HFM:=aH (aVx u (by omega) wr (aO HTB.out hT2.below));have HT2:=aH hT2;have HU:=aH hu;have hk1:(0:Int)≤(k:Int):=by omega
     have hk2:(k:Int)<(ps.length:Int):=by omega
     have hk3:k<ps.length:=by omega
     clear hT2 hu hpb;by_cases hlast:k+1<ps.length
     ·have tl:decide ((k:Int)<(ps.length:Int)-1)=true:=decide_eq_true (by omega);go_wp2_with fail;refine HFM.out.mono ?_;rintro e w1 ⟨rfl,hb1⟩;have hB1:=zM HT2.out.bld hb1;have hln:=aBp _ (HOB.out.drop (k+1));rw[List.length_drop]at hln;have hW1:=iL wa.heap.size wa.heap.size _ ((⟨#[48,48,48,48,48,48,48,48,48]⟩:ByteArray).extract (Lib.decDigits u).length 9) w1 hB1 (by rw[Lib.byteCells_length,(zL hul).2];omega) (by have:=HT2.out.below.size;have:=hb1.size;omega);rw[(zL hul).1,←Lib.byteCells_append]at hW1;have HW1:=aH hW1;have HB1:=aH (HT2.out.below.trans (hb1.mono HT2.out.below.size));clear hB1 hW1 hb1;go_wp2_with fail;refine HW1.out.mono ?_;rintro e w2 ⟨rfl,hB2,hb2⟩;have hW2:=iL wa.heap.size wa.heap.size _ ⟨(Lib.decDigits u).toArray⟩ w2 (.inr hB2) (by rw[Lib.byteCells_length,List.length_append,List.length_replicate];simp[ByteArray.size];omega) (by have:=HB1.out.size;have:=hb2.size;omega);rw[Lib.strCells_toArray,←Lib.byteCells_append]at hW2;have HW2:=aH hW2;have HB2:=aH (HB1.out.trans hb2);clear hB2 hW2 hb2 HW1;go_wp2_with fail;refine HW2.out.mono ?_;rintro e w3 ⟨rfl,hB3,hb3⟩;have HF:Hid (T2 wa ps k w3):=aH ⟨by rw[aQu hlast,HU.out,Int.toNat_natCast,←List.append_assoc];exact .inr hB3,HB2.out.trans hb3⟩;clear hB3 hb3 HW2;go_wp2;go_roundg k;case measure=>omega
      case rel=>exact⟨by go_num,by omega,HF.out⟩
     ·have tl:decide ((k:Int)<(ps.length:Int)-1)=false:=decide_eq_false (by omega);go_wp2_with fail;refine HFM.out.mono ?_;rintro e w1 ⟨rfl,hb1⟩;have hB1:=zM HT2.out.bld hb1;rw[List.drop_of_length_le (show ps.length≤k+1 by omega)]at hB1;have hW2:=iL wa.heap.size wa.heap.size _ ⟨(Lib.decDigits u).toArray⟩ w1 hB1 (by simp[txt,Lib.byteCells,ByteArray.size];omega) (by have:=HT2.out.below.size;have:=hb1.size;omega);rw[Lib.strCells_toArray,←Lib.byteCells_append]at hW2;have HW2:=aH hW2;have HB2:=aH (HT2.out.below.trans (hb1.mono HT2.out.below.size));clear hB1 hW2 hb1;go_wp2_with fail;refine HW2.out.mono ?_;rintro e w3 ⟨rfl,hB3,hb3⟩;have HF:Hid (T2 wa ps k w3):=aH ⟨by rw[aQv (show k+1=ps.length by omega),HU.out,Int.toNat_natCast];exact .inr hB3,HB2.out.trans hb3⟩;clear hB3 hb3 HW2;go_wp2;go_roundg k;case measure=>omega
      case rel=>exact⟨by go_num,by omega,HF.out⟩
def short(z:Int):Bool:=decide ((Lib.decDigits z.natAbs).length≤2000)
def bBc(w:World)(z:Int)(e:Ending)(w':World):Prop:=∃s,e= .returned (.tuple #[.string s,.bool (short z)])∧(short z=true→s=⟨(Lib.itoa z).toArray⟩)∧Below w.heap.size w w'
theorem tF{z:Int}{wz:List Int}(hn:Ok wz)(hm:Nm wz)(hv:val wz=(z.natAbs:Int))(hl:210<wz.length):short z=false:=by
 unfold short;rw[decide_eq_false_iff_not,lV _ _ (by omega)];intro h;have h1:=uV hn hm (wz.length-1) (by omega);have h2:=eO (i:=210) (j:=wz.length-1) (by omega);have h3:(10^2000:Int)≤P32 210:=by decide+kernel
 have h4:((z.natAbs:Nat):Int)<((10^2000:Nat):Int):=Int.ofNat_lt.2 h;have h5:((10^2000:Nat):Int)=(10^2000:Int):=by decide+kernel
 rw[h5]at h4;exact absurd (Int.lt_of_lt_of_le h4 h3) (by omega)
theorem qQ(L:Bool)(s:ByteArray)(h:L=true):Ending.returned (.tuple #[.string s,.bool true])= .returned (.tuple #[.string s,.bool L]):=by rw[h]
theorem pB(L:Bool)(s:ByteArray)(h:L=false):Ending.returned (.tuple #[.string s,.bool false])= .returned (.tuple #[.string s,.bool L]):=by rw[h]
theorem aQy(v:Value)(z:Int)(w:World)(hx:Big w v z)(htab:Tab w):Calls Tryz.prog 181 #[v] w (bBc w z):=by
 obtain⟨A,ca,wz,rfl,hnz,hvz⟩:=hx.nn;have HB:=aH ((Below.refl w.heap.size w).alloc lR (.cells #[.bool (decide (z<0)),.slice A wz.length ca] aK));by_cases h0:wz.length=0
 ·have hz:z=0:=by
   rw[List.eq_nil_of_length_eq_zero h0]at hvz;simp[val]at hvz;omega
  have hs:short z=true:=by rw[hz];decide+kernel
  have hi:(⟨#[48]⟩:ByteArray)=⟨(Lib.itoa z).toArray⟩:=by rw[hz];decide+kernel
  have HS:=aH hs;have HII:=aH hi;have t0:((wz.length:Int)==0)=true:=beq_iff_eq.2 (by omega);clear hx hnz hvz htab h0 hz hs hi;generalize decide (z<0)=b at*;unfold aK at*;go_enter Tryz.func181,Tryz.ntmps181;go_wp2;go_ret2;exact⟨_,qQ _ _ HS.out,fun _=>HII.out,HB.out⟩
 ·by_cases hl:wz.length≤210
  ·refine(aDy z A ca wz w hnz hvz (by omega) hl htab).mono ?_;rintro e w' ⟨rfl,hb⟩;exact⟨_,rfl,fun _=>rfl,hb⟩
  ·have HS:=aH (tF hnz.ok hnz.nm hvz (by omega));have t0:((wz.length:Int)==0)=false:=beq_eq_false_iff_ne.2 (by omega);have t1:decide (210<(wz.length:Int))=true:=decide_eq_true (by omega);clear hx hnz hvz htab h0 hl;generalize decide (z<0)=b at*;unfold aK at*;go_enter Tryz.func181,Tryz.ntmps181;go_wp2;go_ret2;exact⟨_,pB _ _ HS.out,fun h=>(by rw[HS.out]at h;cases h),HB.out⟩
end
end Go.Proofs.YtenbglfkdldheaaGreatDoor
