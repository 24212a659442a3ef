/- The network of the facts: gridhallkeep1.pair. flow.Inject at the network of the facts. wide and flowFact. -/
import Derived.Test.YtenbglfkdldheaaGreatDoorUFM
set_option maxRecDepth 100000
set_option maxHeartbeats 4000000
namespace Go.Proofs.YtenbglfkdldheaaGreatDoor
open Go.RowKit
def bA:ByteArray:=⟨#[65]⟩
def cS(o:Bool):NetD where
 nodes:=[⟨#[65]⟩,⟨#[66]⟩,⟨#[67]⟩]
 switches:=[⟨⟨#[83]⟩,⟨#[65]⟩,⟨#[66]⟩,false,o⟩]
 branches:=[⟨⟨#[76,49]⟩,⟨#[65]⟩,⟨#[67]⟩,1000,1000,0,10,20,60⟩,⟨⟨#[76,50]⟩,⟨#[65]⟩,⟨#[67]⟩,1000,1000,0,10,20,60⟩]
 gens:=[⟨⟨#[71]⟩,⟨#[66]⟩,1,30,5⟩]
 loads:=[⟨⟨#[68]⟩,⟨#[67]⟩,8⟩]
 stores:=[]
theorem bN{w:World}{g n sz:Nat}{t:TypeId}{cs:Array Value}(h:Blk w g t cs)(hl:cs.size=n*sz):Reads w w.heap.size sz (some ⟨g,0,none⟩) n cs.toList:=by
 refine⟨by simpa using hl,fun _=>⟨g,0,rfl,h.lt,fun j u hu=>?_⟩⟩;rw[h.cell,Nat.zero_add];simpa using hu
theorem aVq{w:World}{g n sz base:Nat}{t:TypeId}{cs:Array Value}(h:Blk w g t cs)(hb:base≤g)(hl:cs.size=n*sz)(hm:n≤1000000):Row w base t sz (.slice (some ⟨g,0,none⟩) n n) n cs.toList:=by
 refine⟨by simpa using hl,.inr ⟨g,0,n,cs,rfl,hb,h,Nat.le_refl _,by unfold maxLen;omega,by omega,?_⟩⟩;rw[List.drop_zero,List.take_of_length_le (by simp[hl])]
structure Chain8(w:World)(o4 o5 o6 o7 o8:Obj)(W:World):Prop where
 a4:W.heap[w.heap.size+1+1+1]?=some o4
 a5:W.heap[w.heap.size+1+1+1+1]?=some o5
 a6:W.heap[w.heap.size+1+1+1+1+1]?=some o6
 a7:W.heap[w.heap.size+1+1+1+1+1+1]?=some o7
 a8:W.heap[w.heap.size+1+1+1+1+1+1+1]?=some o8
 below:Below w.heap.size w W
theorem aYw(w:World)(o1 o2 o3 o4 o5 o6 o7 o8:Obj):Chain8 w o4 o5 o6 o7 o8 ((((((((w.alloc o1).alloc o2).alloc o3).alloc o4).alloc o5).alloc o6).alloc o7).alloc o8):=by
 refine⟨?_,?_,?_,?_,?_,?_⟩
 ·have:=heap_alloc_new (((w.alloc o1).alloc o2).alloc o3) o4;simp only[World.size_alloc]at this;rw[Below.heap_alloc _ _ _ (by simp only[World.size_alloc];omega),Below.heap_alloc _ _ _ (by simp only[World.size_alloc];omega),Below.heap_alloc _ _ _ (by simp only[World.size_alloc];omega),Below.heap_alloc _ _ _ (by simp only[World.size_alloc];omega)];exact this
 ·have:=heap_alloc_new ((((w.alloc o1).alloc o2).alloc o3).alloc o4) o5;simp only[World.size_alloc]at this;rw[Below.heap_alloc _ _ _ (by simp only[World.size_alloc];omega),Below.heap_alloc _ _ _ (by simp only[World.size_alloc];omega),Below.heap_alloc _ _ _ (by simp only[World.size_alloc];omega)];exact this
 ·have:=heap_alloc_new (((((w.alloc o1).alloc o2).alloc o3).alloc o4).alloc o5) o6;simp only[World.size_alloc]at this;rw[Below.heap_alloc _ _ _ (by simp only[World.size_alloc];omega),Below.heap_alloc _ _ _ (by simp only[World.size_alloc];omega)];exact this
 ·have:=heap_alloc_new ((((((w.alloc o1).alloc o2).alloc o3).alloc o4).alloc o5).alloc o6) o7;simp only[World.size_alloc]at this;rw[Below.heap_alloc _ _ _ (by simp only[World.size_alloc];omega)];exact this
 ·have:=heap_alloc_new (((((((w.alloc o1).alloc o2).alloc o3).alloc o4).alloc o5).alloc o6).alloc o7) o8;simp only[World.size_alloc]at this;exact this
 ·have h:=Below.refl w.heap.size w;exact(((((((h.alloc lR o1).alloc (by simp only[World.size_alloc];omega) o2).alloc (by simp only[World.size_alloc];omega) o3).alloc (by simp only[World.size_alloc];omega) o4).alloc (by simp only[World.size_alloc];omega) o5).alloc (by simp only[World.size_alloc];omega) o6).alloc (by simp only[World.size_alloc];omega) o7).alloc (by simp only[World.size_alloc];omega) o8
theorem aQl{w W:World}(h:Chain8 w (.cells #[.string ⟨#[65]⟩,.string ⟨#[66]⟩,.string ⟨#[67]⟩] 9) (.cells #[.string ⟨#[83]⟩,.string ⟨#[65]⟩,.string ⟨#[66]⟩,.bool false,.bool false] 134) (.cells #[.string ⟨#[76,49]⟩,.string ⟨#[65]⟩,.string ⟨#[67]⟩,I 1000,I 1000,I 0,I 10,I 20,I 60,.string ⟨#[76,50]⟩,.string ⟨#[65]⟩,.string ⟨#[67]⟩,I 1000,I 1000,I 0,I 10,I 20,I 60] 41)
   (.cells #[.string ⟨#[71]⟩, .string ⟨#[66]⟩, I 1, I 30, I 5] 138) (.cells #[.string ⟨#[68]⟩, .string ⟨#[67]⟩, I 8] 141) W) : aRm w (cS false) (.returned (.agg #[Value.slice (some {block:=w.heap.size+1+1+1,off:=0}) 3 3,Value.slice (some {block:=w.heap.size+1+1+1+1,off:=0}) 1 1,Value.slice (some {block:=w.heap.size+1+1+1+1+1,off:=0}) 2 2,Value.slice (some {block:=w.heap.size+1+1+1+1+1+1,off:=0}) 1 1,Value.slice (some {block:=w.heap.size+1+1+1+1+1+1+1,off:=0}) 1 1,Value.slice none 0 0])) W:=⟨⟨some ⟨w.heap.size+1+1+1,0,none⟩,3,some ⟨w.heap.size+1+1+1+1,0,none⟩,1,some ⟨w.heap.size+1+1+1+1+1,0,none⟩,2,some ⟨w.heap.size+1+1+1+1+1+1,0,none⟩,1,some ⟨w.heap.size+1+1+1+1+1+1+1,0,none⟩,1,none,0⟩,rfl,⟨bN (n:=3) (sz:=1) h.a4 rfl,bN (n:=1) (sz:=5) h.a5 rfl,bN (n:=2) (sz:=9) h.a6 rfl,bN (n:=1) (sz:=5) h.a7 rfl,bN (n:=1) (sz:=3) h.a8 rfl,Reads.nil⟩,
  fun _=>aVq (n:=1) (sz:=5) h.a5 (by omega) rfl (by omega),h.below⟩
theorem jI(w:World):Calls Tryz.prog 54 #[] w (aRm w (cS false)):=by
 go_enter Tryz.func54,Tryz.ntmps54;go_wp2;refine bodyPost_ret (v:= .agg #[Value.slice (some {block:=w.heap.size+1+1+1,off:=0}) 3 3,Value.slice (some {block:=w.heap.size+1+1+1+1,off:=0}) 1 1,Value.slice (some {block:=w.heap.size+1+1+1+1+1,off:=0}) 2 2,Value.slice (some {block:=w.heap.size+1+1+1+1+1+1,off:=0}) 1 1,Value.slice (some {block:=w.heap.size+1+1+1+1+1+1+1,off:=0}) 1 1,Value.slice none 0 0]) (by simp[results,go_sem]) rfl ?_
 exact aQl (aYw w _ _ _ _ _ _ _ _)
theorem eP{s:ByteArray}(h:s.data.size≤2):s.size≤9223372036854775807:=by
 have:s.size=s.data.size:=rfl;omega
theorem aVr(o:Bool):NetOk (cS o):=by
 refine⟨fun s hs=>?_,fun s hs=>?_,fun s hs=>?_,fun s hs=>?_,fun s hs=>?_,fun s hs=>?_⟩<;>simp only[cS,List.mem_cons,List.not_mem_nil,or_false]at hs
 ·rcases hs with rfl|rfl|rfl<;>exact eP (by decide)
 ·subst hs;cases o<;>exact⟨eP (by decide),eP (by decide),eP (by decide)⟩
 ·rcases hs with rfl|rfl<;>exact⟨eP (by decide),eP (by decide),eP (by decide)⟩
 ·subst hs;exact⟨eP (by decide),eP (by decide)⟩
 ·subst hs;exact⟨eP (by decide),eP (by decide)⟩
theorem jJ{w:World}{o:Bool}{v:NetV}(h:NetIn w (cS o) v):Net w (cS o) v:=⟨h,aVr o,by simp[cS],by simp[cS],by simp[cS],by simp[cS],by simp[cS],by simp[cS]⟩
theorem aQm(n:NetD)(v:NetV)(w:World):Calls Tryz.prog 16 #[v.val n] w fun e w'=>e= .returned (.bool (jY n))∧Below w.heap.size w w':=by
 have hz:=aD w (Obj.cells (v.parts n) 29);have HG:=aH (Blk.new w 29 (v.parts n));have HB:=aH hz;clear hz;unfold NetV.val NetV.parts at*;go_enter Tryz.func16,Tryz.ntmps16;go_upto_region 1 with(fail)
 generalize w.alloc (Obj.cells #[.slice v.na n.nodes.length v.nc,.slice v.sa n.switches.length v.sc,.slice v.ba n.branches.length v.bc,.slice v.ga n.gens.length v.gc,.slice v.la n.loads.length v.lc,.slice v.ta n.stores.length v.tc] 29)=w2 at*;have x0:=HG.out.cell 0;have x1:=HG.out.cell 1;have x2:=HG.out.cell 2;have HW:=aH (show jY n=(decide ((n.nodes.length:Int)>8)||decide ((n.branches.length:Int)>10)||decide ((n.switches.length:Int)>10)) by
  unfold jY;congr 1
  ·congr 1
   ·exact decide_eq_decide.2 (by omega)
   ·exact decide_eq_decide.2 (by omega)
  ·exact decide_eq_decide.2 (by omega))
 cases d1:decide ((n.nodes.length:Int)>8)with
 |true=>
  rw[d1]at HW;go_wp2;go_ret;exact⟨by rw[HW.out];rfl,HB.out⟩
 |false=>
  rw[d1]at HW;cases d2:decide ((n.branches.length:Int)>10)with
  |true=>
   rw[d2]at HW;go_wp2;go_ret;exact⟨by rw[HW.out];rfl,HB.out⟩
  |false=>
   rw[d2]at HW;cases d3:decide ((n.switches.length:Int)>10)with
   |true=>
    rw[d3]at HW;go_wp2;go_ret;exact⟨by rw[HW.out];rfl,HB.out⟩
   |false=>
    rw[d3]at HW;go_wp2;go_ret;exact⟨by rw[HW.out];rfl,HB.out⟩
end Go.Proofs.YtenbglfkdldheaaGreatDoor
