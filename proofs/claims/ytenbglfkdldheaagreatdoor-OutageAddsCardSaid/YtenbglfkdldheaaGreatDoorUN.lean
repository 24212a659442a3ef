/- The plain functions of package netmodel. No program here. What a valid network is: plain facts. No program here. -/
import Derived.WalkKit
import Derived.Lib.SlicesS
namespace Go.Proofs.YtenbglfkdldheaaGreatDoor
def wM(i:Nat)(c:Nat):Bool:=decide (65≤c∧c≤90)||(decide (0<i)&&decide (48≤c∧c≤57))
def iD:Nat→List UInt8→Bool
 |_,[]=>true
 |i,c::cs=>wM i c.toNat&&iD (i+1) cs
def dV(s:ByteArray):Bool:=iD 0 s.data.toList&&decide (1≤s.size∧s.size≤8)
structure SwitchD where
 name:ByteArray
 a:ByteArray
 b:ByteArray
 breaker:Bool
 opn:Bool
structure BranchD where
 name:ByteArray
 src:ByteArray
 dst:ByteArray
 x:Int
 tap:Int
 shift:Int
 limit:Int
 short:Int
 hold:Int
structure GenD where
 name:ByteArray
 node:ByteArray
 least:Int
 most:Int
 ramp:Int
structure LoadD where
 name:ByteArray
 node:ByteArray
 demand:Int
structure StoreD where
 name:ByteArray
 node:ByteArray
 charge:Int
 discharge:Int
 capacity:Int
structure NetD where
 nodes:List ByteArray
 switches:List SwitchD
 branches:List BranchD
 gens:List GenD
 loads:List LoadD
 stores:List StoreD
def dW(n low high:Int):Bool:=decide (n<low∨high<n)
def bX(b:BranchD):Bool:= !(dW b.x 1 10000||dW b.tap 500 1500||dW b.shift (-1000) 1000||dW b.limit 0 100000||dW b.short b.limit 100000||dW b.hold 0 200000)
def tH(g:GenD):Bool:= !dW g.least 0 100000&& !dW g.most g.least 100000&& !dW g.ramp 0 100000
def sH(l:LoadD):Bool:= !dW l.demand 0 100000
def jZ(s:StoreD):Bool:= !dW s.charge 0 100000&& !dW s.discharge 0 100000&& !dW s.capacity 0 100000
def fB:List ByteArray→Bool
 |[a,b]=>decide (a=b)
 |_=>false
def aW(nodes seen:List ByteArray)(name:ByteArray)(ends:List ByteArray):Int×List ByteArray:=if dV name=false then(5,seen)
 else if Lib.containsS seen name=true then(7,seen)
 else if(ends.all fun e=>Lib.containsS nodes e)=false then(6,name::seen)
 else if fB ends=true then(3,name::seen)
 else(0,name::seen)
def gW(nodes:List ByteArray):List (ByteArray×List ByteArray×Bool)→List ByteArray→Int
 |[],_=>0
 |(name,ends,ok)::rest,seen=>
  if(aW nodes seen name ends).1=0 then
   if ok=true then gW nodes rest (aW nodes seen name ends).2 else 4
  else(aW nodes seen name ends).1
def NetD.items(n:NetD):List (ByteArray×List ByteArray×Bool):=n.nodes.map (fun s=>(s,[],true))++(n.switches.map (fun s=>(s.name,[s.a,s.b],true))++(n.branches.map (fun b=>(b.name,[b.src,b.dst],bX b))++ (n.gens.map (fun g=>(g.name,[g.node],tH g))++(n.loads.map (fun l=>(l.name,[l.node],sH l))++n.stores.map fun s=>(s.name,[s.node],jZ s)))))
def aX(n:NetD):Int:=if 24<n.nodes.length∨32<n.switches.length∨24<n.branches.length∨10<n.gens.length∨12<n.loads.length∨4<n.stores.length then 2
 else gW n.nodes n.items []
abbrev aZe:=ByteArray×List ByteArray×Bool
theorem aMr{nodes seen:List ByteArray}{name:ByteArray}{ends:List ByteArray}(h:(aW nodes seen name ends).1=0): dV name=true∧name∉seen∧(∀e∈ends,e∈nodes)∧fB ends=false∧(aW nodes seen name ends).2=name::seen:=by
 have ho:aW nodes seen name ends=if dV name=false then(5,seen)else if Lib.containsS seen name=true then(7,seen)else if(ends.all fun e=>Lib.containsS nodes e)=false then(6,name::seen)else if fB ends=true then(3,name::seen)else(0,name::seen):=rfl;rw[ho]at h⊢;by_cases h1:dV name=false
 ·rw[if_pos h1]at h;cases h
 ·rw[if_neg h1]at h⊢;by_cases h2:Lib.containsS seen name=true
  ·rw[if_pos h2]at h;cases h
  ·rw[if_neg h2]at h⊢;by_cases h3:(ends.all fun e=>Lib.containsS nodes e)=false
   ·rw[if_pos h3]at h;cases h
   ·rw[if_neg h3]at h⊢;by_cases h4:fB ends=true
    ·rw[if_pos h4]at h;cases h
    ·rw[if_neg h4];refine⟨by simpa using h1,fun hm=>h2 ((Lib.containsS_iff _ _).2 hm),fun e he=>?_,by simpa using h4,rfl⟩;have h5:(ends.all fun e=>Lib.containsS nodes e)=true:=by simpa using h3
     exact(Lib.containsS_iff _ _).1 (List.all_eq_true.1 h5 e he)
theorem aBw{nodes:List ByteArray}:∀{items:List aZe} {seen:List ByteArray},gW nodes items seen=0→ (∀it∈items,dV it.1=true∧it.1∉seen∧(∀e∈it.2.1,e∈nodes)∧fB it.2.1=false∧it.2.2=true)∧(items.map (·.1)).Nodup
 |[],_,_=>⟨by simp,by simp⟩
 |(name,ends,ok)::rest,seen,h=>by
  rw[gW]at h;by_cases h0:(aW nodes seen name ends).1=0
  ·rw[if_pos h0]at h;by_cases h1:ok=true
   ·rw[if_pos h1]at h;obtain⟨k1,k2,k3,k4,k5⟩:=aMr h0;rw[k5]at h;obtain⟨i1,i2⟩:=aBw h;refine⟨fun it hit=>?_,?_⟩
    ·rcases List.mem_cons.1 hit with rfl|hit
     ·exact⟨k1,k2,k3,k4,h1⟩
     ·obtain⟨j1,j2,j3⟩:=i1 it hit;exact⟨j1,fun hm=>j2 (List.mem_cons_of_mem _ hm),j3⟩
    ·rw[List.map_cons,List.nodup_cons];refine⟨fun hm=>?_,i2⟩;obtain⟨it,hit,e⟩:=List.mem_map.1 hm;obtain⟨_,j2,_⟩:=i1 it hit;exact j2 (by rw[e];exact List.mem_cons_self)
   ·rw[if_neg h1]at h;cases h
  ·rw[if_neg h0]at h;exact absurd h h0
structure VNet(n:NetD):Prop where
 hn:n.nodes.length≤24
 hw:n.switches.length≤32
 hb:n.branches.length≤24
 hg:n.gens.length≤10
 hl:n.loads.length≤12
 hs:n.stores.length≤4
 sw:∀s∈n.switches,s.a∈n.nodes∧s.b∈n.nodes∧s.a≠s.b∧dV s.name=true
 br:∀b∈n.branches,b.src∈n.nodes∧b.dst∈n.nodes∧b.src≠b.dst∧bX b=true
 ge:∀g∈n.gens,g.node∈n.nodes∧tH g=true
 lo:∀g∈n.loads,g.node∈n.nodes∧sH g=true
 st:∀g∈n.stores,g.node∈n.nodes∧jZ g=true
 nodup:(n.items.map (·.1)).Nodup
theorem tI{n:NetD}(h:aX n=0):¬(24<n.nodes.length∨32<n.switches.length∨24<n.branches.length∨10<n.gens.length∨12<n.loads.length∨4<n.stores.length)∧gW n.nodes n.items []=0:=by
 rw[aX]at h;by_cases h1:24<n.nodes.length∨32<n.switches.length∨24<n.branches.length∨10<n.gens.length∨12<n.loads.length∨4<n.stores.length
 ·rw[if_pos h1]at h;cases h
 ·rw[if_neg h1]at h;exact⟨h1,h⟩
theorem iH{n:NetD}(h:aX n=0):VNet n:=by
 obtain⟨h1,h2⟩:=tI h;obtain⟨i1,i2⟩:=aBw h2;have mem:∀it:aZe,it∈n.items↔it∈n.nodes.map (fun s=>(s,[],true))∨it∈n.switches.map (fun s=>(s.name,[s.a,s.b],true))∨it∈n.branches.map (fun b=>(b.name,[b.src,b.dst],bX b))∨it∈n.gens.map (fun g=>(g.name,[g.node],tH g))∨it∈n.loads.map (fun l=>(l.name,[l.node],sH l))∨it∈n.stores.map fun s=>(s.name,[s.node],jZ s):=by
  intro it;simp only[NetD.items,List.mem_append]
 refine⟨by omega,by omega,by omega,by omega,by omega,by omega,fun s hs=>?_,fun b hb=>?_,fun g hg=>?_,fun g hg=>?_,fun g hg=>?_,i2⟩
 ·obtain⟨k1,_,k3,k4,_⟩:=i1 _ ((mem _).2 (.inr (.inl (List.mem_map.2 ⟨s,hs,rfl⟩))));exact⟨k3 s.a (by simp),k3 s.b (by simp),by simpa[fB]using k4,k1⟩
 ·obtain⟨k1,_,k3,k4,k5⟩:=i1 _ ((mem _).2 (.inr (.inr (.inl (List.mem_map.2 ⟨b,hb,rfl⟩)))));exact⟨k3 b.src (by simp),k3 b.dst (by simp),by simpa[fB]using k4,k5⟩
 ·obtain⟨k1,_,k3,k4,k5⟩:=i1 _ ((mem _).2 (.inr (.inr (.inr (.inl (List.mem_map.2 ⟨g,hg,rfl⟩))))));exact⟨k3 g.node (by simp),k5⟩
 ·obtain⟨k1,_,k3,k4,k5⟩:=i1 _ ((mem _).2 (.inr (.inr (.inr (.inr (.inl (List.mem_map.2 ⟨g,hg,rfl⟩)))))));exact⟨k3 g.node (by simp),k5⟩
 ·obtain⟨k1,_,k3,k4,k5⟩:=i1 _ ((mem _).2 (.inr (.inr (.inr (.inr (.inr (List.mem_map.2 ⟨g,hg,rfl⟩)))))));exact⟨k3 g.node (by simp),k5⟩
end Go.Proofs.YtenbglfkdldheaaGreatDoor
