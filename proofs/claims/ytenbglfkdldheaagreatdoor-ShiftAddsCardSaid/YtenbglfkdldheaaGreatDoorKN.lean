/- The plain functions of package netmodel. No program here. What a valid network is: plain facts. No program here. -/
import Derived.WalkKit
import Derived.Lib.SlicesS
namespace Go.Proofs.YtenbglfkdldheaaGreatDoor
def vM(i:Nat)(c:Nat):Bool:=decide (65≤c∧c≤90)||(decide (0<i)&&decide (48≤c∧c≤57))
def iD:Nat→List UInt8→Bool
 |_,[]=>true
 |i,c::cs=>vM i c.toNat&&iD (i+1) cs
def dK(s:ByteArray):Bool:=iD 0 s.data.toList&&decide (1≤s.size∧s.size≤8)
structure SwitchD where
 name:ByteArray
 a:ByteArray
 b:ByteArray
 breaker:Bool
 opn:Bool
structure BranchD where
 name:ByteArray
 src:ByteArray
 dst:ByteArray
 x:Int
 tap:Int
 shift:Int
 limit:Int
 short:Int
 hold:Int
structure GenD where
 name:ByteArray
 node:ByteArray
 least:Int
 most:Int
 ramp:Int
structure LoadD where
 name:ByteArray
 node:ByteArray
 demand:Int
structure StoreD where
 name:ByteArray
 node:ByteArray
 charge:Int
 discharge:Int
 capacity:Int
structure NetD where
 nodes:List ByteArray
 switches:List SwitchD
 branches:List BranchD
 gens:List GenD
 loads:List LoadD
 stores:List StoreD
def dN(n low high:Int):Bool:=decide (n<low∨high<n)
def bV(b:BranchD):Bool:= !(dN b.x 1 10000||dN b.tap 500 1500||dN b.shift (-1000) 1000||dN b.limit 0 100000||dN b.short b.limit 100000||dN b.hold 0 200000)
def sP(g:GenD):Bool:= !dN g.least 0 100000&& !dN g.most g.least 100000&& !dN g.ramp 0 100000
def rT(l:LoadD):Bool:= !dN l.demand 0 100000
def kA(s:StoreD):Bool:= !dN s.charge 0 100000&& !dN s.discharge 0 100000&& !dN s.capacity 0 100000
def eQ:List ByteArray→Bool
 |[a,b]=>decide (a=b)
 |_=>false
def aS(nodes seen:List ByteArray)(name:ByteArray)(ends:List ByteArray):Int×List ByteArray:=if dK name=false then(5,seen)
 else if Lib.containsS seen name=true then(7,seen)
 else if(ends.all fun e=>Lib.containsS nodes e)=false then(6,name::seen)
 else if eQ ends=true then(3,name::seen)
 else(0,name::seen)
def gX(nodes:List ByteArray):List (ByteArray×List ByteArray×Bool)→List ByteArray→Int
 |[],_=>0
 |(name,ends,ok)::rest,seen=>
  if(aS nodes seen name ends).1=0 then
   if ok=true then gX nodes rest (aS nodes seen name ends).2 else 4
  else(aS nodes seen name ends).1
def NetD.items(n:NetD):List (ByteArray×List ByteArray×Bool):=n.nodes.map (fun s=>(s,[],true))++(n.switches.map (fun s=>(s.name,[s.a,s.b],true))++(n.branches.map (fun b=>(b.name,[b.src,b.dst],bV b))++ (n.gens.map (fun g=>(g.name,[g.node],sP g))++(n.loads.map (fun l=>(l.name,[l.node],rT l))++n.stores.map fun s=>(s.name,[s.node],kA s)))))
def aT(n:NetD):Int:=if 24<n.nodes.length∨32<n.switches.length∨24<n.branches.length∨10<n.gens.length∨12<n.loads.length∨4<n.stores.length then 2
 else gX n.nodes n.items []
abbrev aXj:=ByteArray×List ByteArray×Bool
theorem aLa{nodes seen:List ByteArray}{name:ByteArray}{ends:List ByteArray}(h:(aS nodes seen name ends).1=0): dK name=true∧name∉seen∧(∀e∈ends,e∈nodes)∧eQ ends=false∧(aS nodes seen name ends).2=name::seen:=by
 have ho:aS nodes seen name ends=if dK name=false then(5,seen)else if Lib.containsS seen name=true then(7,seen)else if(ends.all fun e=>Lib.containsS nodes e)=false then(6,name::seen)else if eQ ends=true then(3,name::seen)else(0,name::seen):=rfl;rw[ho]at h⊢;by_cases h1:dK name=false
 ·rw[if_pos h1]at h;cases h
 ·rw[if_neg h1]at h⊢;by_cases h2:Lib.containsS seen name=true
  ·rw[if_pos h2]at h;cases h
  ·rw[if_neg h2]at h⊢;by_cases h3:(ends.all fun e=>Lib.containsS nodes e)=false
   ·rw[if_pos h3]at h;cases h
   ·rw[if_neg h3]at h⊢;by_cases h4:eQ ends=true
    ·rw[if_pos h4]at h;cases h
    ·rw[if_neg h4];refine⟨by simpa using h1,fun hm=>h2 ((Lib.containsS_iff _ _).2 hm),fun e he=>?_,by simpa using h4,rfl⟩;have h5:(ends.all fun e=>Lib.containsS nodes e)=true:=by simpa using h3
     exact(Lib.containsS_iff _ _).1 (List.all_eq_true.1 h5 e he)
theorem aAp{nodes:List ByteArray}:∀{items:List aXj} {seen:List ByteArray},gX nodes items seen=0→ (∀it∈items,dK it.1=true∧it.1∉seen∧(∀e∈it.2.1,e∈nodes)∧eQ it.2.1=false∧it.2.2=true)∧(items.map (·.1)).Nodup
 |[],_,_=>⟨by simp,by simp⟩
 |(name,ends,ok)::rest,seen,h=>by
  rw[gX]at h;by_cases h0:(aS nodes seen name ends).1=0
  ·rw[if_pos h0]at h;by_cases h1:ok=true
   ·rw[if_pos h1]at h;obtain⟨k1,k2,k3,k4,k5⟩:=aLa h0;rw[k5]at h;obtain⟨i1,i2⟩:=aAp h;refine⟨fun it hit=>?_,?_⟩
    ·rcases List.mem_cons.1 hit with rfl|hit
     ·exact⟨k1,k2,k3,k4,h1⟩
     ·obtain⟨j1,j2,j3⟩:=i1 it hit;exact⟨j1,fun hm=>j2 (List.mem_cons_of_mem _ hm),j3⟩
    ·rw[List.map_cons,List.nodup_cons];refine⟨fun hm=>?_,i2⟩;obtain⟨it,hit,e⟩:=List.mem_map.1 hm;obtain⟨_,j2,_⟩:=i1 it hit;exact j2 (by rw[e];exact List.mem_cons_self)
   ·rw[if_neg h1]at h;cases h
  ·rw[if_neg h0]at h;exact absurd h h0
structure VNet(n:NetD):Prop where
 hn:n.nodes.length≤24
 hw:n.switches.length≤32
 hb:n.branches.length≤24
 hg:n.gens.length≤10
 hl:n.loads.length≤12
 hs:n.stores.length≤4
 sw:∀s∈n.switches,s.a∈n.nodes∧s.b∈n.nodes∧s.a≠s.b∧dK s.name=true
 br:∀b∈n.branches,b.src∈n.nodes∧b.dst∈n.nodes∧b.src≠b.dst∧bV b=true
 ge:∀g∈n.gens,g.node∈n.nodes∧sP g=true
 lo:∀g∈n.loads,g.node∈n.nodes∧rT g=true
 st:∀g∈n.stores,g.node∈n.nodes∧kA g=true
 nodup:(n.items.map (·.1)).Nodup
theorem sQ{n:NetD}(h:aT n=0):¬(24<n.nodes.length∨32<n.switches.length∨24<n.branches.length∨10<n.gens.length∨12<n.loads.length∨4<n.stores.length)∧gX n.nodes n.items []=0:=by
 rw[aT]at h;by_cases h1:24<n.nodes.length∨32<n.switches.length∨24<n.branches.length∨10<n.gens.length∨12<n.loads.length∨4<n.stores.length
 ·rw[if_pos h1]at h;cases h
 ·rw[if_neg h1]at h;exact⟨h1,h⟩
theorem aAq{n:NetD}(h:aT n=0):VNet n:=by
 obtain⟨h1,h2⟩:=sQ h;obtain⟨i1,i2⟩:=aAp h2;have mem:∀it:aXj,it∈n.items↔it∈n.nodes.map (fun s=>(s,[],true))∨it∈n.switches.map (fun s=>(s.name,[s.a,s.b],true))∨it∈n.branches.map (fun b=>(b.name,[b.src,b.dst],bV b))∨it∈n.gens.map (fun g=>(g.name,[g.node],sP g))∨it∈n.loads.map (fun l=>(l.name,[l.node],rT l))∨it∈n.stores.map fun s=>(s.name,[s.node],kA s):=by
  intro it;simp only[NetD.items,List.mem_append]
 refine⟨by omega,by omega,by omega,by omega,by omega,by omega,fun s hs=>?_,fun b hb=>?_,fun g hg=>?_,fun g hg=>?_,fun g hg=>?_,i2⟩
 ·obtain⟨k1,_,k3,k4,_⟩:=i1 _ ((mem _).2 (.inr (.inl (List.mem_map.2 ⟨s,hs,rfl⟩))));exact⟨k3 s.a (by simp),k3 s.b (by simp),by simpa[eQ]using k4,k1⟩
 ·obtain⟨k1,_,k3,k4,k5⟩:=i1 _ ((mem _).2 (.inr (.inr (.inl (List.mem_map.2 ⟨b,hb,rfl⟩)))));exact⟨k3 b.src (by simp),k3 b.dst (by simp),by simpa[eQ]using k4,k5⟩
 ·obtain⟨k1,_,k3,k4,k5⟩:=i1 _ ((mem _).2 (.inr (.inr (.inr (.inl (List.mem_map.2 ⟨g,hg,rfl⟩))))));exact⟨k3 g.node (by simp),k5⟩
 ·obtain⟨k1,_,k3,k4,k5⟩:=i1 _ ((mem _).2 (.inr (.inr (.inr (.inr (.inl (List.mem_map.2 ⟨g,hg,rfl⟩)))))));exact⟨k3 g.node (by simp),k5⟩
 ·obtain⟨k1,_,k3,k4,k5⟩:=i1 _ ((mem _).2 (.inr (.inr (.inr (.inr (.inr (List.mem_map.2 ⟨g,hg,rfl⟩)))))));exact⟨k3 g.node (by simp),k5⟩
end Go.Proofs.YtenbglfkdldheaaGreatDoor
