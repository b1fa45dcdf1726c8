import Derived.Test.YtbkodohojpchjaaGreatDoorDnC
import Derived.Test.YtbkodohojpchjaaGreatDoorDnB
import Derived.LaidLaws
import Derived.Deep.DeepLaidRun
import Derived.Handed
import Derived.JoinedOf
import Derived.KernelRfl
/-
  Maps as lists of entries: what is there behind a store. Conditions: none.
-/
set_option linter.unusedVariables false
set_option linter.unusedSimpArgs false
open Bool renaming false_eq_true→c9,false_or→AI
open Char renaming ofNat→sh
namespace Dn
open Go
end Dn
/-
  A state in which variables of packages have given data. Conditions: none.
-/
namespace Dn
open Go
def cellsD:Nat->DataW Unit->List Value
 |n+1,.agg ds=>ds.flatMap (cellsD n)
 |_,.lit (.int k v)=>[.int k v]
 |_,_=>[]
def XR (cs:Array Value):Obj->Obj
 | .cells _ t z=> .cells cs t z
 |o=>o
def Kz (P:Program):List (String×DataW Unit)->Array Obj->Array Obj
 |[],h=>h
 |x::r,h=>match P.globalNamed x.1 with
  |some g=>Kz P r (h.modify g (XR (cellsD 4 x.2).toArray))
  |none=>Kz P r h
noncomputable def amN (P:Program)(l:List (String×DataW Unit))(os:Os)(args:Array Value):World:={World.holding P os ⟨#[],args,[]⟩ with heap:=Kz P l (World.holding P os ⟨#[],args,[]⟩).heap}
theorem RO {a b:Bool}(h1:a=true)(h2:b=true):(a&&b)=true:=by rw [h1,h2];rfl
def BX:List Char:=[99,117,116].map sh
theorem amO:(BX== "gc".toList)=false:=by kernel_rfl
theorem afo:(BX== "spec".toList)=false:=by kernel_rfl
theorem aiZ:(BX== "cut".toList)=true:=by kernel_rfl
theorem Ud:(BX== "carried".toList)=false:=by kernel_rfl
section
variable {P:Program}{L:List (List Char)}{ns:List Nat}
theorem MX (h:P.initOrder=String.ofList (ns.map sh)):P.initOrder.toList=ns.map sh:=by rw [h,String.toList_ofList]
theorem afp {h s:List Char}(e:wordsSigns P.initOrder.toList=h::s::L)(h1:isSumSigns s=true)(h2:(h== "harness".toList)=true):P.mainIs=some (true,s):=by unfold Program.mainIs;rw [e];simp only [h1,h2,Bool.not_true,c9,if_false,if_true]
theorem afq (e:behindMainWord (wordsSigns P.initOrder.toList)=BX::L):P.make=some .cut:=by unfold Program.make;rw [e];simp only [amO,afo,aiZ,Bool.or_false,c9,if_false,Bool.true_or,if_true]
theorem ab2 (e:behindMainWord (wordsSigns P.initOrder.toList)=BX::L)(h1:(stripLifts liftWords (BX::L)).1=[])(h2:((stripLifts liftWords (BX::L)).2.head? ==some "cut".toList)=true)
 (h3:P.doorFits []=true) (h4:P.laysLater=false) (h5:P.bearsReflect=false):P.mayEnter=true:=by
 unfold Program.mayEnter;rw [e];simp only [h1,h2,h3,h4,h5,List.contains_nil,AI,Bool.not_false,Bool.true_and,Bool.and_true,Bool.or_true]
theorem ab7 (e:behindMainWord (wordsSigns P.initOrder.toList)=BX::L)(h1:(stripLifts liftWords (BX::L)).1=[]):P.liftsFinal=false:=by
 unfold Program.liftsFinal Program.headLifts;rw [e]
 have h0:((BX::L).head? ==some "carried".toList)=false:=by simp only [List.head?_cons];have:=Ud;simpa using this
 simp only [h0,h1,Bool.false_and,AI];split<;>rfl
theorem afr {c:OpenClaim}(h:P.make=some .cut)(hc:c.make= .cut):(P.make==some c.make)=true:=by rw [h,hc];rfl
theorem ab8 {c:OpenClaim}(h:P.liftsFinal=false)(hc:c.lifted=false):(c.lifted==P.liftsFinal)=true:=by rw [h,hc];rfl
end
end Dn
