import Derived.Test.YtbkodohojpchjaaGreatDoorDnC
import Derived.Control
import Derived.Lib.SlTrimSet
import Derived.Lib.Bytealg
import Derived.Shelf.Strings.Split
import Derived.Shelf.Strings.SlTrimAscii
import Derived.Shelf.Strings.Runes
import Derived.Lib.IndexBytes
import Derived.Test.YtbkodohojpchjaaGreatDoorDnB
import Derived.Maps.RangeRun
import Derived.ScopeJumps
import Derived.LaidLaws
import Derived.Deep.DeepLaidRun
import Derived.Handed
import Derived.JoinedOf
import Derived.KernelRfl
/-
  slices.Delete of the library, walked. Conditions: none.
-/
set_option linter.unusedSimpArgs false
set_option linter.unusedVariables false
open Option.some renaming injEq→aQ,inj→adM
open List renaming range→sh,length_take→AS,length_append→By,length_drop→aag,getElem?_drop→aah,getElem?_eq_some_iff→aam,getElem?_eq_getElem→aap,take_append_of_le_length→aau,getElem?_take→aav,drop_of_length_le→aaw,getElem_mem→aaU,all_eq_true→aa0,getElem?_take_of_lt→aa6,size_toArray→abe,append_assoc→abg,take_of_length_le→abh,mem_cons→abw,eq_nil_of_length_eq_zero→abC,mem_iff_getElem→abG,drop_drop→abW,getElem?_map→ab0,getElem?_cons_zero→ab1,take_append_drop→ab5,mem_of_mem_drop→aca,take_take→acj,take_left→acv,mem_singleton→ac7,take_length→adD,any_eq_true→adE,drop_left→adN,map_cons→adT,take→adU,map_map→adY
open Bool renaming false_eq_true→AI,and_eq_true→IN,not_false→acA,false_or→ac6,not_eq_true'→adu,not_true→adR
open Go.Next renaming value→AT
open Go.Result renaming ok→BY
open Nat renaming le_refl→IT,le_of_ble_eq_true→No,eq_of_beq_eq_true→aal,ble→aaD,mul_le_mul_right→aaL,zero_le→aaN,zero_add→aaP,succ_mul→aaW,lt_of_lt_of_le→aa8,le_trans→abj,beq→abv,sub_mul→ab9,add_mul→acd,add_comm→adb,min_eq_left→adL
open Go.World renaming block_lt_of_cell?→OF,cell?_of_block→acx,setRow→ada
open Array renaming replicate→aaa,getElem?_eq_some_iff→aad,length_toList→aae,getElem?_append→aak,getElem?_replicate→aa4,getElem?_toList→abr,toList_inj→adF
open Go.Value renaming pointer→aab,bool→aac,int→aaf,ownBlock→aai,string→abV,slice→abZ,agg→acF,cells→adG
open Go.Lib renaming countB→aaj,index→aat,setCells→abn,size_eq→abF,splitB→abY
open Go.Builtin renaming zeroCells→aan,clear_→abc,append_→adJ
open Go.Region renaming wanted→aao,ready→aaO,noSelect→adH
open Go.Deferred renaming ofValue→aas
open Prod.mk renaming injEq→aaE
open Go.Instr renaming loadAt→aa1,sureAddr→acB,sliceBounds→ac9,sliceBound→adC,sliceAt→adP,indexAt→adQ,slice→adZ
open Go.Code renaming region→abA,wp_mono→adW
open ByteArray renaming empty→abH
open Int renaming toNat_of_nonneg→abI
open Go.Proofs renaming enters_of→abL
open Go.Addr renaming add_mid→abU
open Go.Proofs.Any renaming strings_ContainsRune_ascii→ab8
open Go renaming sizeOf→acC
open Go.Value.pointer renaming injEq→acL
open Go.Proofs.Lays renaming n146→acP,n160→ad0,n151→ad1
open Go.Oper renaming upon_value→adI,wp→adV
open List.cons renaming injEq→adK
open Char renaming ofNat→adO
open Go.Addr.mk renaming injEq→adS
open Go.IntKind renaming wrap→adX
namespace Dn
open Go
structure dn (o:Oper) (op:Op):Prop where
 dst:o.dst=none
 op:o.op=op
 guard:o.guard=none
section
variable {P:Program}{Q:Exit->Act->World->Prop}{ops:Array Oper}{o:Oper}{a:Act} {w w':World}{n:Nat} {σ:Nat->Value}
theorem Tm.WY {i:Nat}{op:Op}{rest:List Nat}{v:Value}(af:Tm a n σ)(hi:ops[i]? =some o)(ho:dn o op)(aV:(execOp (ev σ) o).run P w= .ok (.value v) w')(h:wpOps P ops Q rest a w'):wpOps P ops Q (i::rest) a w:=by refine n7 hi ho.guard (v:=v) (w':=w') (by rw [af.eval];exact aV) ?_;rw [ho.dst];exact h
def Bz (ops:Array Oper):Nat->Nat->Array Bool->Bool
 |0,i,listed=>(aaO .any ops listed==[i])&&(aaO .any ops (listed.setIfInBounds i true)==[i+1])&&(aaO .any ops ((listed.setIfInBounds i true).setIfInBounds (i+1) true)).isEmpty
 |k+1,i,listed=>Region.free .any ops listed i&&(aaO .any ops listed).contains i&&Bz ops k (i+1) (listed.setIfInBounds i true)
def Lb (ops:Array Oper):Bool:=adH ops&&Nat.blt 1 ops.size&&Bz ops (ops.size-2) 0 (aaa ops.size false)
structure GP (ops:Array Oper) (k i:Nat) (listed:Array Bool):Prop where
 sel:adH ops=true
 ord:Bz ops k i listed=true
theorem Tm.Fc {N:Act->World->Prop}{i d:Nat}{op:Op}{k:Nat}{listed:Array Bool}{v:Value}(af:Tm a n σ)(hi:ops[i]? =some o)(ho:ae o d op)(hd:d<n)(hb:GP ops (k+1) i listed)(aV: ∀w,(execOp (ev σ) o).run P w= .ok (.value v) w)(h: ∀a',Tm a' n (kR σ d v)->GP ops k (i+1) (listed.setIfInBounds i true)->wpAny P .any ops (jB N) (k+2) (listed.setIfInBounds i true) a' w):wpAny P .any ops (jB N) (k+3) listed a w:=by obtain ⟨hs,hb⟩:=hb;simp only [Bz,IN] at hb;obtain ⟨⟨h1,h2⟩,h3⟩:=hb;refine wpAny_take hi hs h1 h2 (λc a w hq=>hq.elim) (v:=v) (.inl ⟨by simp [aao,ho.guard],λw=>by rw [af.eval];exact aV w⟩) ?_;rw [ho.dst];exact h _ (af.put hd v) ⟨hs,h3⟩
theorem Tm.acg {N:Act->World->Prop}{i d d2:Nat}{op op2:Op}{o2:Oper}{listed:Array Bool}{v v2:Value}(af:Tm a n σ)(hi:ops[i]? =some o)(ho:ae o d op)(hd:d<n)(KA:ops[i+1]? =some o2)(bJ:ae o2 d2 op2)(WR:d2<n)(hb:GP ops 0 i listed)(aV:(execOp (ev σ) o).run P w= .ok (.value v) w')(E1:(execOp (ev (kR σ d v)) o2).run P w'= .ok (.value v2) w')(h: ∀a',Tm a' n (kR (kR σ d v) d2 v2)->N a' w'):wpAny P .any ops (jB N) 2 listed a w:=by obtain ⟨hs,hb⟩:=hb;simp only [Bz,IN,List.isEmpty_iff,beq_iff_eq] at hb;obtain ⟨⟨h1,h2⟩,h3⟩:=hb;refine wpAny_all h1 (by simp) ?_;intro j hj;simp only [ac7] at hj;subst hj;unfold wpOp;simp only [hi,aao,ho.guard,if_true];left;unfold adV;rw [af.eval,aV,adI,ho.dst];have Ru:=af.put hd v;refine wpAny_all h2 (by simp) ?_;intro q hq;simp only [ac7] at hq;subst hq;unfold wpOp;simp only [KA,aao,bJ.guard,if_true];left;unfold adV;rw [Ru.eval,E1,adI,bJ.dst];exact wpAny_done h3 (h _ (Ru.put WR v2)) 0
theorem Rv {id k:Nat}(hm:P.follows .mixedOrders=true)(hb:Lb ops=true)(hk:ops.size=k+2)(h:GP ops k 0 (aaa (k+2) false)->wpAny P .any ops (jB λa w=>Q .normal a w) (k+2) (aaa (k+2) false) a {w with drawn:=w.drawn+1}): (abA id ops true).wp P Q a w:=by simp only [Lb,IN] at hb;rw [hk] at hb;refine adW ?_ (wp_region_any (Q:=jB λa w=>Q .normal a w) hm (by rw [hk];exact h ⟨hb.1.1,hb.2⟩));intro x a' w' hx;cases x<;>first|exact hx|exact hx.elim
theorem Fe {d:Nat}{t el:TypeId}{x y z m3:Operand}{e:Operand->Value}{ad:Option Addr}{m c l h k:Nat}{i:TypeInfo}(ho:ae o d (.slice t x (some y) (some z) (some m3)))(hu:P.underlying t=some (.slice el))(hi:P.info? el=some i)(hx:e x= .slice ad m c)(hy:e y= .int .i64 l)(hz:e z= .int .i64 h)(hm:e m3= .int .i64 k)(h1:l<=h)(h2:h<=k)(h3:k<=c)(w:World):(execOp e o).run P w= .ok (.value (.slice (if k=l then ad else ad.map (·.add (l *i.size))) (h-l) (k-l))) w:=by simp [execOp,ho.op,adP,adZ,run_underlying hu,hx,hy,hz,hm,acC,typeInfo,hi,ac9,adC,asIntOf,h1,h2,h3]
theorem IW {d:Nat}{t el:TypeId}{x y z:Operand}{e:Operand->Value}{ad:Option Addr}{m c l h size:Nat}{i:TypeInfo}(ho:ae o d (.slice t x (some y) (some z) none))(hu:P.underlying t=some (.slice el))(hi:P.info? el=some i)(hs:i.size=size)(hx:e x= .slice ad m c)(hy:e y= .int .i64 l)(hz:e z= .int .i64 h)(h1:l<=h)(h2:h<=c)(w:World):(execOp e o).run P w= .ok (.value (.slice (if c=l then ad else ad.map (·.add (l *size))) (h-l) (c-l))) w:=by simp [execOp,ho.op,adP,adZ,run_underlying hu,hx,hy,hz,acC,typeInfo,hi,hs,ac9,adC,asIntOf,h1,h2]
theorem Mp {x:Operand}{t1:TypeId}{e:Operand->Value}{v1 v:Value}(ho:dn o (.call {callee:= .builtin .clear,args:= #[x],argTypes:= #[t1]})) (hx:e x=v1) (h:(abc #[t1] o.type #[v1]).run P w= .ok v w'):(execOp e o).run P w= .ok (.value v) w':=by simp [execOp,ho.op,resolve,invoke,builtin,hx,h]
theorem sn {t ty elem t2:TypeId}{g off n c size:Nat}{z:Value}{bU:Array Value}{i:TypeInfo}(hu:P.underlying t=some (.slice elem))(hi:P.info? elem=some i)(hz:i.zero=some z)(Ds:z.cells.size=size)(h1: ∀v∈z.cells.toList,v.oneCell'=true)(hg:w.heap[g]? =some (.cells bU t2 (0,0)))(hn:0<n)(q0:off+n *size<=bU.size): ∃zs:List Value,zs.length=n *size/\(abc #[t] ty #[.slice (some ⟨g,off,none⟩) n c]).run P w= .ok (.tuple #[]) (w.setRow g (bU.toList.take off++zs++bU.toList.drop (off+zs.length)).toArray):=by
 refine ⟨(aan z.cells n).toList,?_,?_⟩
 ·simp [aan,Ds]
 ·have hl:(aan z.cells n).toList.length=n *size:=by simp [aan,Ds]
  have cu:=run_storeCells_at P g off t2 (aan z.cells n).toList 0 bU w hg (by rw [hl];simpa using q0) (by
   intro v hv;simp only [aan,Array.toList_map,List.mem_map,Array.mem_toList_iff,Array.mem_range] at hv;obtain ⟨j,hj,rfl⟩:=hv;have cU:0<z.cells.size:=by
    rcases Nat.eq_zero_or_pos z.cells.size with h0|h0
    ·rw [h0] at hj;omega
    ·exact h0
   have cz:j%z.cells.size<z.cells.size:=Nat.mod_lt _ cU;rw [getElem!_pos z.cells _ cz];exact h1 _ (by simp))
  simp only [Nat.add_zero] at cu;obtain ⟨m,rfl⟩: ∃m,n=m+1:=⟨n-1,by omega⟩
  simp [abc,run_underlying hu,zeroValue,typeInfo,hi,hz,cu]
end
theorem dp {w:World}{g:Nat}{bU:Array Value}{t:TypeId}{fr:Nat×Nat}(cs:Array Value)(hg:w.heap[g]? =some (.cells bU t fr)):(w.setRow g cs).heap[g]? =some (.cells cs t fr):=by simp [ada,Array.getElem?_modify,hg]
def wo (r:Nat->Nat)(o:Nat->Oper):Code:= .seq (.region (r 0) #[o 0] false) (.seq (.region (r 1) #[o 1,o 2,o 3,o 4,o 5,o 6] false) (.seq (.seq (.region (r 2) #[o 7,o 8,o 9] false) (.cond (.tmp 16) (.seq (.region (r 3) #[o 10,o 11] false) .ret) .skip)) (.seq (.region (r 4) #[o 12,o 13,o 14] false) (.seq (.region (r 5) #[o 15,o 16,o 17,o 18,o 19,o 20,o 21,o 22] true) (.seq (.region (r 6) #[o 23,o 24,o 25,o 26,o 27,o 28] false) (.seq (.region (r 7) #[o 29,o 30] false) .ret))))))
structure YL (t ti:Nat) (o:Nat->Oper):Prop where
 h0:ae (o 0) 6 (.assign (.const (.slice none 0 0)))
 h1:ae (o 1) 8 (.move (.tmp 0))
 h2:ae (o 2) 9 (.move (.tmp 1))
 h3:ae (o 3) 10 (.move (.tmp 2))
 h4:ae (o 4) 11 (.move (.tmp 0))
 h5:ae (o 5) 12 (.call {callee:= .builtin .len,args:= #[.tmp 11],argTypes:= #[t]})
 h6:ae (o 6) 13 (.slice t (.tmp 8) (some (.tmp 9)) (some (.tmp 10)) (some (.tmp 12)))
 h7:ae (o 7) 14 (.move (.tmp 1))
 h8:ae (o 8) 15 (.move (.tmp 2))
 h9:ae (o 9) 16 (.binOp .eql ti (.tmp 14) (.tmp 15) ti)
 rb:ae (o 10) 17 (.move (.tmp 0))
 yU:ae (o 11) 6 (.assign (.tmp 17))
 yV:ae (o 12) 18 (.move (.tmp 0))
 yW:ae (o 13) 19 (.call {callee:= .builtin .len,args:= #[.tmp 18],argTypes:= #[t]})
 yX:ae (o 14) 7 (.assign (.tmp 19))
 yY:ae (o 15) 20 (.move (.tmp 0))
 yZ:ae (o 16) 21 (.move (.tmp 1))
 Dt:ae (o 17) 22 (.slice t (.tmp 20) none (some (.tmp 21)) none)
 GL:ae (o 18) 23 (.move (.tmp 0))
 HB:ae (o 19) 24 (.move (.tmp 2))
 HC:ae (o 20) 25 (.slice t (.tmp 23) (some (.tmp 24)) none none)
 E6:ae (o 21) 26 (.call {callee:= .builtin .append,args:= #[.tmp 22,.tmp 25],argTypes:= #[t,t]})
 E7:ae (o 22) 0 (.assign (.tmp 26))
 E8:ae (o 23) 27 (.move (.tmp 0))
 E9:ae (o 24) 28 (.move (.tmp 0))
 Fa:ae (o 25) 29 (.call {callee:= .builtin .len,args:= #[.tmp 28],argTypes:= #[t]})
 IU:ae (o 26) 30 (.move (.tmp 7))
 K6:ae (o 27) 31 (.slice t (.tmp 27) (some (.tmp 29)) (some (.tmp 30)) none)
 K7:dn (o 28) (.call {callee:= .builtin .clear,args:= #[.tmp 31],argTypes:= #[t]})
 K8:ae (o 29) 32 (.move (.tmp 0))
 IV:ae (o 30) 6 (.assign (.tmp 32))
 d5:Lb #[o 15,o 16,o 17,o 18,o 19,o 20,o 21,o 22]=true
structure IX (P:Program) (f t ti el:Nat) (fn:Func) (r:Nat->Nat) (o:Nat->Oper):Prop where
 pos:P.funcs[f]? =some fn
 name:(fn.name== "runtime.NumGoroutine")=false
 tmps:fn.ntmps=33
 res:fn.results= #[.tmp 6]
 body:fn.body=some (wo r o)
 ops:YL t ti o
 WW:P.follows .mixedOrders=true
 pI:P.underlying t=some (.slice el)
section
variable {P:Program}{f t ti el:Nat}{fn:Func}{r:Nat->Nat}{o:Nat->Oper}{ie:TypeInfo}{size n c i j g:Nat}{ad:Option Addr}{w:World}
theorem Mq {a:Act}{w:World} {σ:Nat->Value}{R:Ending->World->Prop}{v:Value}(hr:fn.results= #[.tmp 6])(af:Tm a 33 σ)(h6:σ 6=v)(h:R (.returned v) w):bodyPost P fn R .ret a w:=by
 refine ⟨af.defers,v,?_,h⟩;have h2:a.tmps[6]?.getD undef=v:=by have:=af.get 6;rw [h6] at this;simpa using this
 simp [results,hr,h2]
theorem Rw (hf:IX P f t ti el fn r o)(jW:P.info? el=some ie)(hn:n<=c)(hi:i<=n): Calls P f #[.slice ad n c,.int .i64 ((i:Nat):Int),.int .i64 ((i:Nat):Int)] w λx w'=>x= .returned (.slice ad n c)/\w'=w:=by
 refine calls_of_wp hf.pos hf.body ?_;rw [hf.tmps];have key: ∀a:Act,Tm a 33 (kR (kR (kR (λ_=>undef) 0 (.slice ad n c)) 1 (.int .i64 ((i:Nat):Int))) 2 (.int .i64 ((i:Nat):Int)))->(wo r o).wp P (bodyPost P fn λx w'=>x= .returned (.slice ad n c)/\w'=w) a w:=by intro a af;unfold wo;refine wp_seq (wp_region ?_);rw [show sh (#[o 0]:Array Oper).size=[0] from rfl];refine af.step (v:= .slice none 0 0) rfl hf.ops.h0 (by decide) (aZ hf.ops.h0 _) (λa af=> ?_);refine wp_seq (wp_region ?_);rw [show sh (#[o 1,o 2,o 3,o 4,o 5,o 6]:Array Oper).size=[0,1,2,3,4,5] from rfl];refine af.step (v:= .slice ad n c) rfl hf.ops.h1 (by decide) (aj hf.ops.h1 _) (λa af=> ?_);refine af.step (v:= .int .i64 ((i:Nat):Int)) rfl hf.ops.h2 (by decide) (aj hf.ops.h2 _) (λa af=> ?_);refine af.step (v:= .int .i64 ((i:Nat):Int)) rfl hf.ops.h3 (by decide) (aj hf.ops.h3 _) (λa af=> ?_);refine af.step (v:= .slice ad n c) rfl hf.ops.h4 (by decide) (aj hf.ops.h4 _) (λa af=> ?_);refine af.step (v:= .int .i64 ((n:Nat):Int)) rfl hf.ops.h5 (by decide) (gX hf.ops.h5 hf.pI rfl _) (λa af=> ?_);refine af.step rfl hf.ops.h6 (by decide) (Fe hf.ops.h6 hf.pI jW rfl rfl rfl rfl (IT _) hi hn _) (λa af=> ?_);refine wp_seq ?_;refine wp_seq (wp_region ?_);rw [show sh (#[o 7,o 8,o 9]:Array Oper).size=[0,1,2] from rfl];refine af.step (v:= .int .i64 ((i:Nat):Int)) rfl hf.ops.h7 (by decide) (aj hf.ops.h7 _) (λa af=> ?_);refine af.step (v:= .int .i64 ((i:Nat):Int)) rfl hf.ops.h8 (by decide) (aj hf.ops.h8 _) (λa af=> ?_);refine af.step (v:= .bool (decide (((i:Nat):Int)=((i:Nat):Int)))) rfl hf.ops.h9 (by decide) (iV hf.ops.h9 rfl rfl _) (λa af=> ?_);refine af.cond (b:=true) (by show aac (decide (((i:Nat):Int)=((i:Nat):Int)))=_;rw [decide_eq_true rfl]) ?_;simp only [if_true];refine wp_seq (wp_region ?_);rw [show sh (#[o 10,o 11]:Array Oper).size=[0,1] from rfl];refine af.step (v:= .slice ad n c) rfl hf.ops.rb (by decide) (aj hf.ops.rb _) (λa af=> ?_);refine af.step (v:= .slice ad n c) rfl hf.ops.yU (by decide) (aZ hf.ops.yU _) (λa af=> ?_);refine wp_ret ?_;show bodyPost P fn (λx wq=>x= .returned (.slice ad n c)/\wq=w) .ret a w;refine Mq hf.res af (v:= .slice ad n c) rfl ?_;exact ⟨rfl,rfl⟩
 exact key _ (tm3 _ _ _ 30)
theorem Rx (hf:IX P f t ti el fn r o)(jW:P.info? el=some ie)(n8:ie.size=size)(hn:n<=c)(Wp:i<j)(hj:j<=n){w1 w2:World}(hA: ∀ty,(adJ #[t,t] ty #[.slice (some ⟨g,0,none⟩) i c,.slice (if c=j then (some ⟨g,0,none⟩:Option Addr) else some ⟨g,j *size,none⟩) (n-j) (c-j)]).run P {w with drawn:=w.drawn+1}= .ok (.slice (some ⟨g,0,none⟩) (i+(n-j)) c) w1) (hC: ∀ty,(abc #[t] ty #[.slice (some ⟨g,(i+(n-j)) *size,none⟩) (n-(i+(n-j))) (c-(i+(n-j)))]).run P w1= .ok (.tuple #[]) w2): Calls P f #[.slice (some ⟨g,0,none⟩) n c,.int .i64 ((i:Nat):Int),.int .i64 ((j:Nat):Int)] w λx w'=>x= .returned (.slice (some ⟨g,0,none⟩) (i+(n-j)) c)/\w'=w2:=by
 refine calls_of_wp hf.pos hf.body ?_;rw [hf.tmps];have h0: ∀l:Nat,(⟨g,0,none⟩:Addr).add l=⟨g,l,none⟩:=λl=>by have:=abU g 0 l;rwa [aaP] at this
 have key: ∀a:Act,Tm a 33 (kR (kR (kR (λ_=>undef) 0 (.slice (some ⟨g,0,none⟩) n c)) 1 (.int .i64 ((i:Nat):Int))) 2 (.int .i64 ((j:Nat):Int)))->(wo r o).wp P (bodyPost P fn λx w'=>x= .returned (.slice (some ⟨g,0,none⟩) (i+(n-j)) c)/\w'=w2) a w:=by intro a af;unfold wo;refine wp_seq (wp_region ?_);rw [show sh (#[o 0]:Array Oper).size=[0] from rfl];refine af.step (v:= .slice none 0 0) rfl hf.ops.h0 (by decide) (aZ hf.ops.h0 _) (λa af=> ?_);refine wp_seq (wp_region ?_);rw [show sh (#[o 1,o 2,o 3,o 4,o 5,o 6]:Array Oper).size=[0,1,2,3,4,5] from rfl];refine af.step (v:= .slice (some ⟨g,0,none⟩) n c) rfl hf.ops.h1 (by decide) (aj hf.ops.h1 _) (λa af=> ?_);refine af.step (v:= .int .i64 ((i:Nat):Int)) rfl hf.ops.h2 (by decide) (aj hf.ops.h2 _) (λa af=> ?_);refine af.step (v:= .int .i64 ((j:Nat):Int)) rfl hf.ops.h3 (by decide) (aj hf.ops.h3 _) (λa af=> ?_);refine af.step (v:= .slice (some ⟨g,0,none⟩) n c) rfl hf.ops.h4 (by decide) (aj hf.ops.h4 _) (λa af=> ?_);refine af.step (v:= .int .i64 ((n:Nat):Int)) rfl hf.ops.h5 (by decide) (gX hf.ops.h5 hf.pI rfl _) (λa af=> ?_);refine af.step rfl hf.ops.h6 (by decide) (Fe hf.ops.h6 hf.pI jW rfl rfl rfl rfl (Nat.le_of_lt Wp) hj hn _) (λa af=> ?_);refine wp_seq ?_;refine wp_seq (wp_region ?_);rw [show sh (#[o 7,o 8,o 9]:Array Oper).size=[0,1,2] from rfl];refine af.step (v:= .int .i64 ((i:Nat):Int)) rfl hf.ops.h7 (by decide) (aj hf.ops.h7 _) (λa af=> ?_);refine af.step (v:= .int .i64 ((j:Nat):Int)) rfl hf.ops.h8 (by decide) (aj hf.ops.h8 _) (λa af=> ?_);refine af.step (v:= .bool (decide (((i:Nat):Int)=((j:Nat):Int)))) rfl hf.ops.h9 (by decide) (iV hf.ops.h9 rfl rfl _) (λa af=> ?_);refine af.cond (b:=false) (by show aac (decide (((i:Nat):Int)=((j:Nat):Int)))=_;rw [decide_eq_false (by omega)]) ?_;simp only [AI,if_false];refine wp_skip ?_;refine wp_seq (wp_region ?_);rw [show sh (#[o 12,o 13,o 14]:Array Oper).size=[0,1,2] from rfl];refine af.step (v:= .slice (some ⟨g,0,none⟩) n c) rfl hf.ops.yV (by decide) (aj hf.ops.yV _) (λa af=> ?_);refine af.step (v:= .int .i64 ((n:Nat):Int)) rfl hf.ops.yW (by decide) (gX hf.ops.yW hf.pI rfl _) (λa af=> ?_);refine af.step (v:= .int .i64 ((n:Nat):Int)) rfl hf.ops.yX (by decide) (aZ hf.ops.yX _) (λa af=> ?_);refine wp_seq (Rv hf.WW hf.ops.d5 (k:=6) rfl λdz=> ?_);refine af.Fc (v:= .slice (some ⟨g,0,none⟩) n c) rfl hf.ops.yY (by decide) dz (λw=>aj hf.ops.yY _) (λa af dz=> ?_);refine af.Fc (v:= .int .i64 ((i:Nat):Int)) rfl hf.ops.yZ (by decide) dz (λw=>aj hf.ops.yZ _) (λa af dz=> ?_);refine af.Fc (v:= .slice (some ⟨g,0,none⟩) i c) rfl hf.ops.Dt (by decide) dz (λw=>wk hf.ops.Dt hf.pI jW n8 rfl rfl (by omega) _) (λa af dz=> ?_);refine af.Fc (v:= .slice (some ⟨g,0,none⟩) n c) rfl hf.ops.GL (by decide) dz (λw=>aj hf.ops.GL _) (λa af dz=> ?_);refine af.Fc (v:= .int .i64 ((j:Nat):Int)) rfl hf.ops.HB (by decide) dz (λw=>aj hf.ops.HB _) (λa af dz=> ?_);refine af.Fc (v:= .slice (if c=j then (some ⟨g,0,none⟩:Option Addr) else some ⟨g,j *size,none⟩) (n-j) (c-j)) rfl hf.ops.HC (by decide) dz (λw=>by refine (sm (P:=P) hf.ops.HC hf.pI jW n8 (ad:=some ⟨g,0,none⟩) (m:=n) (c:=c) (l:=j) rfl rfl hj w).trans ?_;rw [show (some (⟨g,0,none⟩:Addr)).map (·.add (j *size))=some ⟨g,j *size,none⟩ from congrArg some (h0 _)]) (λa af dz=> ?_);refine af.acg (v:= .slice (some ⟨g,0,none⟩) (i+(n-j)) c) (v2:= .slice (some ⟨g,0,none⟩) (i+(n-j)) c) rfl hf.ops.E6 (by decide) rfl hf.ops.E7 (by decide) dz (Bv hf.ops.E6 rfl rfl (hA _)) (aZ hf.ops.E7 _) (λa af=> ?_);refine wp_seq (wp_region ?_);rw [show sh (#[o 23,o 24,o 25,o 26,o 27,o 28]:Array Oper).size=[0,1,2,3,4,5] from rfl];refine af.step (v:= .slice (some ⟨g,0,none⟩) (i+(n-j)) c) rfl hf.ops.E8 (by decide) (aj hf.ops.E8 _) (λa af=> ?_);refine af.step (v:= .slice (some ⟨g,0,none⟩) (i+(n-j)) c) rfl hf.ops.E9 (by decide) (aj hf.ops.E9 _) (λa af=> ?_);refine af.step (v:= .int .i64 ((i+(n-j):Nat):Int)) rfl hf.ops.Fa (by decide) (gX hf.ops.Fa hf.pI rfl _) (λa af=> ?_);refine af.step (v:= .int .i64 ((n:Nat):Int)) rfl hf.ops.IU (by decide) (aj hf.ops.IU _) (λa af=> ?_);refine af.step (v:= .slice (some ⟨g,(i+(n-j)) *size,none⟩) (n-(i+(n-j))) (c-(i+(n-j)))) rfl hf.ops.K6 (by decide) (by refine (IW (P:=P) hf.ops.K6 hf.pI jW n8 (ad:=some ⟨g,0,none⟩) (m:=i+(n-j)) (c:=c) (l:=i+(n-j)) (h:=n) rfl rfl rfl (by omega) (by omega) w1).trans ?_;rw [if_neg (show¬c=i+(n-j) by omega)];rw [show (some (⟨g,0,none⟩:Addr)).map (·.add ((i+(n-j)) *size))=some ⟨g,(i+(n-j)) *size,none⟩ from congrArg some (h0 _)]) (λa af=> ?_);refine af.WY (v:= .tuple #[]) rfl hf.ops.K7 (Mp hf.ops.K7 rfl (hC _)) ?_;refine wp_seq (wp_region ?_);rw [show sh (#[o 29,o 30]:Array Oper).size=[0,1] from rfl];refine af.step (v:= .slice (some ⟨g,0,none⟩) (i+(n-j)) c) rfl hf.ops.K8 (by decide) (aj hf.ops.K8 _) (λa af=> ?_);refine af.step (v:= .slice (some ⟨g,0,none⟩) (i+(n-j)) c) rfl hf.ops.IV (by decide) (aZ hf.ops.IV _) (λa af=> ?_);refine wp_ret ?_;show bodyPost P fn (λx wq=>x= .returned (.slice (some ⟨g,0,none⟩) (i+(n-j)) c)/\wq=w2) .ret a w2;refine Mq hf.res af (v:= .slice (some ⟨g,0,none⟩) (i+(n-j)) c) rfl ?_;exact ⟨rfl,rfl⟩
 exact key _ (tm3 _ _ _ 30)
end
section
variable {P:Program}{c:Ctx}{f:Nat}
theorem Ff {t ti el:Nat}{fn:Func}{r:Nat->Nat}{o:Nat->Oper}{I E:TI}{xs:List MV}{i j:Nat}(hf:IX P f t ti el fn r o)(hT:dt P c.ti)(hI:c.tv t=some I)(hL:I.pH=true)(hE:c.tv I.elem=some E)(Th:el=I.elem)(xU:c.ga (c.key f)=I.elem)(hg:c.bQ (c.key f)=true)(Wp:i<=j)(hj:j<=xs.length):cq P c f [.fresh xs,.i .i64 i,.i .i64 j] (.fresh (xs.take i++xs.drop j)):=by
 subst Th;obtain ⟨hIt,JV⟩:=aD hI;obtain ⟨fR,iT⟩:=aD hE;obtain ⟨hu,E2,ot,_,cU⟩:=TI.fJ (hT t I hIt) hL;rw [fR] at ot;cases ot;obtain ⟨ie,z,jW,n8,Pc,Od,Ds⟩:=eF (hT _ E fR) iT;obtain ⟨ie2,z2,Ry,PW,YM⟩:=vh hE hT;rw [jW] at Ry;cases Ry;rw [Od] at PW;cases PW;have hz1: ∀v∈z.cells.toList,v.oneCell'=true:=(YM (gf c.key λ_ _=>none)).cells;intro φ W Z vs hz bZ du;simp only [bO,hg,if_true] at bZ;obtain ⟨v0,v1,v2,xs',m1,m2,rfl,zH,aia,F0,A1,A2⟩:=(bZ.resolve_left (by
  rintro ⟨_,_,_,_,_,ys,_,h1,_⟩;simp only [adK,and_true] at h1;exact absurd h1.2.2 (by simp))).resolve_right (by
  rintro ⟨pos,_,_,_,_,_,_,_,h1,_⟩;rcases pos with _|_|_|pos<;>simp at h1)
 simp only [adK,MV.fresh.injEq,and_true] at zH;obtain ⟨rfl,rfl,rfl⟩:=zH;have num: ∀{v:Value} {n:Nat},bN c.key φ v (.i .i64 (n:Int))->v= .int .i64 (n:Int):=by intro v n h;obtain ⟨_,h⟩:=h;generalize oK:[v]=l at h;cases h;simpa using oK
 have Nh:=num A1;have JU:=num A2;subst Nh;subst JU;rw [xU] at F0;obtain ⟨I0,cells,NC,_,oV,nB,Fb⟩:=F0;have NC:c.ti I.elem=some I0:=NC;rw [fR] at NC;cases NC;have oV:W.ownsRow 0 I.elem E.size v0 xs.length cells:=oV;have nB:aB c.key φ E.size cells xs:=nB;have L6: ∀b,v0.ownBlock=some b->Z b/\ ∀off,φ b off=none:=by
  intro b hb;refine ⟨(Fb b hb).1,λoff=> ?_⟩;cases h:φ b off with
  |none=>rfl
  |some u=>have:=((Fb b hb).2.1 off u h).1;cases this
 have iG:cells.length=xs.length *E.size:=nB.length;have aV:(callFunc f [v0,.int .i64 (i:Int),.int .i64 (j:Int)].toArray).run P W= .ok (.enter f #[v0,.int .i64 (i:Int),.int .i64 (j:Int)]) W:=by
  have zC: ¬fn.name= "runtime.NumGoroutine" :=by simpa using hf.name
  simp [callFunc,hf.pos,zC,hf.body]
 unfold cn;rw [aV];rcases Nat.lt_or_ge i j with cz|Nw
 ·
  obtain ⟨g,cp,bU,rfl,_,Pf,HZ,vL,mU,Ey⟩: ∃g cp bU,v0= .slice (some ⟨g,0,none⟩) xs.length cp/\0<=g/\W.heap[g]? =some (.cells bU I.elem (0,0))/\xs.length<=cp/\cp<=maxLen/\bU.size=cp *E.size/\bU.toList.take (xs.length *E.size)=cells:=by
   rcases oV.2 with ⟨_,h0⟩|h
   ·omega
   ·exact h
  have XW:cells.length<=bU.size:=by rw [iG,mU];exact aaL _ HZ
  obtain ⟨news,Mr⟩: ∃news,news=cells.drop (j *E.size):=⟨_,rfl⟩
  have xM:news.length=(xs.length-j) *E.size:=by rw [Mr,aag,iG,ab9]
  have Ex: ∀u∈news,u.oneCell'=true:=λu hu=>nB.rO u (by rw [Mr] at hu;exact aca hu);have hmul: ∀{a b:Nat},a<=b->a *E.size<=b *E.size:=λh=>aaL _ h;have akc:i *E.size<=j *E.size:=hmul (by omega);have hjn:j *E.size<=xs.length *E.size:=hmul hj;have ake:xs.length *E.size<=cp *E.size:=hmul HZ;have ZW:(i+(xs.length-j)) *E.size=i *E.size+news.length:=by rw [acd,xM]
  have zD:news.length+j *E.size=xs.length *E.size:=by rw [xM,ab9];omega
  obtain ⟨sq,Ms⟩: ∃sq:Array Value,sq=(bU.toList.take (i *E.size)++news++bU.toList.drop (i *E.size+news.length)).toArray:=⟨_,rfl⟩
  have ach:bU.toList.length=bU.size:=aae;have WZ:sq.toList.length=sq.size:=aae;have hA: ∀ty,(adJ #[t,t] ty #[.slice (some ⟨g,0,none⟩) i cp,.slice (if cp=j then (some ⟨g,0,none⟩:Option Addr) else some ⟨g,j *E.size,none⟩) (xs.length-j) (cp-j)]).run P {W with drawn:=W.drawn+1}= .ok (.slice (some ⟨g,0,none⟩) (i+(xs.length-j)) cp) (({W with drawn:=W.drawn+1}:World).setRow g sq):=by
   intro ty;have q0:i *ie.size+news.length<=bU.size:=by rw [n8,mU];omega
   by_cases hcj:cp=j
   ·rw [if_pos hcj];refine run_append_room (P:=P) (w:={W with drawn:=W.drawn+1}) t ty I.elem ie hu jW g i cp bU Pf ⟨g,0,none⟩ (xs.length-j) (cp-j) news (by rw [n8];exact xM) ?_ Ex (by omega) q0|>.trans ?_
    ·intro q u hq;have:=(aam.1 hq).1;rw [xM,show xs.length-j=0 by omega] at this;omega
    ·rw [n8,Ms]
   ·rw [if_neg hcj];refine run_append_room (P:=P) (w:={W with drawn:=W.drawn+1}) t ty I.elem ie hu jW g i cp bU Pf ⟨g,j *E.size,none⟩ (xs.length-j) (cp-j) news (by rw [n8];exact xM) ?_ Ex (by omega) q0|>.trans ?_
    ·intro q u hq;have h1:=oV.cells (g:=g) rfl (j *E.size+q) u (by rw [Mr,aah] at hq;exact hq);rw [abU] at h1⊢;rw [aaP] at h1;exact h1
    ·rw [n8,Ms]
  have xx:sq.size=bU.size:=by rw [Ms];simp only [abe,By,AS,aag,ach];omega
  have Hz:(({W with drawn:=W.drawn+1}:World).setRow g sq).heap[g]? =some (.cells sq I.elem (0,0)):=dp _ Pf;obtain ⟨zs,hzl,hC0⟩:=sn (P:=P) (t:=t) (ty:=0) (c:=cp-(i+(xs.length-j))) (w:=({W with drawn:=W.drawn+1}:World).setRow g sq) (off:=(i+(xs.length-j)) *E.size) (n:=xs.length-(i+(xs.length-j))) hu jW Od Ds hz1 Hz (by omega) (by rw [xx,mU,<-acd];exact hmul (by omega));obtain ⟨oM,HY⟩: ∃oM:Array Value,oM=(sq.toList.take ((i+(xs.length-j)) *E.size)++zs++sq.toList.drop ((i+(xs.length-j)) *E.size+zs.length)).toArray:=⟨_,rfl⟩
  rw [<-HY] at hC0;have hC: ∀ty,(abc #[t] ty #[.slice (some ⟨g,(i+(xs.length-j)) *E.size,none⟩) (xs.length-(i+(xs.length-j))) (cp-(i+(xs.length-j)))]).run P (({W with drawn:=W.drawn+1}:World).setRow g sq)= .ok (.tuple #[]) ((({W with drawn:=W.drawn+1}:World).setRow g sq).setRow g oM):=λty=>hC0;refine (Rx (w:=W) hf jW n8 HZ cz hj hA hC).mono ?_;rintro x w' ⟨rfl,rfl⟩;refine ⟨_,rfl,?_⟩;have af1:zs.length=(j-i) *E.size:=by rw [hzl];congr 1;omega
  have X6:oM.size=bU.size:=by rw [HY];simp only [abe,By,AS,aag,WZ,xx];rw [af1,ab9,ZW];omega
  have acb:oM.toList.take ((i+(xs.length-j)) *E.size)=cells.take (i *E.size)++cells.drop (j *E.size):=by
   rw [HY];have l1:(sq.toList.take ((i+(xs.length-j)) *E.size)).length=(i+(xs.length-j)) *E.size:=by rw [AS,WZ,xx,mU,ZW];omega
   rw [show∀l:List Value,l.toArray.toList=l from λ_=>rfl,abg,aau (by rw [l1];exact IT _),abh (by rw [l1];exact IT _),ZW,Ms];have l2:(bU.toList.take (i *E.size)).length=i *E.size:=by rw [AS,ach,mU];omega
   rw [show∀l:List Value,l.toArray.toList=l from λ_=>rfl,aau (by rw [By,l2];exact IT _),abh (by rw [By,l2];exact IT _),Mr];congr 1;rw [<-Ey,acj,adL (by omega)]
  have e2:(({W with drawn:=W.drawn+1}:World).setRow g sq).setRow g oM=({W with drawn:=W.drawn+1}:World).setRow g oM:=setRow_setRow _ _ _ _;have LX:((({W with drawn:=W.drawn+1}:World).setRow g sq).setRow g oM).heap[g]? =some (.cells oM I.elem (0,0)):=dp _ Hz;have TA:(xs.take i++xs.drop j).length=i+(xs.length-j):=by rw [By,AS,aag];omega
  refine Aa (n:=i+(xs.length-j)) (cells:=cells.take (i *E.size)++cells.drop (j *E.size)) hz du fR iT xU ?_ ?_ ?_ L6 ?_ TA ((nB.take i).append (nB.drop j)) ?_
  ·intro b _ cg;have Z9:b≠g:=λe=>cg (by rw [e];rfl);rw [setRow_other _ _ _ _ Z9,setRow_other _ _ _ _ Z9]
  ·simp [ada]
  ·have r1:Rest W ({W with drawn:=W.drawn+1}:World):=⟨rfl,rfl,rfl⟩
   exact (r1.trans (Rest.setRow _ g sq)).trans (Rest.setRow _ g oM)
  ·refine ⟨?_,.inr ⟨g,cp,oM,rfl,aaN _,LX,by omega,vL,by rw [X6,mU],acb⟩⟩;rw [By,AS,aag,iG,ZW,xM,ab9];omega
  ·intro b hb;exact .inl hb
 ·
  have Rg:j=i:=by omega
  subst Rg;obtain ⟨ad,cp,hv,HZ⟩: ∃ad cp,v0= .slice ad xs.length cp/\xs.length<=cp:=by
   rcases oV.2 with ⟨h1,h2⟩|⟨g,cp,bU,h1,_,_,h4,_⟩
   ·exact ⟨none,0,by rw [h1,h2],by omega⟩
   ·exact ⟨_,cp,h1,h4⟩
  have hvv:=hv;subst hv;refine (Rw (w:=W) (ad:=ad) hf jW HZ hj).mono ?_;rintro x w' ⟨rfl,rfl⟩;refine ⟨_,rfl,φ,⟨.refl _,λ_ _ _=>rfl,λ_ _ _=>rfl,IT _,.refl _⟩,du,?_⟩;show bw c (aO.plain Z) (gf c.key φ) w' _ ⟨c.ga (c.key f),false,xs.take j++xs.drop j⟩;rw [xU,ab5];exact ⟨E,cells,fR,iT,oV,nB,Fb⟩
end
def tH:List MV->Option MV
 |[.fresh xs,.i .i64 i,.i .i64 j]=>bif decide (0<=i)&&(decide (i<=j)&&decide (j<=(xs.length:Int))) then some (.fresh (xs.take i.toNat++xs.drop j.toNat)) else none
 |_=>none
theorem wu {ms:List MV}{r:MV}(h:tH ms=some r): ∃xs i j,ms=[.fresh xs,.i .i64 ((i:Nat):Int),.i .i64 ((j:Nat):Int)]/\r= .fresh (xs.take i++xs.drop j)/\i<=j/\j<=xs.length:=by
 unfold tH at h;split at h
 ·rename_i xs i j;cases hb:decide (0<=i)&&(decide (i<=j)&&decide (j<=(xs.length:Int))) with
  |false=>rw [hb] at h;cases h
  |true=>simp only [hb,cond_true,aQ] at h;simp only [IN,decide_eq_true_eq] at hb;obtain ⟨h1,h2,h3⟩:=hb;refine ⟨xs,i.toNat,j.toNat,?_,h.symm,by omega,by omega⟩;rw [abI h1,abI (by omega)]
 ·cases h
end Dn
/-
  slices.IndexFunc and slices.DeleteFunc of the library, walked, with whatever function. Conditions: none.
-/
namespace Dn
open Go
section
variable {P:Program}{Q:Exit->Act->World->Prop}{ops:Array Oper}{o:Oper}{a:Act} {w w':World}{n:Nat} {σ:Nat->Value}
theorem tm2 (v0 v1:Value)(k:Nat):Tm {tmps:= #[v0,v1]++aaa k undef,defers:=[]} (k+2) (kR (kR (λ_=>undef) 0 v0) 1 v1):=by
 refine ⟨rfl,by simp [adb],λq=> ?_⟩;by_cases h0:q=0
 ·subst h0;show (#[v0,v1]++aaa k undef).getD 0 undef=v0;simp [aak]
 by_cases h1:q=1
 ·subst h1;show (#[v0,v1]++aaa k undef).getD 1 undef=v1;simp [aak]
 have e: ∀{x y:Nat},x≠y->abv x y=false:=λ{x y} h=>by
  cases hq:abv x y with
  |false=>rfl
  |true=>exact absurd (aal hq) h
 simp only [kR,e h0,e h1,cond_false];have h3:2<=q:=by omega
 simp [aak,aa4,show¬q<2 by omega];by_cases hk:q-2<k<;>simp [hk]
theorem Tm.call {i d:Nat}{op:Op}{rest:List Nat}{f:Nat}{args:Array Value}{Rp:Value->World->Prop}(af:Tm a n σ)(hi:ops[i]? =some o)(ho:ae o d op)(hd:d<n)(aV:(execOp (ev σ) o).run P w=(callFunc f args).run P w)(hc:cn P f args w Rp)(h: ∀v w' a',Rp v w'->Tm a' n (kR σ d v)->wpOps P ops Q rest a' w'):wpOps P ops Q (i::rest) a w:=by rw [wpOps_cons];unfold wpOp;simp only [hi,aao,ho.guard,if_true];left;refine oN (by rw [af.eval];exact aV) hc ?_;intro v w' hr;rw [ho.dst];exact h v w' _ hr (af.put hd v)
theorem GQ {d:Nat}{t el:TypeId}{x y:Operand}{e:Operand->Value}{g n c j size:Nat}{i:TypeInfo}(ho:ae o d (.indexAddr t x y))(hu:P.underlying t=some (.slice el))(hi:P.info? el=some i)(hs:i.size=size)(hx:e x= .slice (some ⟨g,0,none⟩) n c)(hy:e y= .int .i64 ((j:Nat):Int))(hj:j<n)(w:World):(execOp e o).run P w= .ok (.value (.pointer (some ⟨g,j *size,none⟩))) w:=by
 have h2: ¬n<=j:=by omega
 simp [execOp,ho.op,hx,hy,adQ,asIntOf,run_underlying hu,h2,acC,typeInfo,hi,hs,abU]
theorem Ab {c:Ctx}{d:Nat}{t:TypeId}{I:TI}{x:Operand}{e:Operand->Value}{g off:Nat}{vs:List Value}(ho:ae o d (.load t x))(hr:ji c.ti P t I)(hc:I.bB=[])(cu:I.st=true)(hl:vs.length=I.size)(hx:e x= .pointer (some ⟨g,off,none⟩))(hm:w.rangeAt g off vs):(execOp e o).run P w= .ok (.value (.agg vs.toArray)) w:=by
 rcases dK (P:=P) hr hc hl hm with ⟨_,h⟩|⟨h,_⟩
 ·have:=h w hm;simp [execOp,ho.op,hx,this]
 ·rw [cu] at h;cases h
theorem Ac {d:Nat}{t:TypeId}{e:Operand->Value}{i:TypeInfo}{z:Value}(ho:ae o d (.alloc t))(hi:P.info? t=some i)(hz:i.zero=some z)(w:World): (execOp e o).run P w= .ok (.value (.pointer (some ⟨w.heap.size,0,none⟩))) (w.alloc (.cells z.cells t)):=by simp [execOp,ho.op,Instr.alloc,zeroValue,typeInfo,hi,hz,newVar,newRow,newObj,Sem.run]
theorem wv {c:Ctx}{t:TypeId}{I:TI}{x y:Operand}{e:Operand->Value}{g off:Nat}{v:Value}{arr:Array Value}{T:TypeId}(ho:dn o (.store t x y))(hr:ji c.ti P t I)(hc:I.bB=[])(hx:e x= .pointer (some ⟨g,off,none⟩))(hy:e y=v)(hs:v.cells.toList.length=I.size)(dS: ∀u∈v.cells.toList,u.oneCell'=true)(bH:w.heap[g]? =some (.cells arr T (0,0)))(q0:off+I.size<=arr.size): (execOp e o).run P w= .ok .skip (w.setRow g (arr.toList.take off++v.cells.toList++arr.toList.drop (off+I.size)).toArray):=by have:=iS (P:=P) (w:=w) hr hc hs dS bH q0;simp [execOp,ho.op,hx,hy,this]
theorem Tm.sr {i:Nat}{op:Op}{rest:List Nat}(af:Tm a n σ)(hi:ops[i]? =some o)(ho:dn o op)(aV:(execOp (ev σ) o).run P w= .ok .skip w')(h:wpOps P ops Q rest a w'):wpOps P ops Q (i::rest) a w:=by rw [wpOps_cons];unfold wpOp;simp only [hi,aao,ho.guard,if_true];left;unfold adV;rw [af.eval,aV];simp only [Oper.upon];rw [ho.dst];exact h
theorem BA {d:Nat} {t t':TypeId}{x y:Operand}{e:Operand->Value}{p q:Int}(ho:ae o d (.binOp .lss t x y t'))(hx:e x= .int .i64 p)(hy:e y= .int .i64 q)(w:World): (execOp e o).run P w= .ok (.value (.bool (decide (p<q)))) w:=oU ho hx hy (λw=>by simp [Go.binOp,Op.intCmp]) w
theorem Mt {d:Nat}{x y:Operand}{t:Array TypeId}{e:Operand->Value}{g:Nat}{lb:Array Value}{v:Value}(ho:ae o d (.call {callee:= .value x,args:= #[y],argTypes:=t})) (hx:e x= .func (.func g) #[] lb) (hy:e y=v) (w:World): (execOp e o).run P w=(callFunc g (#[v]++lb)).run P w:=by simp [execOp,ho.op,resolve,invoke,hx,hy,aas]
theorem U0 {d:Nat}{x y:Operand}{t:Array TypeId}{e:Operand->Value}{g:Nat}{v u:Value}(ho:ae o d (.call {callee:= .value (.func g),args:= #[x,y],argTypes:=t})) (he:e (.func g)= .func (.func g) #[] #[]) (hx:e x=v) (hy:e y=u) (w:World): (execOp e o).run P w=(callFunc g #[v,u]).run P w:=by simp [execOp,ho.op,resolve,invoke,he,hx,hy,aas]
end
def GR (r:Nat->Nat)(o:Nat->Oper):Code:= .seq (.region (r 0) #[o 0] false) (.seq (.seq (.region (r 1) #[o 1,o 2,o 3] false) (.block 0 (.loop (.seq (.region (r 2) #[o 4] false) (.seq (.cond (.tmp 9) .skip (.exit 0)) (.seq (.block 1 (.seq (.region (r 3) #[o 5,o 6] false) (.seq (.region (r 4) #[o 7,o 8,o 9,o 10,o 11,o 12] false) (.cond (.tmp 16) (.seq (.region (r 5) #[o 13,o 14] false) .ret) .skip)))) (.region (r 6) #[o 15,o 16] false))))))) (.seq (.region (r 7) #[o 17] false) .ret))
structure YN (t el ti:Nat) (o:Nat->Oper):Prop where
 h0:ae (o 0) 4 (.assign (.const (.int .i64 0)))
 h1:ae (o 1) 6 (.move (.tmp 0))
 h2:ae (o 2) 7 (.call {callee:= .builtin .len,args:= #[.tmp 6],argTypes:= #[t]})
 h3:ae (o 3) 8 (.move (.const (.int .i64 0)))
 h4:ae (o 4) 9 (.binOp .lss ti (.tmp 8) (.tmp 7) ti)
 h5:ae (o 5) 10 (.move (.tmp 8))
 h6:ae (o 6) 5 (.assign (.tmp 10))
 h7:ae (o 7) 11 (.move (.tmp 1))
 h8:ae (o 8) 12 (.move (.tmp 0))
 h9:ae (o 9) 13 (.move (.tmp 5))
 rb:ae (o 10) 14 (.indexAddr t (.tmp 12) (.tmp 13))
 yU:ae (o 11) 15 (.load el (.tmp 14))
 yV:ae (o 12) 16 (.call {callee:= .value (.tmp 11),args:= #[.tmp 15],argTypes:= #[el]})
 yW:ae (o 13) 17 (.move (.tmp 5))
 yX:ae (o 14) 4 (.assign (.tmp 17))
 yY:ae (o 15) 18 (.binOp .add ti (.tmp 8) (.const (.int .i64 1)) ti)
 yZ:ae (o 16) 8 (.move (.tmp 18))
 Dt:ae (o 17) 4 (.assign (.const (.int .i64 (-1))))
structure Rz (P:Program) (f t ti el:Nat) (fn:Func) (r:Nat->Nat) (o:Nat->Oper):Prop where
 pos:P.funcs[f]? =some fn
 name:(fn.name== "runtime.NumGoroutine")=false
 tmps:fn.ntmps=19
 res:fn.results= #[.tmp 4]
 body:fn.body=some (GR r o)
 ops:YN t el ti o
 pI:P.underlying t=some (.slice el)
theorem GS {P:Program}{fn:Func}{n:Nat}{a:Act}{w:World} {σ:Nat->Value}{R:Ending->World->Prop}{v:Value}(hr:fn.results= #[.tmp 4])(af:Tm a n σ)(h6:σ 4=v)(h:R (.returned v) w):bodyPost P fn R .ret a w:=by
 refine ⟨af.defers,v,?_,h⟩;have h2:a.tmps[4]?.getD undef=v:=by have:=af.get 4;rw [h6] at this;simpa using this
 simp [results,hr,h2]
theorem IZ {key:Nat->Nat} {φ:Ph}{size:Nat}{xs:List MV}{cells:List Value}(h:aB key φ size cells xs){k:Nat}(hk:k<xs.length): ((cells.drop (k *size)).take size).length=size/\dI key φ ((cells.drop (k *size)).take size) xs[k]:=by
 obtain ⟨p1,v1,p2,he,Ge,om,cM⟩:=h.at (aap hk);have:(cells.drop (k *size)).take size=v1:=by rw [he,abg,<-Ge,adN,<-om,acv]
 rw [this];exact ⟨om,cM⟩
theorem BB {key:Nat->Nat} {φ:Ph}{vs:List Value}{x:MV}(h:dI key φ vs x){ms:List MV}(hx:x= .agg ms):bN key φ (.agg vs.toArray) x:=by
 subst hx;cases h with
 |agg _ _ h=>exact ⟨vs.toArray,rfl,by simpa using h⟩
section
variable {P:Program}{c:Ctx}{f t ti el:Nat}{fn:Func}{r:Nat->Nat}{o:Nat->Oper}{E:TI}{n cp g0 g:Nat}{ad:Option Addr}{ob:Option Nat}{w:World}{lb:Array Value}{S:Type}{Inv:S->(Nat->Prop)->Ph->World->Prop}{step:S->MV->Option (Bool×S)}
theorem RB (hf:Rz P f t ti el fn r o)(hp:p7 P c g lb Inv step)(hT:dt P c.ti)(hE:c.tv el=some E)(cu:E.st=true){xs:List MV}{cells:List Value}{bU:Array Value}{T:TypeId} {φ0:Ph}{Z0:Nat->Prop} {s0 s':S}{ys:List MV}(Bp: ∀x∈xs,∃ms,x= .agg ms)(Gi:0<xs.length->ad=some ⟨g0,0,none⟩/\ob=some g0/\w.heap[g0]? =some (.cells bU T (0,0))/\bU.toList.take (xs.length *E.size)=cells)(Pf: ∀b,ob=some b-> ¬Z0 b/\b<w.heap.size/\ ∀off,φ0 b off=none)(dL:aB c.key φ0 E.size cells xs)(aci:xs.length<2^63)(hinv:Inv s0 Z0 φ0 w)(iy: ∀b,w.heap.size<=b->Z0 b)(du:iA φ0 w)(hd:jv step s0 xs=some (ys,s')): Calls P f #[.slice ad xs.length cp,.func (.func g) #[] lb] w λe W=> ∃Z φ,(∀b,ob=some b->W.heap[b]? =w.heap[b]?)/\ ((e= .returned (.int .i64 (-1))/\ys=xs/\uk c ob Inv Z0 φ0 w s' Z φ W)\/ ∃k,∃hk:k<xs.length,∃sk,e= .returned (.int .i64 (k:Int))/\jv step s0 (xs.take (k+1))=some (xs.take k,sk)/\uk c ob Inv Z0 φ0 w sk Z φ W):=by
 obtain ⟨fR,iT⟩:=aD hE;obtain ⟨ie,z,jW,n8,Pc,Od,Ds⟩:=eF (hT _ E fR) iT;refine calls_of_wp hf.pos hf.body ?_;rw [hf.tmps];generalize I3:(λ(e:Ending) (W:World)=> ∃Z φ,(∀b,ob=some b->W.heap[b]? =w.heap[b]?)/\ ((e= .returned (.int .i64 (-1))/\ys=xs/\uk c ob Inv Z0 φ0 w s' Z φ W)\/ ∃k,∃hk:k<xs.length,∃sk,e= .returned (.int .i64 (k:Int))/\jv step s0 (xs.take (k+1))=some (xs.take k,sk)/\uk c ob Inv Z0 φ0 w sk Z φ W))=YO;have key: ∀a:Act,Tm a 19 (kR (kR (λ_=>undef) 0 (.slice ad xs.length cp)) 1 (.func (.func g) #[] lb))->(GR r o).wp P (bodyPost P fn YO) a w:=by
  intro a af;unfold GR;refine wp_seq (wp_region ?_);rw [show sh (#[o 0]:Array Oper).size=[0] from rfl];refine af.step (v:= .int .i64 0) rfl hf.ops.h0 (by decide) (aZ hf.ops.h0 _) (λa af=> ?_);refine wp_seq (wp_seq (wp_region ?_));rw [show sh (#[o 1,o 2,o 3]:Array Oper).size=[0,1,2] from rfl];refine af.step (v:= .slice ad xs.length cp) rfl hf.ops.h1 (by decide) (aj hf.ops.h1 _) (λa af=> ?_);refine af.step (v:= .int .i64 ((xs.length:Nat):Int)) rfl hf.ops.h2 (by decide) (gX hf.ops.h2 hf.pI rfl _) (λa af=> ?_);refine af.step (v:= .int .i64 0) rfl hf.ops.h3 (by decide) (aj hf.ops.h3 _) (λa af=> ?_);refine wp_block (wp_loop (λa W=> ∃σ,Tm a 19 σ/\σ 0= .slice ad xs.length cp/\σ 1= .func (.func g) #[] lb/\σ 7= .int .i64 ((xs.length:Nat):Int)/\ ∃k:Nat,k<=xs.length/\σ 8= .int .i64 (k:Int)/\ (∀b,ob=some b->W.heap[b]? =w.heap[b]?)/\ ∃s Z φ,jv step s0 (xs.take k)=some (xs.take k,s)/\uk c ob Inv Z0 φ0 w s Z φ W) (λa W=>match a.tmps.getD 8 undef with| .int _ k=>xs.length-k.toNat|_=>0) ?_ ?_)
  ·refine ⟨_,af,rfl,rfl,rfl,0,aaN _,rfl,λ_ _=>rfl,s0,Z0,φ0,rfl,⟨hinv,iy,λb hb=> .inl hb,du,.refl _ _ _,λb off hb=>(Pf b hb).2.2 off⟩⟩
  ·clear af;rintro a W ⟨σ,af,h0,h1,h7,k,hk,h8,uj,s,Z,φ,W9,hW⟩;refine wp_seq (wp_region ?_);rw [show sh (#[o 4]:Array Oper).size=[0] from rfl];have hm8:(match a.tmps.getD 8 undef with| .int _ k=>xs.length-k.toNat|_=>0)=xs.length-k:=by rw [af.get 8,h8];simp
   rw [hm8];clear hm8;refine af.step (v:= .bool (decide ((k:Int)<(xs.length:Int)))) rfl hf.ops.h4 (by decide) (BA hf.ops.h4 h8 h7 _) (λa af=> ?_);refine wp_seq ?_;by_cases cz:k<xs.length;rotate_left
   ·refine af.cond (b:=false) (by show aac (decide ((k:Int)<(xs.length:Int)))=_;rw [decide_eq_false (by omega)]) ?_;simp only [AI,if_false];refine wp_exit ?_;have hkn:k=xs.length:=by omega
    subst hkn;rw [adD] at W9;rw [hd] at W9;simp only [aQ,aaE] at W9;obtain ⟨rfl,rfl⟩:=W9;show Exit.then _ _ _ _ _;refine wp_seq (wp_region ?_);rw [show sh (#[o 17]:Array Oper).size=[0] from rfl];refine af.step (v:= .int .i64 (-1)) rfl hf.ops.Dt (by decide) (aZ hf.ops.Dt _) (λa af=> ?_);refine wp_ret ?_;refine GS hf.res af (v:= .int .i64 (-1)) rfl ?_;rw [<-I3];exact ⟨Z,φ,uj,.inl ⟨rfl,rfl,hW⟩⟩
   ·refine af.cond (b:=true) (by show aac (decide ((k:Int)<(xs.length:Int)))=_;rw [decide_eq_true (by omega)]) ?_;simp only [if_true];refine wp_skip ?_;obtain ⟨YP,NL,bH,aX⟩:=Gi (by omega);have h0':=h0;rw [YP] at h0';obtain ⟨yk,sk,b,UJ,e1,e2,e3⟩:=Mg hd cz;rw [W9] at e1;simp only [aQ,aaE] at e1;obtain ⟨rfl,rfl⟩:=e1;have RC:=dL.mono hW.tr.ph;obtain ⟨hl,cM⟩:=IZ RC cz;have YQ:W.rangeAt g0 (k *E.size) ((cells.drop (k *E.size)).take E.size):=by
     intro j v hj;have DG:j<E.size:=by have:=(aam.1 hj).1;omega
     have RD:W.heap[g0]? =some (.cells bU T (0,0)):=(uj g0 NL).trans bH;rw [cell_of RD,<-abr];rw [aa6 DG,aah,<-aX,aav] at hj;split at hj
     ·exact hj
     ·cases hj
    obtain ⟨ms,zH⟩:=Bp _ (aaU cz);have K1:bN c.key φ (.agg ((cells.drop (k *E.size)).take E.size).toArray) xs[k]:=BB cM zH;refine wp_seq (wp_block ?_);refine wp_seq (wp_region ?_);rw [show sh (#[o 5,o 6]:Array Oper).size=[0,1] from rfl];refine af.step (v:= .int .i64 (k:Int)) rfl hf.ops.h5 (by decide) ((aj hf.ops.h5 _).trans (by show BY (AT (σ 8)) W=_;rw [h8])) (λa af=> ?_);refine af.step (v:= .int .i64 (k:Int)) rfl hf.ops.h6 (by decide) (aZ hf.ops.h6 _) (λa af=> ?_);refine wp_seq (wp_region ?_);rw [show sh (#[o 7,o 8,o 9,o 10,o 11,o 12]:Array Oper).size=[0,1,2,3,4,5] from rfl];refine af.step (v:= .func (.func g) #[] lb) rfl hf.ops.h7 (by decide) ((aj hf.ops.h7 _).trans (by show BY (AT (σ 1)) W=_;rw [h1])) (λa af=> ?_);refine af.step (v:= .slice (some ⟨g0,0,none⟩) xs.length cp) rfl hf.ops.h8 (by decide) ((aj hf.ops.h8 _).trans (by show BY (AT (σ 0)) W=_;rw [h0'])) (λa af=> ?_);refine af.step (v:= .int .i64 (k:Int)) rfl hf.ops.h9 (by decide) (aj hf.ops.h9 _) (λa af=> ?_);refine af.step rfl hf.ops.rb (by decide) (GQ hf.ops.rb hf.pI jW n8 rfl rfl cz _) (λa af=> ?_);refine af.step rfl hf.ops.yU (by decide) (Ab hf.ops.yU (hT _ E fR) iT cu hl rfl YQ) (λa af=> ?_);refine af.call rfl hf.ops.yV (by decide) (Mt hf.ops.yV rfl rfl _) (hp.call hW.inv hW.new hW.fB K1 e2) ?_;rintro v W2 a ⟨rfl,φ',t1,t2,t3⟩ af;have Tv: ∀b,ob=some b-> ¬Z b:=λb hb hz=>by
     have:=Pf b hb;rcases hW.sub _ hz with h|h
     ·exact this.1 h
     ·omega
    have L1: ∀b,ob=some b->W2.heap[b]? =w.heap[b]? :=λb hb=>(t1.heap b (Tv b hb) (aa8 (Pf b hb).2.1 hW.tr.size)).trans (uj b hb);have GO:uk c ob Inv Z0 φ0 w UJ Z φ' W2:=⟨t3,λb hb=>hW.new b (abj t1.size hb),hW.sub,t2,hW.tr.trans (t1.sup λb hb=> .inl (hW.sub b hb)),λb off hb=>by rw [t1.free b off (Tv b hb)];exact hW.free b off hb⟩
    cases b with
    |true=>refine af.cond (b:=true) rfl ?_;simp only [if_true];refine wp_seq (wp_region ?_);rw [show sh (#[o 13,o 14]:Array Oper).size=[0,1] from rfl];refine af.step (v:= .int .i64 (k:Int)) rfl hf.ops.yW (by decide) (aj hf.ops.yW _) (λa af=> ?_);refine af.step (v:= .int .i64 (k:Int)) rfl hf.ops.yX (by decide) (aZ hf.ops.yX _) (λa af=> ?_);refine wp_ret ?_;refine GS hf.res af (v:= .int .i64 (k:Int)) rfl ?_;rw [<-I3];exact ⟨Z,φ',L1,.inr ⟨k,cz,UJ,rfl,e3,GO⟩⟩
    |false=>
     refine af.cond (b:=false) rfl ?_;simp only [AI,if_false];refine wp_skip ?_;show Code.wp P (abA (r 6) #[o 15,o 16] false) _ a W2;refine wp_region ?_;rw [show sh (#[o 15,o 16]:Array Oper).size=[0,1] from rfl];refine af.step (v:= .int .i64 ((k+1:Nat):Int)) rfl hf.ops.yY (by decide) (eG (q:=1) hf.ops.yY h8 rfl (by omega) _) (λa af=> ?_);refine af.step (v:= .int .i64 ((k+1:Nat):Int)) rfl hf.ops.yZ (by decide) (aj hf.ops.yZ _) (λa af=> ?_);refine ⟨⟨_,af,h0,h1,h7,k+1,by omega,rfl,L1,UJ,Z,φ',?_,GO⟩,?_⟩
     ·rw [e3];have e4:xs.take (k+1)=xs.take k++[xs[k]]:=by rw [List.take_add_one,aap cz];rfl
      rw [e4];rfl
     ·have:a.tmps.getD 8 undef= .int .i64 ((k+1:Nat):Int):=by rw [af.get 8];rfl
      rw [this];simp;omega
 exact key _ (tm2 _ _ 17)
end
end Dn
/-
  slices.DeleteFunc of the library, walked, with whatever function. Conditions: none.
-/
namespace Dn
open Go
theorem eX {P:Program}{f:Nat}{fn:Func}{b:Code}{args:Array Value}{w:World}{R:Value->World->Prop}(cU:P.funcs[f]? =some fn)(oR:(fn.name== "runtime.NumGoroutine")=false)(b9:fn.body=some b)
 (h:Calls P f args w λe W=> ∃v,e= .returned v/\R v W):cn P f args w R:=by
 have aV:(callFunc f args).run P w= .ok (.enter f args) w:=by
  have zC: ¬fn.name= "runtime.NumGoroutine" :=by simpa using oR
  simp [callFunc,cU,zC,b9]
 unfold cn;rw [aV];exact h
def BC (r:Nat->Nat)(o:Nat->Oper):Code:= .seq (.region (r 0) #[o 0] false) (.seq (.region (r 1) #[o 1,o 2,o 3,o 4] false) (.seq (.seq (.region (r 2) #[o 5,o 6] false) (.cond (.tmp 12) (.seq (.region (r 3) #[o 7,o 8] false) .ret) .skip)) (.seq (.seq (.region (r 4) #[o 9,o 10,o 11] false) (.block 0 (.loop (.seq (.seq (.region (r 5) #[o 12,o 13,o 14,o 15] false) (.cond (.tmp 19) .skip (.exit 0))) (.seq (.block 1 (.seq (.region (r 6) #[o 16,o 17,o 18,o 19,o 20,o 21] false) (.seq (.region (r 7) #[o 22,o 23,o 24,o 25] false) (.cond (.tmp 29) (.seq (.region (r 8) #[o 26,o 27,o 28,o 29,o 30] false) (.region (r 9) #[o 31,o 32,o 33] false)) .skip)))) (.region (r 10) #[o 34,o 35,o 36] false)))))) (.seq (.region (r 11) #[o 37,o 38,o 39,o 40] false) (.seq (.region (r 12) #[o 41,o 42,o 43,o 44] false) .ret)))))
structure U1 (t el ti tb fu fi:Nat) (o:Nat->Oper):Prop where
 h0:ae (o 0) 4 (.assign (.const (.slice none 0 0)))
 h1:ae (o 1) 8 (.move (.tmp 0))
 h2:ae (o 2) 9 (.move (.tmp 1))
 h3:ae (o 3) 10 (.call {callee:= .value (.func fi),args:= #[.tmp 8,.tmp 9],argTypes:= #[t,fu]})
 h4:ae (o 4) 5 (.assign (.tmp 10))
 h5:ae (o 5) 11 (.move (.tmp 5))
 h6:ae (o 6) 12 (.binOp .eql ti (.tmp 11) (.const (.int .i64 (-1))) ti)
 h7:ae (o 7) 13 (.move (.tmp 0))
 h8:ae (o 8) 4 (.assign (.tmp 13))
 h9:ae (o 9) 14 (.move (.tmp 5))
 rb:ae (o 10) 15 (.binOp .add ti (.tmp 14) (.const (.int .i64 1)) ti)
 yU:ae (o 11) 6 (.assign (.tmp 15))
 yV:ae (o 12) 16 (.move (.tmp 6))
 yW:ae (o 13) 17 (.move (.tmp 0))
 yX:ae (o 14) 18 (.call {callee:= .builtin .len,args:= #[.tmp 17],argTypes:= #[t]})
 yY:ae (o 15) 19 (.binOp .lss ti (.tmp 16) (.tmp 18) ti)
 yZ:ae (o 16) 22 (.move (.tmp 0))
 Dt:ae (o 17) 23 (.move (.tmp 6))
 GL:ae (o 18) 24 (.indexAddr t (.tmp 22) (.tmp 23))
 HB:ae (o 19) 25 (.load el (.tmp 24))
 HC:ae (o 20) 7 (.alloc el)
 E6:dn (o 21) (.store el (.tmp 7) (.tmp 25))
 E7:ae (o 22) 26 (.move (.tmp 1))
 E8:ae (o 23) 27 (.load el (.tmp 7))
 E9:ae (o 24) 28 (.call {callee:= .value (.tmp 26),args:= #[.tmp 27],argTypes:= #[el]})
 Fa:ae (o 25) 29 (.unOp .not tb (.tmp 28))
 IU:ae (o 26) 30 (.move (.tmp 0))
 K6:ae (o 27) 31 (.move (.tmp 5))
 K7:ae (o 28) 32 (.load el (.tmp 7))
 K8:ae (o 29) 33 (.indexAddr t (.tmp 30) (.tmp 31))
 IV:dn (o 30) (.store el (.tmp 33) (.tmp 32))
 JZ:ae (o 31) 34 (.move (.tmp 5))
 J0:ae (o 32) 35 (.binOp .add ti (.tmp 34) (.const (.int .i64 1)) ti)
 J1:ae (o 33) 5 (.assign (.tmp 35))
 K9:ae (o 34) 20 (.move (.tmp 6))
 Mn:ae (o 35) 21 (.binOp .add ti (.tmp 20) (.const (.int .i64 1)) ti)
 Ob:ae (o 36) 6 (.assign (.tmp 21))
 Mo:ae (o 37) 36 (.move (.tmp 0))
 Oc:ae (o 38) 37 (.move (.tmp 5))
 UO:ae (o 39) 38 (.slice t (.tmp 36) (some (.tmp 37)) none none)
 UP:dn (o 40) (.call {callee:= .builtin .clear,args:= #[.tmp 38],argTypes:= #[t]})
 UQ:ae (o 41) 39 (.move (.tmp 0))
 UR:ae (o 42) 40 (.move (.tmp 5))
 US:ae (o 43) 41 (.slice t (.tmp 39) none (some (.tmp 40)) none)
 UT:ae (o 44) 4 (.assign (.tmp 41))
structure RE (P:Program) (f t ti tb fu fi el:Nat) (fn:Func) (r:Nat->Nat) (o:Nat->Oper):Prop where
 pos:P.funcs[f]? =some fn
 name:(fn.name== "runtime.NumGoroutine")=false
 tmps:fn.ntmps=42
 res:fn.results= #[.tmp 4]
 body:fn.body=some (BC r o)
 ops:U1 t el ti tb fu fi o
 pI:P.underlying t=some (.slice el)
section
variable {P:Program}{c:Ctx}{f fi t ti tb fu el:Nat}{fn fni:Func}{r ri:Nat->Nat}{o oi:Nat->Oper}{E:TI}{cp g0 g:Nat}{ad:Option Addr}{ob:Option Nat}{w W W2:World}{lb:Array Value}{S:Type}{Inv:S->(Nat->Prop)->Ph->World->Prop}{step:S->MV->Option (Bool×S)}{Z0 Z:Nat->Prop} {φ0 φ:Ph}{s:S}
theorem uk.move (hp:p7 P c g lb Inv step)(hW:uk c ob Inv Z0 φ0 w s Z φ W)(jT:W.heap.size<=W2.heap.size)(eo: ∀b,b<W.heap.size->ob≠some b->W2.heap[b]? =W.heap[b]?)(jY:Rest W W2)(Tv: ∀b,ob=some b-> ¬Z b): uk c ob Inv Z0 φ0 w s (λb=>(Z b/\b<W.heap.size)\/W2.heap.size<=b) φ W2:=by
 have hws:=hW.tr.size;refine ⟨hp.mono (hp.frame hW.inv jT λb hz hb=>eo b hb (λe=>Tv b e hz)) λb hb=> .inl hb,λb hb=> .inr hb,λb hb=> ?_,λb off v hv=> ?_,?_,hW.free⟩
 ·rcases hb with hb|hb
  ·exact hW.sub b hb.1
  ·exact .inr (by omega)
 ·have h1:=hW.fB b off v hv;have cz:=OF W _ h1;have cg:ob≠some b:=by intro e;rw [hW.free b off e] at hv;cases hv
  rw [acx (eo b cz cg)];exact h1
 ·refine hW.tr.trans ⟨.refl _,λb hb cz=> ?_,λ_ _ _=>rfl,jT,jY⟩;exact eo b cz (λe=>hb (.inr e))
structure ack (c:Ctx) (sz n cp:Nat) (cells:List Value) (bU:Array Value) (φ:Ph) (i j:Nat) (ys:List MV):Prop where
 size:bU.size=cp *sz
 done:aB c.key φ sz (bU.toList.take (i *sz)) ys
 len:ys.length=i
 rest:(bU.toList.take (n *sz)).drop (j *sz)=cells.drop (j *sz)
def U2 (c:Ctx)(ob:Option Nat){S:Type}(Inv:S->(Nat->Prop)->Ph->World->Prop)(step:S->MV->Option (Bool×S))(Z0:Nat->Prop) (φ0:Ph)(w:World)(xs ys:List MV) (s0 s':S)(v:Value)(W:World):Prop:=∃Z φ,(∀b,ob=some b->W.heap[b]? =w.heap[b]?)/\((v= .int .i64 (-1)/\ys=xs/\uk c ob Inv Z0 φ0 w s' Z φ W)\/ ∃k,∃hk:k<xs.length,∃sk,v= .int .i64 (k:Int)/\jv step s0 (xs.take (k+1))=some (xs.take k,sk)/\uk c ob Inv Z0 φ0 w sk Z φ W)
theorem I4 (hf:RE P f t ti tb fu fi el fn r o)(Uj:Rz P fi t ti el fni ri oi)(hp:p7 P c g lb Inv step)(hT:dt P c.ti)(hE:c.tv el=some E)(cu:E.st=true)(cU:0<E.size){xs:List MV}{cells:List Value}{bU:Array Value} {s0 s':S}{ys:List MV}(Bp: ∀x∈xs,∃ms,x= .agg ms)(Gi:0<xs.length->ad=some ⟨g0,0,none⟩/\ob=some g0/\w.heap[g0]? =some (.cells bU el (0,0))/\bU.toList.take (xs.length *E.size)=cells/\xs.length<=cp/\bU.size=cp *E.size)(Pf: ∀b,ob=some b-> ¬Z0 b/\b<w.heap.size/\ ∀off,φ0 b off=none)(dL:aB c.key φ0 E.size cells xs)(aci:xs.length<2^63)(hinv:Inv s0 Z0 φ0 w)(iy: ∀b,w.heap.size<=b->Z0 b)(du:iA φ0 w)(hd:jv step s0 xs=some (ys,s')): Calls P f #[.slice ad xs.length cp,.func (.func g) #[] lb] w λe W=> ∃v,e= .returned v/\ ∃Z φ,uk c ob Inv Z0 φ0 w s' Z φ W/\ ((v= .slice ad xs.length cp/\ys=xs/\ ∀b,ob=some b->W.heap[b]? =w.heap[b]?)\/ (0<xs.length/\v= .slice (some ⟨g0,0,none⟩) ys.length cp/\ ∃iz,W.heap[g0]? =some (.cells iz el (0,0))/\iz.size=cp *E.size/\aB c.key φ E.size (iz.toList.take (ys.length *E.size)) ys)):=by
 obtain ⟨fR,iT⟩:=aD hE;obtain ⟨ie,z,jW,n8,Pc,Od,Ds⟩:=eF (hT _ E fR) iT;obtain ⟨ie2,z2,Ry,PW,YM⟩:=vh hE hT;rw [jW] at Ry;cases Ry;rw [Od] at PW;cases PW;have hz1: ∀v∈z.cells.toList,v.oneCell'=true:=(YM (gf c.key λ_ _=>none)).cells;have acm:cn P fi #[.slice ad xs.length cp,.func (.func g) #[] lb] w (U2 c ob Inv step Z0 φ0 w xs ys s0 s'):=by
  refine eX Uj.pos Uj.name Uj.body ((RB Uj hp hT hE cu Bp (λh=>⟨(Gi h).1,(Gi h).2.1,(Gi h).2.2.1,(Gi h).2.2.2.1⟩) Pf dL aci hinv iy du hd).mono ?_);rintro e W ⟨Z,φ,h1,h2⟩;rcases h2 with ⟨rfl,h3,h4⟩|⟨k,hk,sk,rfl,h3,h4⟩
  ·exact ⟨_,rfl,Z,φ,h1,.inl ⟨rfl,h3,h4⟩⟩
  ·exact ⟨_,rfl,Z,φ,h1,.inr ⟨k,hk,sk,rfl,h3,h4⟩⟩
 refine calls_of_wp hf.pos hf.body ?_;rw [hf.tmps];generalize I3:(λ(e:Ending) (W:World)=> ∃v,e= .returned v/\ ∃Z φ,uk c ob Inv Z0 φ0 w s' Z φ W/\ ((v= .slice ad xs.length cp/\ys=xs/\ ∀b,ob=some b->W.heap[b]? =w.heap[b]?)\/ (0<xs.length/\v= .slice (some ⟨g0,0,none⟩) ys.length cp/\ ∃iz,W.heap[g0]? =some (.cells iz el (0,0))/\iz.size=cp *E.size/\aB c.key φ E.size (iz.toList.take (ys.length *E.size)) ys)))=YO;have key: ∀a:Act,Tm a 42 (kR (kR (λ_=>undef) 0 (.slice ad xs.length cp)) 1 (.func (.func g) #[] lb))->(BC r o).wp P (bodyPost P fn YO) a w:=by
  intro a af;unfold BC;refine wp_seq (wp_region ?_);rw [show sh (#[o 0]:Array Oper).size=[0] from rfl];refine af.step (v:= .slice none 0 0) rfl hf.ops.h0 (by decide) (aZ hf.ops.h0 _) (λa af=> ?_);refine wp_seq (wp_region ?_);rw [show sh (#[o 1,o 2,o 3,o 4]:Array Oper).size=[0,1,2,3] from rfl];refine af.step (v:= .slice ad xs.length cp) rfl hf.ops.h1 (by decide) (aj hf.ops.h1 _) (λa af=> ?_);refine af.step (v:= .func (.func g) #[] lb) rfl hf.ops.h2 (by decide) (aj hf.ops.h2 _) (λa af=> ?_);refine af.call rfl hf.ops.h3 (by decide) (U0 hf.ops.h3 rfl rfl rfl _) acm ?_;clear acm;rintro v W1 a1 ⟨Z,φ,uj,jt⟩ acn;clear af;refine acn.step (v:=v) rfl hf.ops.h4 (by decide) (aZ hf.ops.h4 _) (λa2 Ru=> ?_);clear acn;refine wp_seq (wp_seq (wp_region ?_));rw [show sh (#[o 5,o 6]:Array Oper).size=[0,1] from rfl];refine Ru.step (v:=v) rfl hf.ops.h5 (by decide) (aj hf.ops.h5 _) (λa3 YR=> ?_);clear Ru;rcases jt with ⟨rfl,rfl,hW⟩|⟨k,hk,sk,rfl,W9,hW⟩
  ·refine YR.step (v:= .bool (decide ((-1:Int)= -1))) rfl hf.ops.h6 (by decide) (iV hf.ops.h6 rfl rfl _) (λa af=> ?_);refine af.cond (b:=true) (by show aac (decide ((-1:Int)= -1))=_;rfl) ?_;simp only [if_true];refine wp_seq (wp_region ?_);rw [show sh (#[o 7,o 8]:Array Oper).size=[0,1] from rfl];refine af.step (v:= .slice ad ys.length cp) rfl hf.ops.h7 (by decide) (aj hf.ops.h7 _) (λa af=> ?_);refine af.step (v:= .slice ad ys.length cp) rfl hf.ops.h8 (by decide) (aZ hf.ops.h8 _) (λa af=> ?_);refine wp_ret ?_;refine GS hf.res af (v:= .slice ad ys.length cp) rfl ?_;rw [<-I3];exact ⟨_,rfl,Z,φ,hW,.inl ⟨rfl,rfl,uj⟩⟩
  ·refine YR.step (v:= .bool (decide ((k:Int)= -1))) rfl hf.ops.h6 (by decide) (iV hf.ops.h6 rfl rfl _) (λa af=> ?_);refine af.cond (b:=false) (by show aac (decide ((k:Int)= -1))=_;rw [decide_eq_false (by omega)]) ?_;simp only [AI,if_false];refine wp_skip ?_;refine wp_seq (wp_seq (wp_region ?_));rw [show sh (#[o 9,o 10,o 11]:Array Oper).size=[0,1,2] from rfl];refine af.step (v:= .int .i64 (k:Int)) rfl hf.ops.h9 (by decide) (aj hf.ops.h9 _) (λa af=> ?_);refine af.step (v:= .int .i64 ((k+1:Nat):Int)) rfl hf.ops.rb (by decide) (eG (q:=1) hf.ops.rb rfl rfl (by omega) _) (λa af=> ?_);refine af.step (v:= .int .i64 ((k+1:Nat):Int)) rfl hf.ops.yU (by decide) (aZ hf.ops.yU _) (λa4 aco=> ?_);clear YR af;obtain ⟨YP,NL,bH,aX,acp,af4⟩:=Gi (by omega);have Hz:=Pf g0 NL;have acq: ∀b,ob=some b->b=g0:=λb hb=>by rw [NL] at hb;exact (adM hb).symm
   have hmul: ∀{a b:Nat},a<=b->a *E.size<=b *E.size:=λh=>aaL _ h;refine wp_block (wp_loop (λa W=> ∃σ,Tm a 42 σ/\σ 0= .slice (some ⟨g0,0,none⟩) xs.length cp/\σ 1= .func (.func g) #[] lb/\ ∃i j:Nat,i<j/\j<=xs.length/\σ 5= .int .i64 (i:Int)/\σ 6= .int .i64 (j:Int)/\ ∃iz sj Z φ yj,W.heap[g0]? =some (.cells iz el (0,0))/\jv step s0 (xs.take j)=some (yj,sj)/\uk c ob Inv Z0 φ0 w sj Z φ W/\ack c E.size xs.length cp cells iz φ i j yj) (λa W=>match a.tmps.getD 6 undef with| .int _ k=>xs.length-k.toNat|_=>0) ?_ ?_)
   ·refine ⟨_,aco,by show abZ ad xs.length cp=_;rw [YP],rfl,k,k+1,by omega,by omega,rfl,rfl,bU,sk,Z,φ,xs.take k,(uj g0 NL).trans bH,W9,hW,⟨af4,?_,by rw [AS];omega,by rw [aX]⟩⟩;have h1:=(dL.mono hW.tr.ph).take k;rw [<-aX,acj] at h1;have h2:Nat.min (k *E.size) (xs.length *E.size)=k *E.size:=adL (hmul (by omega));rw [show min (k *E.size) (xs.length *E.size)=k *E.size from h2] at h1;exact h1
   ·clear uj W9 hW aco bH;rintro a W ⟨σ,af,h0,h1,i,j,Wp,hjn,h5,h6,iz,sj,Z',φ',yj,uj,hdj,hW,hR⟩;have hm6:(match a.tmps.getD 6 undef with| .int _ k=>xs.length-k.toNat|_=>0)=xs.length-j:=by rw [af.get 6,h6];simp
    rw [hm6];clear hm6;have Tv: ∀b,ob=some b-> ¬Z' b:=λb hb hz=>by
     have:=acq b hb;subst this;rcases hW.sub _ hz with h|h
     ·exact Hz.1 h
     ·have:=Hz.2.1;omega
    refine wp_seq (wp_seq (wp_region ?_));rw [show sh (#[o 12,o 13,o 14,o 15]:Array Oper).size=[0,1,2,3] from rfl];refine af.step (v:= .int .i64 (j:Int)) rfl hf.ops.yV (by decide) ((aj hf.ops.yV _).trans (by show BY (AT (σ 6)) W=_;rw [h6])) (λa af=> ?_);refine af.step (v:= .slice (some ⟨g0,0,none⟩) xs.length cp) rfl hf.ops.yW (by decide) ((aj hf.ops.yW _).trans (by show BY (AT (σ 0)) W=_;rw [h0])) (λa af=> ?_);refine af.step (v:= .int .i64 ((xs.length:Nat):Int)) rfl hf.ops.yX (by decide) (gX hf.ops.yX hf.pI rfl _) (λa af=> ?_);refine af.step (v:= .bool (decide ((j:Int)<(xs.length:Int)))) rfl hf.ops.yY (by decide) (BA hf.ops.yY rfl rfl _) (λa af=> ?_);by_cases cz:j<xs.length;rotate_left
    ·
     refine af.cond (b:=false) (by show aac (decide ((j:Int)<(xs.length:Int)))=_;rw [decide_eq_false (by omega)]) ?_;simp only [AI,if_false];refine wp_exit ?_;have af5:j=xs.length:=by omega
     subst af5;rw [adD,hd] at hdj;simp only [aQ,aaE] at hdj;obtain ⟨rfl,rfl⟩:=hdj;have hlen:=hR.len;have jT:=hR.size;have q0:i *E.size+(xs.length-i) *E.size<=iz.size:=by rw [<-acd,jT];exact hmul (by omega)
     have mb:i *E.size<=xs.length *E.size:=hmul (by omega);have HZ:xs.length *E.size<=cp *E.size:=hmul acp;obtain ⟨zs,hzl,acr⟩:=sn (P:=P) (w:=W) (t:=t) (ty:=(o 40).type) (g:=g0) (off:=i *E.size) (n:=xs.length-i) (c:=cp-i) hf.pI jW Od Ds hz1 uj (by omega) q0;have Tn:g0<W.heap.size:=aa8 Hz.2.1 hW.tr.size;obtain ⟨W3,Mu⟩: ∃W3,W3=W.setRow g0 (iz.toList.take (i *E.size)++zs++iz.toList.drop (i *E.size+zs.length)).toArray:=⟨_,rfl⟩
     rw [<-Mu] at acr;have uN:=hW.move hp (W2:=W3) (by rw [Mu];simp [ada]) (λb _ cg=>by rw [Mu];exact setRow_other _ _ _ _ (λe=>cg (by rw [NL,e]))) (by rw [Mu];exact .setRow _ _ _) Tv;show Code.wp P (Code.seq _ _) _ a W;refine wp_seq (wp_region ?_);rw [show sh (#[o 37,o 38,o 39,o 40]:Array Oper).size=[0,1,2,3] from rfl];refine af.step (v:= .slice (some ⟨g0,0,none⟩) xs.length cp) rfl hf.ops.Mo (by decide) ((aj hf.ops.Mo _).trans (by show BY (AT (σ 0)) W=_;rw [h0])) (λa af=> ?_);refine af.step (v:= .int .i64 (i:Int)) rfl hf.ops.Oc (by decide) ((aj hf.ops.Oc _).trans (by show BY (AT (σ 5)) W=_;rw [h5])) (λa af=> ?_);refine af.step rfl hf.ops.UO (by decide) (jo hf.ops.UO hf.pI jW n8 rfl rfl (by omega) (by omega) _) (λa af=> ?_);refine af.WY (v:= .tuple #[]) rfl hf.ops.UP (Mp hf.ops.UP rfl acr) ?_;refine wp_seq (wp_region ?_);rw [show sh (#[o 41,o 42,o 43,o 44]:Array Oper).size=[0,1,2,3] from rfl];refine af.step (v:= .slice (some ⟨g0,0,none⟩) xs.length cp) rfl hf.ops.UQ (by decide) ((aj hf.ops.UQ _).trans (by show BY (AT (σ 0)) W3=_;rw [h0])) (λa af=> ?_);refine af.step (v:= .int .i64 (i:Int)) rfl hf.ops.UR (by decide) ((aj hf.ops.UR _).trans (by show BY (AT (σ 5)) W3=_;rw [h5])) (λa af=> ?_);refine af.step (v:= .slice (some ⟨g0,0,none⟩) i cp) rfl hf.ops.US (by decide) (wk hf.ops.US hf.pI jW n8 rfl rfl (by omega) _) (λa af=> ?_);refine af.step (v:= .slice (some ⟨g0,0,none⟩) i cp) rfl hf.ops.UT (by decide) (aZ hf.ops.UT _) (λa af=> ?_);refine wp_ret ?_;refine GS hf.res af (v:= .slice (some ⟨g0,0,none⟩) i cp) rfl ?_;rw [<-I3];have iG:iz.toList.length=cp *E.size:=by rw [aae,jT]
     refine ⟨_,rfl,_,φ',uN,.inr ⟨by omega,by rw [hlen],_,by rw [Mu];exact dp _ uj,?_,?_⟩⟩
     ·simp only [abe,By,AS,aag,iG,hzl];have:(xs.length-i) *E.size+i *E.size=xs.length *E.size:=by rw [<-acd];congr 1;omega
      omega
     ·rw [hlen,abg,aau (by rw [AS,iG];omega),acj,Nat.min_self];exact hR.done
    ·refine af.cond (b:=true) (by show aac (decide ((j:Int)<(xs.length:Int)))=_;rw [decide_eq_true (by omega)]) ?_;simp only [if_true];refine wp_skip ?_;obtain ⟨yk,UJ,b,sk2,e1,e2,e3⟩:=Mg hd cz;rw [hdj] at e1;simp only [aQ,aaE] at e1;obtain ⟨rfl,rfl⟩:=e1;have RC:=dL.mono hW.tr.ph;obtain ⟨hl,cM⟩:=IZ RC cz;obtain ⟨Fg,zE⟩: ∃Fg,Fg=(cells.drop (j *E.size)).take E.size:=⟨_,rfl⟩
     rw [<-zE] at hl cM;have iG:iz.toList.length=cp *E.size:=by rw [aae,hR.size]
     have hj1:j *E.size+E.size<=xs.length *E.size:=by rw [<-aaW];exact hmul cz
     have HZ:xs.length *E.size<=cp *E.size:=hmul acp;have nx:i *E.size+E.size<=j *E.size:=by rw [<-aaW];exact hmul Wp
     have YQ:W.rangeAt g0 (j *E.size) Fg:=by
      intro q v hq;have hql:q<E.size:=by have:=(aam.1 hq).1;omega
      rw [cell_of uj,<-abr];rw [zE,aa6 hql,<-hR.rest,aah,aa6 (by omega)] at hq;exact hq
     have dS: ∀u∈Fg,u.oneCell'=true:=λu hu=>dL.rO u (by rw [zE] at hu;exact aca (List.mem_of_mem_take hu));obtain ⟨ms,zH⟩:=Bp _ (aaU cz);have K1:bN c.key φ' (.agg Fg.toArray) xs[j]:=BB cM zH;have hsc:(acF Fg.toArray).cells.toList=Fg:=by simp [adG]
     refine wp_seq (wp_block ?_);refine wp_seq (wp_region ?_);rw [show sh (#[o 16,o 17,o 18,o 19,o 20,o 21]:Array Oper).size=[0,1,2,3,4,5] from rfl];refine af.step (v:= .slice (some ⟨g0,0,none⟩) xs.length cp) rfl hf.ops.yZ (by decide) ((aj hf.ops.yZ _).trans (by show BY (AT (σ 0)) W=_;rw [h0])) (λa af=> ?_);refine af.step (v:= .int .i64 (j:Int)) rfl hf.ops.Dt (by decide) ((aj hf.ops.Dt _).trans (by show BY (AT (σ 6)) W=_;rw [h6])) (λa af=> ?_);refine af.step rfl hf.ops.GL (by decide) (GQ hf.ops.GL hf.pI jW n8 rfl rfl cz _) (λa af=> ?_);refine af.step rfl hf.ops.HB (by decide) (Ab hf.ops.HB (hT _ E fR) iT cu hl rfl YQ) (λa af=> ?_);refine af.step rfl hf.ops.HC (by decide) (Ac hf.ops.HC jW Od _) (λa af=> ?_);have Xa:(W.alloc (.cells z.cells el)).heap[W.heap.size]? =some (.cells z.cells el (0,0)):=dm W _;refine af.sr rfl hf.ops.E6 (wv (v:= .agg Fg.toArray) (off:=0) hf.ops.E6 (hT _ E fR) iT rfl rfl (by rw [hsc,hl]) (by rw [hsc];exact dS) Xa (by rw [Ds];omega)) ?_;rw [hsc];obtain ⟨W2,GO⟩: ∃W2,W2=(W.alloc (.cells z.cells el)).setRow W.heap.size (z.cells.toList.take 0++Fg++z.cells.toList.drop (0+E.size)).toArray:=⟨_,rfl⟩
     rw [<-GO];have Ez:W2.heap.size=W.heap.size+1:=by rw [GO,setRow_size];simp
     have hold: ∀b,b<W.heap.size->W2.heap[b]? =W.heap[b]? :=λb hb=>by rw [GO,setRow_other _ _ _ _ (by omega)];exact (bX.alloc W z.cells el).ln b hb
     have Xb:W2.heap[W.heap.size]? =some (.cells Fg.toArray el (0,0)):=by
      rw [GO,dp _ Xa];congr 3;have:z.cells.toList.drop (0+E.size)=[]:=by rw [aaP,aaw];rw [aae,Ds];exact IT _
      rw [this];simp
     have La:Rest W W2:=by rw [GO];exact (Rest.alloc W z.cells el).trans (.setRow _ _ _)
     have Tn:g0<W.heap.size:=aa8 Hz.2.1 hW.tr.size;have uN:=hW.move hp (W2:=W2) (by omega) (λb hb _=>hold b hb) La Tv;have YS: ∀b,ob=some b-> ¬((Z' b/\b<W.heap.size)\/W2.heap.size<=b):=by
      intro b hb;have:=acq b hb;subst this;rintro (h|h)
      ·exact Tv b hb h.1
      ·omega
     have Xc: ∀{W:World} {b:Nat},W.heap[b]? =some (.cells Fg.toArray el (0,0))->W.rangeAt b 0 Fg:=by intro W b hb q v hq;rw [cell_of hb,aaP];simpa using hq
     refine wp_seq (wp_region ?_);rw [show sh (#[o 22,o 23,o 24,o 25]:Array Oper).size=[0,1,2,3] from rfl];refine af.step (v:= .func (.func g) #[] lb) rfl hf.ops.E7 (by decide) ((aj hf.ops.E7 _).trans (by show BY (AT (σ 1)) W2=_;rw [h1])) (λa af=> ?_);refine af.step rfl hf.ops.E8 (by decide) (Ab hf.ops.E8 (hT _ E fR) iT cu hl rfl (Xc Xb)) (λa af=> ?_);refine af.call rfl hf.ops.E9 (by decide) (Mt hf.ops.E9 rfl rfl _) (hp.call uN.inv uN.new uN.fB K1 e2) ?_;rintro v W3 a ⟨rfl,φ3,t1,t2,t3⟩ af;have RF:W3.heap[g0]? =some (.cells iz el (0,0)):=(t1.heap g0 (YS g0 NL) (by omega)).trans ((hold g0 Tn).trans uj);have acs:W3.heap[W.heap.size]? =some (.cells Fg.toArray el (0,0)):=(t1.heap _ (by rintro (h|h)<;>omega) (by omega)).trans Xb;have Mu:uk c ob Inv Z0 φ0 w sk2 (λb=>(Z' b/\b<W.heap.size)\/W2.heap.size<=b) φ3 W3:=⟨t3,λb hb=>uN.new b (abj t1.size hb),uN.sub,t2,uN.tr.trans (t1.sup λb hb=> .inl (uN.sub b hb)),λb off hb=>by rw [t1.free b off (YS b hb)];exact uN.free b off hb⟩
     refine af.step (v:= .bool (!b)) rfl hf.ops.Fa (by decide) (GK hf.ops.Fa rfl _) (λa af=> ?_);cases b with
     |true=>
      refine af.cond (b:=false) rfl ?_;simp only [AI,if_false];refine wp_skip ?_;show Code.wp P (abA (r 10) #[o 34,o 35,o 36] false) _ a W3;refine wp_region ?_;rw [show sh (#[o 34,o 35,o 36]:Array Oper).size=[0,1,2] from rfl];refine af.step (v:= .int .i64 (j:Int)) rfl hf.ops.K9 (by decide) ((aj hf.ops.K9 _).trans (by show BY (AT (σ 6)) W3=_;rw [h6])) (λa af=> ?_);refine af.step (v:= .int .i64 ((j+1:Nat):Int)) rfl hf.ops.Mn (by decide) (eG (q:=1) hf.ops.Mn rfl rfl (by omega) _) (λa af=> ?_);refine af.step (v:= .int .i64 ((j+1:Nat):Int)) rfl hf.ops.Ob (by decide) (aZ hf.ops.Ob _) (λa af=> ?_);refine ⟨⟨_,af,h0,h1,i,j+1,by omega,by omega,h5,rfl,iz,sk2,_,φ3,yj,RF,by rw [e3];rfl,Mu,⟨hR.size,hR.done.mono t1.ph,hR.len,?_⟩⟩,?_⟩
      ·rw [show (j+1) *E.size=j *E.size+E.size from aaW _ _,<-abW,<-abW,hR.rest]
      ·have:a.tmps.getD 6 undef= .int .i64 ((j+1:Nat):Int):=by rw [af.get 6];rfl
       rw [this];simp;omega
     |false=>
      refine af.cond (b:=true) rfl ?_;simp only [if_true];refine wp_seq (wp_region ?_);rw [show sh (#[o 26,o 27,o 28,o 29,o 30]:Array Oper).size=[0,1,2,3,4] from rfl];refine af.step (v:= .slice (some ⟨g0,0,none⟩) xs.length cp) rfl hf.ops.IU (by decide) ((aj hf.ops.IU _).trans (by show BY (AT (σ 0)) W3=_;rw [h0])) (λa af=> ?_);refine af.step (v:= .int .i64 (i:Int)) rfl hf.ops.K6 (by decide) ((aj hf.ops.K6 _).trans (by show BY (AT (σ 5)) W3=_;rw [h5])) (λa af=> ?_);refine af.step rfl hf.ops.K7 (by decide) (Ab hf.ops.K7 (hT _ E fR) iT cu hl rfl (Xc acs)) (λa af=> ?_);refine af.step rfl hf.ops.K8 (by decide) (GQ hf.ops.K8 hf.pI jW n8 rfl rfl (by omega) _) (λa af=> ?_);refine af.sr rfl hf.ops.IV (wv (v:= .agg Fg.toArray) (off:=i *E.size) hf.ops.IV (hT _ E fR) iT rfl rfl (by rw [hsc,hl]) (by rw [hsc];exact dS) RF (by rw [hR.size];omega)) ?_;rw [hsc];obtain ⟨W4,RG⟩: ∃W4,W4=W3.setRow g0 (iz.toList.take (i *E.size)++Fg++iz.toList.drop (i *E.size+E.size)).toArray:=⟨_,rfl⟩
      rw [<-RG];have YT:=Mu.move hp (W2:=W4) (by rw [RG,setRow_size];exact IT _) (λb _ cg=>by rw [RG];exact setRow_other _ _ _ _ (λe=>cg (by rw [NL,e]))) (by rw [RG];exact .setRow _ _ _) YS;refine wp_region ?_;rw [show sh (#[o 31,o 32,o 33]:Array Oper).size=[0,1,2] from rfl];refine af.step (v:= .int .i64 (i:Int)) rfl hf.ops.JZ (by decide) ((aj hf.ops.JZ _).trans (by show BY (AT (σ 5)) W4=_;rw [h5])) (λa af=> ?_);refine af.step (v:= .int .i64 ((i+1:Nat):Int)) rfl hf.ops.J0 (by decide) (eG (q:=1) hf.ops.J0 rfl rfl (by omega) _) (λa af=> ?_);refine af.step (v:= .int .i64 ((i+1:Nat):Int)) rfl hf.ops.J1 (by decide) (aZ hf.ops.J1 _) (λa af=> ?_);show Code.wp P (abA (r 10) #[o 34,o 35,o 36] false) _ a W4;refine wp_region ?_;rw [show sh (#[o 34,o 35,o 36]:Array Oper).size=[0,1,2] from rfl];refine af.step (v:= .int .i64 (j:Int)) rfl hf.ops.K9 (by decide) ((aj hf.ops.K9 _).trans (by show BY (AT (σ 6)) W4=_;rw [h6])) (λa af=> ?_);refine af.step (v:= .int .i64 ((j+1:Nat):Int)) rfl hf.ops.Mn (by decide) (eG (q:=1) hf.ops.Mn rfl rfl (by omega) _) (λa af=> ?_);refine af.step (v:= .int .i64 ((j+1:Nat):Int)) rfl hf.ops.Ob (by decide) (aZ hf.ops.Ob _) (λa af=> ?_);refine ⟨⟨_,af,h0,h1,i+1,j+1,by omega,by omega,rfl,rfl,_,sk2,_,φ3,yj++[xs[j]],by rw [RG];exact dp _ RF,by rw [e3];rfl,YT,⟨?_,?_,by rw [By,hR.len];rfl,?_⟩⟩,?_⟩
      ·simp only [abe,By,AS,aag,iG,hl];omega
      ·rw [show (i+1) *E.size=i *E.size+E.size from aaW _ _];have h9:(iz.toList.take (i *E.size)++Fg).length=i *E.size+E.size:=by rw [By,AS,iG,hl];omega
       show aB c.key φ3 E.size (adU (i *E.size+E.size) (iz.toList.take (i *E.size)++Fg++iz.toList.drop (i *E.size+E.size))) _;rw [<-h9,acv];exact (hR.done.mono t1.ph).append ⟨Fg,[],by simp,hl,cM.mono t1.ph,rfl⟩
      ·show (adU (xs.length *E.size) (iz.toList.take (i *E.size)++Fg++iz.toList.drop (i *E.size+E.size))).drop ((j+1) *E.size)=_;have h8:cells.drop ((j+1) *E.size)=(iz.toList.take (xs.length *E.size)).drop ((j+1) *E.size):=by rw [show (j+1) *E.size=j *E.size+E.size from aaW _ _,<-abW,<-abW,hR.rest]
       rw [h8];apply List.ext_getElem?;intro q;have rb:(j+1) *E.size=j *E.size+E.size:=aaW _ _;rw [aah,aah,aav,aav];split
       ·have h9:(iz.toList.take (i *E.size)++Fg).length=i *E.size+E.size:=by rw [By,AS,iG,hl];omega
        rw [List.getElem?_append_right (by rw [h9];omega),h9,aah];congr 1;omega
       ·rfl
      ·have:a.tmps.getD 6 undef= .int .i64 ((j+1:Nat):Int):=by rw [af.get 6];rfl
       rw [this];simp;omega
 exact key _ (tm2 _ _ 40)
theorem U3 (hf:RE P f t ti tb fu fi el fn r o)(Uj:Rz P fi t ti el fni ri oi)(hT:dt P c.ti)(hE:c.tv el=some E)(cu:E.st=true)(cU:0<E.size):GI P c f el:=by
 refine ⟨?_⟩;intro S Inv step g lb hp v0 xs ys w Z0 φ0 s0 s' Bp db zJ hinv iy du hd;obtain ⟨fR,iT⟩:=aD hE;obtain ⟨I,cells,hI,JV,cb,dL,et⟩:=db.row;have hI:c.ti el=some I:=hI;rw [fR] at hI;cases hI;have cb:w.ownsRow 0 el E.size v0 xs.length cells:=cb;have dL:aB c.key φ0 E.size cells xs:=dL;have jn: ∀b,v0.ownBlock=some b-> ∀off,φ0 b off=none:=by
  intro b hb off;cases h:φ0 b off with
  |none=>rfl
  |some u=>have:=((et b hb).2.1 off u h).1;cases this
 rcases cb.2 with ⟨rfl,h0⟩|⟨gb,cap,bU,rfl,_,bH,HZ,vL,mU,Ey⟩
 ·have hx:xs=[]:=abC h0;subst hx;refine eX hf.pos hf.name hf.body ((I4 (ob:=none) (g0:=0) (bU:= #[]) hf Uj hp hT hE cu cU (cp:=0) Bp (λh=>absurd h (by simp)) (λb hb=>by cases hb) dL (by simp) hinv iy du hd).mono ?_);rintro e W ⟨v,rfl,Z,φ,hW,h1⟩;rcases h1 with ⟨rfl,rfl,_⟩|⟨h1,_⟩
  ·exact ⟨_,rfl,Z,φ,hW,⟨E,[],fR,iT,⟨by simp,.inl ⟨rfl,rfl⟩⟩,rfl,λaA hb=>by simp [aai] at hb⟩,λ_ h=>h⟩
  ·simp at h1
 ·have cz:=aC bH;have af7:xs.length<2^63:=by unfold Go.maxLen at vL;omega
  refine eX hf.pos hf.name hf.body ((I4 (ob:=some gb) (g0:=gb) hf Uj hp hT hE cu cU (cp:=cap) Bp (λh=>⟨rfl,rfl,bH,Ey,HZ,mU⟩) (λb hb=>by cases hb;exact ⟨zJ gb rfl,cz,jn gb rfl⟩) dL af7 hinv iy du hd).mono ?_);rintro e W ⟨v,rfl,Z,φ,hW,h1⟩;rcases h1 with ⟨rfl,rfl,h2⟩|⟨h0,rfl,iz,h2,h3,h4⟩
  ·refine ⟨_,rfl,Z,φ,hW,⟨E,cells,fR,iT,⟨cb.1,.inr ⟨gb,cap,bU,rfl,aaN _,(h2 gb rfl).trans bH,HZ,vL,mU,Ey⟩⟩,dL.mono hW.tr.ph,λaA hb=>⟨hb,λoff u hu=> ?_,λhc=>hc.elim⟩⟩,λ_ h=>h⟩;have hu:φ aA off=some u:=hu;rw [hW.free aA off hb] at hu;cases hu
  ·have hle:ys.length<=cap:=abj (Rk hd) HZ;refine ⟨_,rfl,Z,φ,hW,⟨E,iz.toList.take (ys.length *E.size),fR,iT,⟨?_,.inr ⟨gb,cap,iz,rfl,aaN _,?_,hle,vL,h3,rfl⟩⟩,h4,λaA hb=>⟨hb,λoff u hu=> ?_,λhc=>hc.elim⟩⟩,λ_ h=>h⟩
   ·exact h4.length
   ·have:iz=iz:=rfl;exact h2
   ·have hu:φ aA off=some u:=hu;rw [hW.free aA off hb] at hu;cases hu
end
end Dn
/-
  A step for each one that is not bad. Conditions: none.
-/
namespace Dn
end Dn
/-
  A method that calls a function for each good one, walked, with whatever function; closures that hand a captured variable on. Conditions: none.
-/
namespace Dn
open Go
section
variable {P:Program}{c:Ctx}{ops:Array Oper}{N:Act->World->Prop} {φ:Ph}{o:Oper}{a:Act} {w w':World}{n:Nat} {σ:Nat->Value}{Q:Exit->Act->World->Prop}
structure DS (c:Ctx) (ops:Array Oper) (pre rest:List Nat) (listed:Array Bool):Prop where
 U4:Pg ops listed pre
 dr:kL c ops.toList pre rest=true
 all: ∀i,i<ops.size->i∈pre\/i∈rest
 lt: ∀i∈pre,i<ops.size
 sel: ∀(j:Nat) (o:Oper) cs b,ops[j]? =some o->o.op≠ .select cs b
theorem DS.facts {x:Nat}{rest pre:List Nat}{listed:Array Bool}(h:DS c ops pre (x::rest) listed)(hx:ops[x]? =some o): x∉pre/\x∉rest/\x∈aaO .any ops listed/\DS c ops (x::pre) rest (listed.setIfInBounds x true)/\ (bif dx o&&!c8 c o then kK c ops.toList o [x] rest else (rest.all λy=>match ops.toList[y]? with
   |some p=>bif zw p then Aw ops.toList p o&&XD c p else pM p (λi=>abv i x||(aP rest i&&!XE ops.toList i))
   |none=>false))=true:=by
 have KW:x<ops.size:=(aad.1 hx).1;have hd:=h.dr;have WM:ops.toList[x]? =some o:=by simpa using hx
 simp only [kL,WM] at hd;simp only [IN,adu] at hd;obtain ⟨⟨⟨⟨d1,d2⟩,d3⟩,d4⟩,d5⟩:=hd;have sd:x∉pre:=by rw [<-aN,d2];simp
 have Bn:x∉rest:=by rw [<-aN,d3];simp
 refine ⟨sd,Bn,?_,⟨h.U4.set KW,d5,?_,?_,h.sel⟩,?_⟩
 ·refine mem_ready.2 ⟨(h.U4.jC KW).2 sd,o,hx,λed N2 hb=> ?_⟩;have:=aa0.1 d1 ed (by simpa using N2);simp only [kf,hb,adR,ac6] at this;have hm:=(aN _ _).1 this;exact (h.U4.done (h.lt _ hm)).2 hm
 ·intro i hi;rcases h.all i hi with h1|h1
  ·exact .inl (by simp [h1])
  ·rcases abw.1 h1 with h1|h1
   ·exact .inl (by simp [h1])
   ·exact .inr h1
 ·intro i hi;rcases abw.1 hi with rfl|hi
  ·exact KW
  ·exact h.lt i hi
 ·exact d4
theorem U5 {o:Oper}(h:iK o=true):eE c o=true:=by simp [eE,h]
theorem DS.read {x d:Nat}{rest pre:List Nat}{listed:Array Bool}{op:Op}{v:Value}(h:DS c ops pre (x::rest) listed)(hx:ops[x]? =some o)(ho:ae o d op)(hd:d<n)(DC:dx o=true)(hmv:c8 c o=false)(cu:still c o=false)(hlk:rD o=none)(af:Tm a n σ)(hi:iA φ w)(aV: ∀w',(iK o=true->bX w w')->(execOp (ev σ) o).run P w'= .ok (.value v) w')(EH: ∀a',Tm a' n (kR σ d v)->DS c ops (x::pre) rest (listed.setIfInBounds x true)->rc P c ops N φ rest.length (listed.setIfInBounds x true) a' w):rc P c ops N φ (rest.length+1) listed a w:=by
 obtain ⟨sd,Bn,mn,mT,d4⟩:=h.facts hx;simp only [DC,hmv,acA,Bool.and_self,cond_true] at d4;obtain ⟨D,D1,D2,D3,D4⟩:=nZ rest [x] d4 (λy hy cg=>absurd (by simpa using hy) cg);have hL:=h.U4;refine p0 (v:=v) D3 hx h.sel rest.length listed a w ?_ ?_ mn ?_ hi ?_
 ·intro j oj KV WL hjx Iz;have IG:j<ops.size:=(aad.1 KV).1;have hjr:j∈rest:=by
   rcases h.all j IG with h1|h1
   ·exact absurd h1 ((hL.jC IG).1 Iz)
   ·rcases abw.1 h1 with h1|h1
    ·exact absurd h1 hjx
    ·exact h1
  obtain ⟨p,Np,EA,hp3⟩:=D4 j hjr WL;rw [KV] at Np;cases Np;exact ⟨EA,λhl hs=>by simp [ke,KV,hp3 hl hs]⟩
 ·intro d hd;have TP:d∉pre:=by
   rcases D2 d hd with h1|h1
   ·have h1:d=x:=by simpa using h1
    rw [h1];exact sd
   ·exact λhp=>gy rest (x::pre) mT.dr d h1 (by simp [hp])
  by_cases JY:d<ops.size
  ·cases hg:listed.getD d false with
   |false=>rfl
   |true=>exact absurd ((hL.done JY).1 hg) TP
  ·have hl: ¬d<listed.size:=by rw [hL.size];exact JY
   simp [hl]
 ·refine .inl ⟨by simp [aao,ho.guard],λw' hg=> ?_⟩;rw [af.eval];refine aV w' (λhl=> ?_);have:=(hg (U5 hl)).1 cu;simpa [cO,KL,hlk] using this
 ·rw [ho.dst];exact EH _ (af.put hd v) mT
theorem DS.acu {x:Nat}{rest pre:List Nat}{listed:Array Bool}(h:DS c ops pre (x::rest) listed)(hx:ops[x]? =some o)(Tq: ∀y∈rest,∀p,ops[y]? =some p->zw p=false)(hnr:(dx o&&!c8 c o)=false)(hw:wpOp P ops (jB N) x (λa' w'=>((∀oi,ke c oi ops x=true->cO c oi w w')/\iA φ w')/\rc P c ops N φ rest.length (listed.setIfInBounds x true) a' w') a w):rc P c ops N φ (rest.length+1) listed a w:=by
 obtain ⟨sd,Bn,mn,mT,d4⟩:=h.facts hx;simp only [hnr,cond_false] at d4;refine ⟨λh0=>(by rw [h0] at mn;cases mn),λi hi=> ?_⟩;obtain ⟨Ux,oi,N3,KY⟩:=mem_ready.1 hi;have N4:i<ops.size:=(aad.1 N3).1;have mb:=(h.U4.jC N4).1 Ux;by_cases IA:i=x
 ·subst IA;exact hw
 ·exfalso;have hir:i∈rest:=by
   rcases h.all i N4 with h1|h1
   ·exact absurd h1 mb
   ·exact (abw.1 h1).resolve_left IA
  have h1:=aa0.1 d4 i hir;have Yz:ops.toList[i]? =some oi:=by simpa using N3
  simp only [Yz,Tq i hir oi N3,cond_false] at h1;unfold pM at h1;obtain ⟨ed,N2,hb⟩:=adE.1 h1;simp only [IN,Bool.or_eq_true,kf] at hb;have E0:=KY ed (by simpa using N2) hb.1;have lu:ed.on=x\/ed.on∈rest:=by
   rcases hb.2 with h2|h2
   ·exact .inl (aal h2)
   ·exact .inr ((aN _ _).1 h2.1)
  have cz:ed.on<listed.size:=by apply Decidable.byContradiction;intro hh;simp [hh] at E0
  have hm:=(h.U4.done (by rw [<-h.U4.size];exact cz)).1 E0;rcases lu with h2|h2
  ·rw [h2] at hm;exact sd hm
  ·exact gy rest (x::pre) mT.dr _ h2 (by simp [hm])
theorem DS.done {pre:List Nat}{listed:Array Bool}(h:DS c ops pre [] listed)(hN:N a w):rc P c ops N φ 0 listed a w:=by
 refine ⟨?_,hN⟩;cases hr:aaO .any ops listed with
 |nil=>rfl
 |cons i is=>
  have hi:i∈aaO .any ops listed:=by rw [hr];simp
  obtain ⟨h1,o,ho,_⟩:=mem_ready.1 hi;have cz:i<ops.size:=(aad.1 ho).1;exact absurd ((h.all i cz).resolve_right (by simp)) ((h.U4.jC cz).1 h1)
theorem I5 {id:Nat}{ord:List Nat}(hm:P.follows .mixedOrders=true)(hd:lU c ops ord=true)(h: ∀listed,DS c ops [] ord listed->rc P c ops (λa w=>Q .normal a w) φ ord.length listed a {w with drawn:=w.drawn+1}):(abA id ops true).wp P Q a w:=by
 simp only [lU,IN] at hd;obtain ⟨⟨⟨QC,XW⟩,rL⟩,hd⟩:=hd;have DQ: ∀(j:Nat) (o:Oper) cs b,ops[j]? =some o->o.op≠ .select cs b:=by intro j o cs b ho he;have:=aa0.1 QC o (List.mem_of_getElem? (by simpa using ho:ops.toList[j]? =some o));simp [he] at this
 have hlen:ord.length=ops.size:=by have:=aal XW;simpa using this
 refine adW (Q:=jB λa w=>Q .normal a w) ?_ (wp_region_any hm (Iy (c:=c) (φ:=φ) _ _ _ _ ?_))
 ·intro x a' w' hx;cases x<;>first|exact hx|exact hx.elim
 ·rw [<-hlen];exact h _ ⟨⟨by simp [hlen],λi hi=>by simp [hlen,hi]⟩,hd,λi hi=> .inr ((aN _ _).1 (aa0.1 rL i (by simpa using hi))),by simp,DQ⟩
end
section
variable {P:Program}{c:Ctx}{o:Oper} {w w':World}{d:Nat}{e:Operand->Value}
theorem fc {t f g off q:Nat}{x:Operand}{I:TI}(ho:ae o d (.fieldAddr t x f))(hT:dt P c.ti)(hI:c.tv t=some I)(cu:I.st=true)(hq:I.zq[f]? =some q)(hx:e x= .pointer (some ⟨g,off,none⟩))(w:World):(execOp e o).run P w= .ok (.value (.pointer (some ⟨g,off+q,none⟩))) w:=by
 obtain ⟨fH,hc⟩:=aD hI;obtain ⟨d,i,h1,h2,h3,h4⟩:=hT t I fH;cases d<;>simp only [kM] at h4;case struct fs=>
  obtain ⟨_,_,_,Tj,bJ,LQ,_⟩:=h4;rw [<-Tj,ab0] at hq;cases hf:fs.toList[f]? with
  |none=>simp [hf] at hq
  |some fl=>
   simp [hf] at hq;subst hq;have P0:fs[f]? =some fl:=by simpa using hf
   obtain ⟨J,hJ,Ti,hJs⟩:=LQ f fl P0;obtain ⟨ij,Wp,hs,_⟩:=(hT _ _ hJ).info Ti;have hz:ij.size≠0:=by omega
   simp [execOp,ho.op,hx,Instr.fieldAt,run_underlying h1,P0,acB,fieldPlace,acC,typeInfo,Wp,hz,abU]
 all_goals (exfalso;simp_all)
theorem gz {t g off:Nat}{I:TI}{v:Value}(hT:dt P c.ti)(hI:c.tv t=some I)(cu:I.st=false)(hs:I.size=1)(hm:w.cell? ⟨g,off,none⟩=some v):(aa1 t (.pointer (some ⟨g,off,none⟩))).run P w= .ok v w:=by
 obtain ⟨fH,hc⟩:=aD hI;have hr:w.rangeAt g off [v]:=by
  intro j u hj;cases j with
  |zero=>simp at hj;subst hj;exact hm
  |succ j=>simp at hj
 rcases dK (P:=P) (hT t I fH) hc (vs:=[v]) (by simp [hs]) hr with ⟨h,_⟩|⟨_,u,hu,h⟩
 ·rcases h with h|h
  ·rw [cu] at h;cases h
  ·omega
 ·simp at hu;subst hu;exact h w hr
theorem vk {t g off:Nat}{I:TI}{vs:List Value}(hT:dt P c.ti)(hI:c.tv t=some I)(cu:I.st=true)(hs:vs.length=I.size)(hm:w.rangeAt g off vs):(aa1 t (.pointer (some ⟨g,off,none⟩))).run P w= .ok (.agg vs.toArray) w:=by
 obtain ⟨fH,hc⟩:=aD hI;rcases dK (P:=P) (hT t I fH) hc hs hm with ⟨_,h⟩|⟨h,_⟩
 ·exact h w hm
 ·rw [cu] at h;cases h
theorem n9 {t:Nat}{x:Operand}{v:Value}(ho:ae o d (.load t x))(h:(aa1 t (e x)).run P w= .ok v w):(execOp e o).run P w= .ok (.value v) w:=by simp [execOp,ho.op,h]
theorem kg {x:Operand}{ad:Addr}(ho:ae o d (.nilCheck x))(hx:e x= .pointer (some ad))(w:World):(execOp e o).run P w= .ok (.value (.pointer (some ad))) w:=by simp [execOp,ho.op,hx]
theorem U6 {t el:TypeId}{x y:Operand}{g off n cp j size:Nat}{i:TypeInfo}(ho:ae o d (.indexAddr t x y))(hu:P.underlying t=some (.slice el))(hi:P.info? el=some i)(hs:i.size=size)(hx:e x= .slice (some ⟨g,off,none⟩) n cp)(hy:e y= .int .i64 ((j:Nat):Int))(hj:j<n)(w:World):(execOp e o).run P w= .ok (.value (.pointer (some ⟨g,off+j *size,none⟩))) w:=by
 have h2: ¬n<=j:=by omega
 simp [execOp,ho.op,hx,hy,adQ,asIntOf,run_underlying hu,h2,acC,typeInfo,hi,hs,abU]
theorem Mv {t:Nat}{x:Operand}(ho:ae o d (.box t x))(w:World):(execOp e o).run P w= .ok (.value (.pointer (some ⟨w.heap.size,0,none⟩))) (w.alloc (.cells (e x).cells t)):=by simp [execOp,ho.op,Instr.box,newVar,newRow,newObj,Sem.run]
theorem GU {x:Operand}{t:TypeId}{g:Nat}{v:Value}(ho:ae o d (.call {callee:= .value (.func g),args:= #[x],argTypes:= #[t]})) (he:e (.func g)= .func (.func g) #[] #[]) (hx:e x=v) (w:World):(execOp e o).run P w=(callFunc g #[v]).run P w:=by simp [execOp,ho.op,resolve,invoke,he,hx,aas]
theorem GV {x y:Operand}{t:Array TypeId}{g:Nat}{v u:Value}(ho:ae o d (.call {callee:= .value (.func g),args:= #[x,y],argTypes:=t})) (he:e (.func g)= .func (.func g) #[] #[]) (hx:e x=v) (hy:e y=u) (w:World):(execOp e o).run P w=(callFunc g #[v,u]).run P w:=by simp [execOp,ho.op,resolve,invoke,he,hx,hy,aas]
theorem Mw {x y z:Operand}{t:Array TypeId}{g:Nat}{v u s:Value}(ho:ae o d (.call {callee:= .value (.func g),args:= #[x,y,z],argTypes:=t})) (he:e (.func g)= .func (.func g) #[] #[]) (hx:e x=v) (hy:e y=u) (hz:e z=s) (w:World):(execOp e o).run P w=(callFunc g #[v,u,s]).run P w:=by simp [execOp,ho.op,resolve,invoke,he,hx,hy,hz,aas]
end
structure ad8 (tS tb tB ti:Nat) (o:Nat->Oper):Prop where
 h0:ae (o 0) 6 (.move (.tmp 0))
 h1:ae (o 1) 7 (.nilCheck (.tmp 6))
 h2:ae (o 2) 8 (.fieldAddr tS (.tmp 7) 1)
 h3:ae (o 3) 9 (.load tb (.tmp 8))
 h4:ae (o 4) 10 (.call {callee:= .builtin .len,args:= #[.tmp 9],argTypes:= #[tb]})
 h5:ae (o 5) 11 (.move (.const (.int .i64 0)))
 h6:ae (o 6) 12 (.binOp .lss ti (.tmp 11) (.tmp 10) ti)
 h7:ae (o 7) 13 (.move (.tmp 11))
 h8:ae (o 8) 14 (.indexAddr tb (.tmp 9) (.tmp 11))
 h9:ae (o 9) 15 (.load tB (.tmp 14))
 rb:ae (o 10) 4 (.assign (.tmp 13))
 yU:ae (o 11) 5 (.assign (.tmp 15))
 yV:ae (o 12) 16 (.move (.tmp 5))
 yW:ae (o 13) 17 (.unOp .not tB (.tmp 16))
 yX:ae (o 14) 18 (.move (.tmp 1))
 yY:ae (o 15) 19 (.move (.tmp 4))
 yZ:ae (o 16) 20 (.call {callee:= .value (.tmp 18),args:= #[.tmp 19],argTypes:= #[ti]})
 Dt:ae (o 17) 21 (.binOp .add ti (.tmp 11) (.const (.int .i64 1)) ti)
 GL:ae (o 18) 11 (.move (.tmp 21))
theorem YU {P:Program}{fn:Func}{n:Nat}{a:Act}{w:World} {σ:Nat->Value}{R:Value->World->Prop}(hr:fn.results= #[])(af:Tm a n σ)(h: ∀v,R v w):bodyPost P fn (λe W=> ∃v,e= .returned v/\R v W) .normal a w:=by refine ⟨af.defers,.tuple #[],?_,_,rfl,h _⟩;simp [results,hr]
section
variable {P:Program}{c:Ctx}{f tS tb tB ti:Nat}{fn:Func}{r:Nat->Nat}{o:Nat->Oper}{IS Ib IB:TI}{w:World}
end
structure aif (P:Program) (f fE tP t3:Nat) (fn:Func) (r:Nat) (o:Nat->Oper):Prop where
 pos:P.funcs[f]? =some fn
 name:(fn.name== "runtime.NumGoroutine")=false
 tmps:fn.ntmps=8
 res:fn.results= #[]
 body:fn.body=some (.region r #[o 0,o 1,o 2,o 3] false)
 h0:ae (o 0) 4 (.load tP (.tmp 1))
 h1:ae (o 1) 5 (.move (.tmp 0))
 h2:ae (o 2) 6 (.load t3 (.tmp 2))
 h3: ∃ts,ae (o 3) 7 (.call {callee:= .value (.func fE),args:= #[.tmp 4,.tmp 5,.tmp 6],argTypes:=ts})
end Dn
/-
  What stands in a variable of six parts, of which one is owned: looks at it, and calls that are handed it. Conditions: none.
-/
namespace Dn
open Go
structure CS where
 F:Int
 T:Int
 bl:List MV
 wl:List MV
 nl:List MV
 pl:List MV
def CS.ls (s:CS):List MV:=[.i .i64 s.F,.i .i64 s.T,.list s.bl,.list s.wl,.list s.nl,.list s.pl]
abbrev KS (f ty:Nat):List LK:=[.k (.i .i64),.k (.i .i64),.k .l,.k .l,.own f ty false,.k .l]
structure Six where
 b:Value
 w:Value
 n:Value
 p:Value
def Six.vs (s:CS)(v:Six):List Value:=[.int .i64 s.F,.int .i64 s.T,v.b,v.w,v.n,v.p]
structure I6 (c:Ctx) (Z:Nat->Prop) (φ:Ph) (W:World) (bc ty:Nat) (s:CS) (v:Six):Prop where
 heap: ∃T,W.heap[bc]? =some (.cells (v.vs s).toArray T (0,0))
 bt:Z bc
 free: ∀o,φ bc o=none
 b:dI c.key φ [v.b] (.list s.bl)
 w:dI c.key φ [v.w] (.list s.wl)
 p:dI c.key φ [v.p] (.list s.pl)
 n:bw c (aO.plain Z) (gf c.key φ) W v.n ⟨ty,false,s.nl⟩
 off:v.n.ownBlock≠some bc
section
variable {P:Program}{c:Ctx}{Z:Nat->Prop} {φ:Ph} {W W':World}{bc ty f:Nat}{s:CS}
theorem RH:EG (KS f ty) s.ls=some ([.p (.i .i64 s.F),.p (.i .i64 s.T),.p (.list s.bl),.p (.list s.wl),.own f,.p (.list s.pl)],[(f,⟨ty,false,s.nl⟩)]):=by simp [EG,CS.ls,KS,bR,fG,eA,gC,gI,gL,gN,HG]
theorem GW {key:Nat->Nat}{vs:List Value}{m:MV}(h:dI key φ vs m)(hm:m.one=true): ∃v,vs=[v]:=by obtain ⟨v,h1,_⟩:=h.one hm;exact ⟨v,h1⟩
theorem cN.six (h:cN c Z φ W bc (KS f ty) s.ls): ∃v,I6 c Z φ W bc ty s v:=by
 obtain ⟨cs,m,E,arr,T,h1,h2,h3,h4,h5,h6,h7⟩:=h;rw [RH] at h1;simp only [aQ,aaE] at h1;obtain ⟨rfl,rfl⟩:=h1;obtain ⟨v0,r0,e0,⟨_,l0⟩,h5⟩:=h5;obtain ⟨v1,r1,e1,⟨_,l1⟩,h5⟩:=h5;obtain ⟨v2,r2,e2,⟨_,l2⟩,h5⟩:=h5;obtain ⟨v3,r3,e3,⟨_,l3⟩,h5⟩:=h5;obtain ⟨v4,r4,e4,⟨vn,rfl,_,hE⟩,h5⟩:=h5;obtain ⟨v5,r5,e5,⟨_,l5⟩,h5⟩:=h5;have h5:r5=[]:=h5;subst h5;have l0:dI c.key φ v0 (.i .i64 s.F):=l0;have l1:dI c.key φ v1 (.i .i64 s.T):=l1;cases l0;cases l1;have l2:dI c.key φ v2 (.list s.bl):=l2;have l3:dI c.key φ v3 (.list s.wl):=l3;have l5:dI c.key φ v5 (.list s.pl):=l5;obtain ⟨vb,rfl⟩:=GW l2 rfl;obtain ⟨vw,rfl⟩:=GW l3 rfl;obtain ⟨vp,rfl⟩:=GW l5 rfl;have hf:ar [(f,(⟨ty,false,s.nl⟩:jb))] f=some ⟨ty,false,s.nl⟩:=by simp [ar]
 have hE:=hE _ hf;subst hE;obtain ⟨k1,k2⟩:=h6 f _ hf;refine ⟨⟨vb,vw,_,vp⟩,⟨T,?_⟩,h3,h4,l2,l3,l5,k1.env rfl rfl,k2⟩;have:arr=(Six.vs s ⟨vb,vw,E f,vp⟩).toArray:=by apply adF.1;rw [e0,e1,e2,e3,e4,e5];rfl
 rw [<-this];exact h2
theorem I6.cell {v:Six}(h:I6 c Z φ W bc ty s v):cN c Z φ W bc (KS f ty) s.ls:=by
 obtain ⟨T,hh⟩:=h.heap;have dS:v.n.oneCell'=true:=by obtain ⟨I,cells,q1,q2,q3,q4,q5⟩:=h.n.row;rcases q3.2 with ⟨h1,_⟩|⟨g,cap,bU,h1,_⟩<;>rw [h1]<;>rfl
 have hf: ∀f' o',ar [(f,(⟨ty,false,s.nl⟩:jb))] f'=some o'->f'=f/\o'=⟨ty,false,s.nl⟩:=by
  intro f' o' ho;simp only [ar,cY] at ho;by_cases cS:f=f'
  ·subst cS;simp at ho;exact ⟨rfl,ho.symm⟩
  ·simp [cS] at ho
 refine ⟨_,_,λ_=>v.n,_,T,RH,hh,h.bt,h.free,?_,?_,?_⟩
 ·exact ⟨[_],_,rfl,⟨rfl,.i _ _⟩,[_],_,rfl,⟨rfl,.i _ _⟩,[_],_,rfl,⟨rfl,h.b⟩,[_],_,rfl,⟨rfl,h.w⟩,[_],_,rfl,⟨_,rfl,dS,λ_ _=>rfl⟩,[_],_,rfl,⟨rfl,h.p⟩,rfl⟩
 ·intro f' o' ho;obtain ⟨rfl,rfl⟩:=hf f' o' ho;exact ⟨h.n.env rfl rfl,h.off⟩
 ·intro f1 f2 o1 o2 k h1 h2 _ _;exact (hf f1 o1 h1).1.trans (hf f2 o2 h2).1.symm
theorem cN.frame {aA:Nat}{ks:List LK}{ls:List MV}(h:cN c Z φ W aA ks ls)(jT:W.heap.size<=W'.heap.size)(eo: ∀b,Z b->b<W.heap.size->W'.heap[b]? =W.heap[b]?):cN c (λb=>Z b/\b<W.heap.size) φ W' aA ks ls:=by
 obtain ⟨cs,m,E,arr,T,k1,k2,k3,k4,k5,k6,k7⟩:=h;have cz:=aC k2;refine ⟨cs,m,E,arr,T,k1,(eo aA k3 cz).trans k2,⟨k3,cz⟩,k4,k5,λf' o' ho=>⟨?_,(k6 f' o' ho).2⟩,k7⟩;obtain ⟨I,cells,q1,q2,q3,q4,q5⟩:=(k6 f' o' ho).1.row;refine ⟨I,cells,q1,q2,⟨q3.1,?_⟩,q4,λb hb=>⟨⟨(q5 b hb).1,AR q3 hb⟩,(q5 b hb).2⟩⟩;rcases q3.2 with h6|⟨g,cap,bU,r1,r2,r3,r4⟩
 ·exact .inl h6
 ·exact .inr ⟨g,cap,bU,r1,r2,(eo g (q5 g (by rw [r1];rfl)).1 (aC r3)).trans r3,r4⟩
theorem cN.more {φ':Ph}{aA:Nat}{ks:List LK}{ls:List MV}(h:cN c Z φ W aA ks ls)(hp:dJ φ φ')(hz: ∀b o,Z b->φ' b o=φ b o):cN c Z φ' W aA ks ls:=by
 obtain ⟨cs,m,E,arr,T,k1,k2,k3,k4,k5,k6,k7⟩:=h;have lu:eR (λ_=>True) (λ_=>True) ⟨c.key,φ,E,λ_=>aA,m⟩ ⟨c.key,φ',E,λ_=>aA,m⟩:=⟨rfl,hp,λ_ _=>rfl,λf o ho _=>⟨o,ho,rfl,rfl⟩⟩
 refine ⟨cs,m,E,arr,T,k1,k2,k3,λo=>by rw [hz aA o k3];exact k4 o,k5.on lu (λ_ _ _ _=>trivial),λf' o' ho=>⟨?_,(k6 f' o' ho).2⟩,k7⟩;obtain ⟨I,cells,q1,q2,q3,q4,q5⟩:=(k6 f' o' ho).1.row;refine ⟨I,cells,q1,q2,q3,q4.mono hp,λb hb=>⟨(q5 b hb).1,λoff u hu=>(q5 b hb).2.1 off u ?_,λhc=>hc.elim⟩⟩;have hu:φ' b off=some u:=hu;rw [hz b off (q5 b hb).1] at hu;exact hu
theorem bw.still {v:Value}{xs:List MV}(h:bw c (aO.plain Z) (gf c.key φ) W v ⟨ty,false,xs⟩)(hi:iA φ W): ∃φ',dJ φ φ'/\iA φ' W/\(∀b o,v.ownBlock≠some b->φ' b o=φ b o)/\dI c.key φ' [v] (.list xs):=by
 obtain ⟨I,cells,hI,JV,cb,dL,hz⟩:=h.row;have dL:aB c.key φ I.size cells xs:=dL;have hlen:=dL.length;have Tq: ∀b,v.ownBlock=some b-> ∀off,φ b off=none:=by
  intro b hb off;cases hq:φ b off with
  |none=>rfl
  |some u=>exact absurd ((hz b hb).2.1 off u hq).1 (by simp)
 have hle:dJ φ (eS φ v cells):=by
  intro b off u hu;unfold eS;by_cases hc:v.ownBlock=some b/\off<cells.length
  ·rw [Tq b hc.1 off] at hu;cases hu
  ·rw [if_neg hc];exact hu
 refine ⟨eS φ v cells,hle,?_,λb o hb=>by unfold eS;simp [hb],?_⟩
 ·intro b off u hu;unfold eS at hu;by_cases hc:v.ownBlock=some b/\off<cells.length
  ·rw [if_pos hc] at hu;rcases cb.2 with ⟨hE,_⟩|⟨g,cap,bU,hE,_,hg,hn,vL,mU,Ey⟩
   ·rw [hE] at hc;simp [aai] at hc
   ·rw [hE] at hc;simp only [aai,aQ] at hc;obtain ⟨hb,ho⟩:=hc;subst hb;rw [cell_of hg];rw [<-Ey,aav] at hu;have aih:cells.length=xs.length *I.size:=hlen;have akj:adU (xs.length *I.size) bU.toList=cells:=Ey;have bJ:off<xs.length *I.size:=by omega
    simp only [bJ,if_true] at hu;simpa using hu
  ·rw [if_neg hc] at hu;exact hi _ _ _ hu
 ·have rM:=dL.mono hle;rcases cb.2 with ⟨hE,hn⟩|⟨g,cap,bU,hE,_,hg,hn,vL,mU,Ey⟩
  ·have hx:xs=[]:=abC hn;rw [hE,hx];exact .list none 0 [] 0 0 0 (λ_=>[]) (by simp) (by simp) (by simp) (by simp) (by simp)
  ·have hv:[v]=[abZ (some ⟨g,0,none⟩) xs.length cap]:=by rw [hE]
   rw [hv];have zE: ∀i (hi:i<xs.length),∃v1,v1.length=I.size/\dI c.key (eS φ v cells) v1 xs[i]/\(cells.drop (i *I.size)).take I.size=v1:=by intro i hi;obtain ⟨p1,v1,p2,he,Ge,om,cM⟩:=rM.at (aap hi);refine ⟨v1,om,cM,?_⟩;rw [he,abg,<-Ge,adN,<-om,acv]
   refine .list (some ⟨g,0,none⟩) cap xs g 0 I.size (λi=>(cells.drop (i *I.size)).take I.size) hn (λ_=>rfl) ?_ ?_ ?_
   ·intro i hi;obtain ⟨v1,h1,_,h3⟩:=zE i hi;rw [h3,h1]
   ·intro i j hi hj;have hb:v.ownBlock=some g:=by rw [hE];rfl
    have rN:i *I.size+j<cells.length:=by
     rw [hlen];calc i *I.size+j<i *I.size+I.size:=by omega
      _=(i+1) *I.size:=by rw [aaW]
      _<=xs.length *I.size:=aaL _ hi
    rw [aaP];unfold eS;simp only [hb,rN,and_self,if_true];rw [aav];simp only [hj,if_true,aah]
   ·intro i hi;obtain ⟨v1,_,h2,h3⟩:=zE i hi;rw [h3];exact h2
def DT (φ:Ph)(b:Nat)(vs:List Value):Ph:=λb' o=>if b'=b then vs[o]? else φ b' o
theorem BD {b:Nat}{vs:List Value}(h: ∀o,φ b o=none):dJ φ (DT φ b vs):=by
 intro b' o u hu;unfold DT;by_cases hb:b'=b
 ·subst hb;rw [h] at hu;cases hu
 ·rw [if_neg hb];exact hu
theorem wz {b:Nat}{vs:List Value}{T:TypeId}(hi:iA φ W)(hh:W.heap[b]? =some (.cells vs.toArray T (0,0))):iA (DT φ b vs) W:=by
 intro b' o u hu;unfold DT at hu;by_cases hb:b'=b
 ·subst hb;rw [if_pos rfl] at hu;rw [cell_of hh];simpa using hu
 ·rw [if_neg hb] at hu;exact hi _ _ _ hu
theorem I6.still {v:Six}(h:I6 c Z φ W bc ty s v)(hi:iA φ W): ∃φ',dJ φ φ'/\iA φ' W/\(∀b o,¬Z b->φ' b o=φ b o)/\dq c.key φ' (v.vs s) s.ls/\ ∀j,j<6->φ' bc j=(v.vs s)[j]? :=by
 obtain ⟨φ1,k1,k2,k3,k4⟩:=h.n.still hi;obtain ⟨T,hh⟩:=h.heap;have jn: ∀o,φ1 bc o=none:=λo=>by rw [k3 bc o h.off];exact h.free o
 have hle:=BD (vs:=v.vs s) jn;have hz: ∀b,v.n.ownBlock=some b->Z b:=by obtain ⟨I,cells,_,_,_,_,q5⟩:=h.n.row;exact λb hb=>(q5 b hb).1
 refine ⟨DT φ1 bc (v.vs s),k1.trans hle,wz k2 hh,λb o hb=> ?_,?_,λj hj=>by simp [DT]⟩
 ·have h1:b≠bc:=λe=>hb (by rw [e];exact h.bt);unfold DT;rw [if_neg h1];exact k3 b o λe=>hb (hz b e)
 ·have m:=k1.trans hle;exact .cons [_] _ _ _ (.i _ _) (.cons [_] _ _ _ (.i _ _) (.cons [_] _ _ _ (h.b.mono m) (.cons [_] _ _ _ (h.w.mono m) (.cons [_] _ _ _ (k4.mono hle) (.cons [_] _ _ _ (h.p.mono m) .nil)))))
end
def BE (W:World)(b:Nat)(v:Int):Prop:= ∃T,W.heap[b]? =some (.cells #[.int .i64 v] T (0,0))
structure U7 (c:Ctx) (φ0:Ph) (w0:World) (φ1:Ph) (bc bv br f ty:Nat) (s:CS) (v:Int) (W:World) (Z:Nat->Prop) (φ:Ph):Prop where
 cell:cN c Z φ W bc (KS f ty) s.ls
 fB:iA φ W
 tr:Trans (λb=>w0.heap.size<=b) φ0 w0 φ W
 base:dJ φ1 φ
 sub: ∀b,Z b->w0.heap.size<=b
 hv:BE W bv v
 zv: ¬Z bv
 fv: ∀o,φ bv o=none
 nv:w0.heap.size<=bv
 hr: ∃arr T,W.heap[br]? =some (.cells arr T (0,0))/\arr.size=6
 zr: ¬Z br
 fr: ∀o,φ br o=none
 nr:w0.heap.size<=br
 ne:br≠bv
def CI (c:Ctx) (φ0:Ph)(w0:World) (φ1:Ph)(bc bv br f ty:Nat)(s:CS)(v:Int)(W:World):Prop:= ∃Z φ,U7 c φ0 w0 φ1 bc bv br f ty s v W Z φ
section
variable {P:Program}{c:Ctx} {φ0 φ1:Ph} {w0 W W':World}{bc bv br f ty:Nat} {s s':CS} {v v':Int}{Z:Nat->Prop} {φ:Ph}
theorem kh {W W':World}{b:Nat}{o:Nat}{u:Value}(h:W.cell? ⟨b,o,none⟩=some u)(hs:b<W.heap.size->W'.heap[b]? =W.heap[b]?):W'.cell? ⟨b,o,none⟩=some u:=by have hl:=OF W _ h;rw [acx (hs hl)];exact h
theorem U7.same (h:U7 c φ0 w0 φ1 bc bv br f ty s v W Z φ)(hs:W.heap.size<=W'.heap.size)(hr:Rest W W')(hold: ∀b,b<W.heap.size->b≠bv->W'.heap[b]? =W.heap[b]?)(hv:BE W' bv v'):U7 c φ0 w0 φ1 bc bv br f ty s v' W' (λb=>Z b/\b<W.heap.size) φ:=by
 have hzv: ∀b,Z b->b≠bv:=λb hb e=>h.zv (by rw [<-e];exact hb);obtain ⟨arr,T,xw,HS⟩:=h.hr;refine ⟨h.cell.frame hs λb hb hl=>hold b hl (hzv b hb),λb o u hu=> ?_,⟨h.tr.ph,λb hb hl=> ?_,h.tr.free,abj h.tr.size hs,h.tr.rest.trans hr⟩,h.base,λb hb=>h.sub b hb.1,hv,λhb=>h.zv hb.1,h.fv,h.nv,⟨arr,T,?_,HS⟩,λhb=>h.zr hb.1,h.fr,h.nr,h.ne⟩
 ·refine kh (h.fB b o u hu) λhl=>hold b hl λe=> ?_;rw [e,h.fv] at hu;cases hu
 ·have om:b<W.heap.size:=aa8 hl h.tr.size;rw [hold b om (λe=>hb (by rw [e];exact h.nv))];exact h.tr.heap b hb hl
 ·rw [hold br (aC xw) h.ne];exact xw
theorem BE.same {b:Nat}{v:Int}(h:BE W b v)(he:b<W.heap.size->W'.heap[b]? =W.heap[b]?):BE W' b v:=by obtain ⟨T,hT⟩:=h;exact ⟨T,by rw [he (aC hT)];exact hT⟩
theorem U7.grow {φ2 φ3:Ph}(h:U7 c φ0 w0 φ1 bc bv br f ty s v W Z φ)(ht:Trans (λb=>W.heap.size<=b) φ2 W φ3 W'):U7 c φ0 w0 φ1 bc bv br f ty s v W' (λb=>Z b/\b<W.heap.size) φ:=h.same ht.size ht.rest (λb hl _=>ht.heap b (by omega) hl) (h.hv.same λhl=>ht.heap bv (by omega) hl)
theorem BE.cell {b:Nat}{v:Int}(h:BE W b v):W.cell? ⟨b,0,none⟩=some (.int .i64 v):=by obtain ⟨T,hT⟩:=h;rw [cell_of hT];rfl
theorem CI.call {g:Nat}{vs:List Value}{ms:List MV}{r:MV}(h:CI c φ0 w0 φ1 bc bv br f ty s v W)(hg:c.bQ (c.key g)=true)(nX:c.sig (c.key g)=some (0,KS f ty,KS f ty))(hS:cq P c g (.cell (.func 0 s.ls)::ms) (.gk r s'.ls))(bZ: ∀φ,dJ φ1 φ->iA φ W->aE c.key φ vs ms):cn P g (.pointer (some ⟨bc,0,none⟩)::vs).toArray W λ_ W'=>CI c φ0 w0 φ1 bc bv br f ty s' v W':=by
 obtain ⟨Z,φ,h⟩:=h;have cz: ∀b,(∃arr T,W.heap[b]? =some (.cells arr T (0,0)))->b<W.heap.size:=λb ⟨arr,T,hb⟩=>aC hb;have jX:bv<W.heap.size:=by obtain ⟨T,hT⟩:=h.hv;exact aC hT
 obtain ⟨arr,T,xw,HS⟩:=h.hr;have Qw:=aC xw;have jj:cN c (λb=>Z b\/W.heap.size<=b) φ W bc (KS f ty) s.ls:=h.cell.wide λb hb=> .inl hb;have mb:bO c (λb=>Z b\/W.heap.size<=b) φ W (c.key g) (.pointer (some ⟨bc,0,none⟩)::vs) (.cell (.func 0 s.ls)::ms):=by simp only [bO,hg,if_true];exact .inr (.inr ⟨0,KS f ty,KS f ty,0,s.ls,bc,nX,rfl,rfl,⟨_,_,rfl,⟨rfl,.rp bc 0 [] [] .nil (by simp)⟩,bZ φ h.base h.fB⟩,jj⟩)
 refine (hS φ W (λb=>Z b\/W.heap.size<=b) _ (λb hb=> .inr hb) mb h.fB).imp ?_;rintro x W' ⟨φ',t1,t2,jt,pos',ks',ko',YB,HM,oq,Hv,hc⟩;rw [nX] at oq;simp only [aQ,aaE] at oq;obtain ⟨rfl,rfl,rfl⟩:=oq;simp only [ab1,aQ,acL,adS] at Hv;obtain ⟨rfl,_⟩:=Hv;have hzv: ¬(Z bv\/W.heap.size<=bv):=λhb=>hb.elim h.zv (by omega);have YM: ¬(Z br\/W.heap.size<=br):=λhb=>hb.elim h.zr (by omega);refine ⟨_,φ',hc,t2,h.tr.trans (t1.ml λb hb=>hb.elim (h.sub b) (λhb=>abj h.tr.size hb)),h.base.trans t1.ph,λb hb=>hb.elim (h.sub b) (λhb=>abj h.tr.size hb),h.hv.same λhl=>t1.heap bv hzv hl,hzv,λo=>by rw [t1.free bv o hzv];exact h.fv o,h.nv,⟨arr,T,by rw [t1.heap br YM Qw];exact xw,HS⟩,YM,λo=>by rw [t1.free br o YM];exact h.fr o,h.nr,h.ne⟩
theorem CI.abt {φ2:Ph}(h:CI c φ0 w0 φ2 bc bv br f ty s v W)(hp:dJ φ1 φ2):CI c φ0 w0 φ1 bc bv br f ty s v W:=by obtain ⟨Z,φ,h⟩:=h;exact ⟨Z,φ,{h with base:=hp.trans h.base}⟩
theorem tJ {g:Nat}{vs:List Value}{ms:List MV}{r:MV}(hg:c.bQ (c.key g)=false)(hS:cq P c g ms r)(hr:isW r=false)(bZ:aE c.key φ vs ms)(hi:iA φ W):cn P g vs.toArray W λx W'=> ∃φ',Trans (λb=>W.heap.size<=b) φ W φ' W'/\iA φ' W'/\dy c (λb=>W.heap.size<=b) φ' W' (c.key g) x r:=by
 have mb:bO c (λb=>W.heap.size<=b) φ W (c.key g) vs ms:=by simp only [bO,hg,AI,if_false];exact bZ
 refine (hS φ W (λb=>W.heap.size<=b) _ (λb hb=>hb) mb hi).imp ?_;rintro x W' ⟨φ',t1,t2,t3⟩;exact ⟨φ',t1,t2,t3.of hr⟩
end
end Dn
/-
  A walk that lets all good ones hear one another: what it does, and its code. Conditions: none.
-/
namespace Dn
open Go
structure CK where
 cl:Nat
 ld:Nat
 is:Nat
 f1:Nat
 en:Nat
 de:Nat
 le:Nat
 sz:Nat
section
variable (g:Nat->List MV->Option MV)(k:CK)
end
structure ad9 (tS tP ti tN tM tm tZ tB tb tf fCl f1 fEa fLd fIs f2 f3 fLe:Nat) (o:Nat->Oper):Prop where
 h0:ae (o 0) 1 (.box tS (.tmp 0))
 h1:ae (o 1) 2 (.alloc tS)
 h2:ae (o 2) 3 (.alloc tP)
 h3:dn (o 3) (.store tP (.tmp 3) (.tmp 1))
 h4:ae (o 4) 7 (.fieldAddr tS (.tmp 1) 3)
 h5:ae (o 5) 8 (.load tN (.tmp 7))
 h6:ae (o 6) 9 (.call {callee:= .value (.func fCl),args:= #[.tmp 8],argTypes:= #[tN]})
 h7:ae (o 7) 10 (.fieldAddr tS (.tmp 1) 4)
 h8:dn (o 8) (.store tM (.tmp 10) (.const (.slice none 0 0)))
 h9:ae (o 9) 11 (.fieldAddr tS (.tmp 1) 3)
 rb:dn (o 10) (.store tN (.tmp 11) (.tmp 9))
 yU:ae (o 11) 4 (.alloc ti)
 yV:dn (o 12) (.store ti (.tmp 4) (.const (.int .i64 0)))
 yW:ae (o 13) 12 (.load tP (.tmp 3))
 yX:ae (o 14) 13 (.makeFunc (.func f1) #[] #[.tmp 4,.tmp 1])
 yY:ae (o 15) 14 (.call {callee:= .value (.func fEa),args:= #[.tmp 12,.tmp 13],argTypes:= #[tP,tf]})
 yZ:ae (o 16) 15 (.load tS (.tmp 1))
 Dt:ae (o 17) 16 (.fieldAddr tS (.tmp 1) 0)
 GL:ae (o 18) 17 (.load tZ (.tmp 16))
 HB:ae (o 19) 18 (.load ti (.tmp 4))
 HC:ae (o 20) 19 (.call {callee:= .value (.func fLd),args:= #[.tmp 17,.tmp 18],argTypes:= #[tZ,ti]})
 E6:ae (o 21) 20 (.call {callee:= .value (.func fIs),args:= #[.tmp 15,.tmp 19,.const (.bool false)],argTypes:= #[tS,ti,tB]})
 E7:ae (o 22) 21 (.unOp .not tB (.tmp 20))
 E8:ae (o 23) 22 (.load ti (.tmp 4))
 E9:ae (o 24) 23 (.binOp .add ti (.tmp 22) (.const (.int .i64 1)) ti)
 Fa:dn (o 25) (.store ti (.tmp 4) (.tmp 23))
 IU:ae (o 26) 24 (.load ti (.tmp 4))
 K6:ae (o 27) 25 (.binOp .gtr ti (.tmp 24) (.const (.int .i64 100000)) ti)
 K7:ae (o 28) 26 (.load tS (.tmp 1))
 K8:dn (o 29) (.store tS (.tmp 2) (.tmp 26))
 IV:ae (o 30) 27 (.load tP (.tmp 3))
 JZ:ae (o 31) 28 (.makeFunc (.func f2) #[] #[.tmp 3,.tmp 4])
 J0:ae (o 32) 29 (.call {callee:= .value (.func fEa),args:= #[.tmp 27,.tmp 28],argTypes:= #[tP,tf]})
 J1:ae (o 33) 5 (.assign (.const (.int .i64 0)))
 K9:ae (o 34) 30 (.move (.tmp 5))
 Mn:ae (o 35) 31 (.fieldAddr tS (.tmp 1) 4)
 Ob:ae (o 36) 32 (.load tM (.tmp 31))
 Mo:ae (o 37) 33 (.call {callee:= .builtin .len,args:= #[.tmp 32],argTypes:= #[tM]})
 Oc:ae (o 38) 34 (.binOp .lss ti (.tmp 30) (.tmp 33) ti)
 UO:ae (o 39) 37 (.fieldAddr tS (.tmp 1) 4)
 UP:ae (o 40) 38 (.load tM (.tmp 37))
 UQ:ae (o 41) 39 (.move (.tmp 5))
 UR:ae (o 42) 40 (.indexAddr tM (.tmp 38) (.tmp 39))
 US:ae (o 43) 41 (.load tm (.tmp 40))
 UT:ae (o 44) 6 (.alloc tm)
 h45:dn (o 45) (.store tm (.tmp 6) (.tmp 41))
 h46:ae (o 46) 42 (.load tP (.tmp 3))
 UU:ae (o 47) 43 (.makeFunc (.func f3) #[] #[.tmp 3,.tmp 6])
 Qi:ae (o 48) 44 (.call {callee:= .value (.func fEa),args:= #[.tmp 42,.tmp 43],argTypes:= #[tP,tf]})
 Tx:ae (o 49) 45 (.load tP (.tmp 3))
 Ty:ae (o 50) 46 (.fieldAddr tS (.tmp 1) 0)
 UW:ae (o 51) 47 (.load tZ (.tmp 46))
 WV:ae (o 52) 48 (.load ti (.tmp 4))
 Tz:ae (o 53) 49 (.call {callee:= .value (.func fLd),args:= #[.tmp 47,.tmp 48],argTypes:= #[tZ,ti]})
 Rq:ae (o 54) 50 (.call {callee:= .value (.func fLe),args:= #[.tmp 45,.tmp 49],argTypes:= #[tP,ti]})
 h55:ae (o 55) 35 (.move (.tmp 5))
 h56:ae (o 56) 36 (.binOp .add ti (.tmp 35) (.const (.int .i64 1)) ti)
 h57:ae (o 57) 5 (.assign (.tmp 36))
 h58:ae (o 58) 51 (.load tS (.tmp 1))
 h59:dn (o 59) (.store tS (.tmp 2) (.tmp 51))
end Dn
/-
  The walk's pieces: who leads. Conditions: none.
-/
namespace Dn
open Go
structure CN where
 tS:Nat
 tP:Nat
 ti:Nat
 tN:Nat
 tM:Nat
 tm:Nat
 tZ:Nat
 tB:Nat
 tb:Nat
 tf:Nat
 fCl:Nat
 f1:Nat
 fEa:Nat
 fLd:Nat
 fIs:Nat
 f2:Nat
 f3:Nat
 fLe:Nat
 fEn:Nat
 fDe:Nat
 f:Nat
 dV:Nat
 ty:Nat
 sz:Nat
def CN.k (n:CN):CK:=⟨n.fCl,n.fLd,n.fIs,n.f1,n.fEn,n.fDe,n.fLe,n.sz⟩
structure Fv (σ:Nat->Value) (bc br bd bv:Nat):Prop where
 h1:σ 1= .pointer (some ⟨bc,0,none⟩)
 h2:σ 2= .pointer (some ⟨br,0,none⟩)
 h3:σ 3= .pointer (some ⟨bd,0,none⟩)
 h4:σ 4= .pointer (some ⟨bv,0,none⟩)
theorem wOf {w:World}{g off:Nat}{vs:List Value}{arr:List Value}{T:TypeId}(hh:w.heap[g]? =some (.cells arr.toArray T (0,0)))(h: ∀j,j<vs.length->arr[off+j]? =vs[j]?):w.rangeAt g off vs:=by intro j v hj;rw [cell_of hh,List.getElem?_toArray,h j (aam.1 hj).1];exact hj
theorem RI {key:Nat->Nat} {φ:Ph}{v:Value}{n:Int}(h:bN key φ v (.i .i64 n)):v= .int .i64 n:=by obtain ⟨_,h⟩:=h;generalize oK:[v]=l at h;cases h;simpa using oK
theorem su {key:Nat->Nat} {φ:Ph}{n:Int}:bN key φ (.int .i64 n) (.i .i64 n):=⟨rfl,.i _ _⟩
theorem I7 {key:Nat->Nat} {φ:Ph}{vs:List Value}{ms:List MV}(h:dq key φ vs ms):bN key φ (.agg vs.toArray) (.agg ms):=⟨vs.toArray,rfl,by simpa using h⟩
section
variable {P:Program}{c:Ctx}{g:Nat->List MV->Option MV}{n:CN}{fn:Func}{r:Nat->Nat}{o:Nat->Oper} {φ0 φ1:Ph}{w0 W:World}{bc br bd bv:Nat} {s s':CS} {v v' l:Int}{a:Act} {σ:Nat->Value}{Q:Exit->Act->World->Prop}
abbrev CIn (c:Ctx)(n:CN) (φ0:Ph)(w0:World) (φ1:Ph)(bc bv br:Nat)(s:CS)(v:Int)(W:World):Prop:=CI c φ0 w0 φ1 bc bv br n.dV n.ty s v W
end
end Dn
/-
  The walk's pieces: the search for a leader; each one's step. Conditions: none.
-/
namespace Dn
open Go
section
variable {P:Program}{c:Ctx}{g:Nat->List MV->Option MV}{n:CN}{fn:Func}{r:Nat->Nat}{o:Nat->Oper} {φ0 φ1:Ph} {w0 W W':World}{bc br bd bv:Nat} {s s':CS} {v v' l:Int}{a:Act} {σ:Nat->Value}{Q:Exit->Act->World->Prop}
end
end Dn
/-
  The walk's pieces: a turn, and the end. Conditions: none.
-/
namespace Dn
open Go
section
variable {P:Program}{c:Ctx}{g:Nat->List MV->Option MV}{n:CN}{fn:Func}{r:Nat->Nat}{o:Nat->Oper} {φ0 φ1:Ph} {w0 W W':World}{bc br bd bv:Nat} {s s':CS} {v v' l:Int}{a:Act} {σ:Nat->Value}{Q:Exit->Act->World->Prop}
theorem U7.new {Z:Nat->Prop} {φ:Ph}{vs:List Value}{T:TypeId}(h:U7 c φ0 w0 φ1 bc bv br n.dV n.ty s v W Z φ)(hh:W'.heap[W.heap.size]? =some (.cells vs.toArray T (0,0)))(hs:W.heap.size<=W'.heap.size)(hold: ∀b,b<W.heap.size->W'.heap[b]? =W.heap[b]?)(hr:Rest W W'): CIn c n φ0 w0 (DT φ W.heap.size vs) bc bv br s v W':=by
 have jn: ∀o,φ W.heap.size o=none:=by
  intro o;cases hq:φ W.heap.size o with
  |none=>rfl
  |some u=>exact absurd (OF W _ (h.fB _ _ _ hq)) (Nat.lt_irrefl _)
 have hle:=BD (vs:=vs) jn;have eo:=h.same (v':=v) hs hr (λb hb _=>hold b hb) (h.hv.same λhl=>hold bv hl);have jX:bv<W.heap.size:=by obtain ⟨T,hT⟩:=h.hv;exact aC hT
 have Qw:br<W.heap.size:=by obtain ⟨arr,T,hT,_⟩:=h.hr;exact aC hT
 have cg: ∀b o,b<W.heap.size->DT φ W.heap.size vs b o=φ b o:=λb o hb=>by unfold DT;rw [if_neg (Nat.ne_of_lt hb)]
 refine ⟨_,_,eo.cell.more hle λb o hb=>cg b o hb.2,wz eo.fB hh,⟨eo.tr.ph.trans hle,eo.tr.heap,λb o hb=> ?_,eo.tr.size,eo.tr.rest⟩,.refl _,eo.sub,eo.hv,eo.zv,λo=>by rw [cg _ _ jX];exact h.fv o,h.nv,eo.hr,eo.zr,λo=>by rw [cg _ _ Qw];exact h.fr o,h.nr,h.ne⟩;have:b<W.heap.size:=by have:=h.tr.size;omega
 rw [cg _ _ this];exact h.tr.free b o hb
theorem y6 {key:Nat->Nat} {φ:Ph}{x:Value}{xs:List MV}(h:dI key φ [x] (.list xs)): ∃ad cp,x= .slice ad xs.length cp/\ ∀k (hk:k<xs.length),∃aA off xt vm,ad=some ⟨aA,off,none⟩/\vm.length=xt/\dI key φ vm xs[k]/\ ∀j,j<xt->φ aA (off+k *xt+j)=vm[j]? :=by
 generalize hv:[x]=l at h;generalize hm:MV.list xs=m at h;cases h with
 |list a cap ys aA off xt f h1 h2 h3 h4 h5=>cases hm;refine ⟨a,cap,by simpa using hv,λk hk=>⟨aA,off,xt,f k,h2 (by omega),h3 k hk,h5 k hk,λj hj=>h4 k j hk hj⟩⟩
 |_=>cases hm
theorem Ad {d:Nat}{op:Op}{p:Oper}(hp:ae p d op)(cg: ∀t,op≠ .alloc t):zw p=false:=by unfold zw;rw [hp.op];cases op<;>first|rfl|exact absurd rfl (cg _)
end
end Dn
/-
  Parts that are taken off bytes, into a variable of eight parts, by way of pointers: what it does. Conditions: none.
-/
namespace Dn
open Go
structure I8 where
 xs:List MV
 e:Int
 os:List MV
structure U8 where
 ti:Nat
 tx:Nat
 may:Nat
section
variable (g:Nat->List MV->Option MV)(k:U8)
def U9 (j:Nat)(q:I8):Option I8:=if q.e=0 then (match g k.ti [.list q.xs] with
 |some (.cG [.i .i64 n,.list xs,.i .i64 e])=>some ⟨xs,e,q.os.set j (.i .i64 n)⟩
 |_=>none) else some q
def GX (j:Nat)(most:Int)(q:I8):Option I8:=if q.e=0 then (match g k.tx [.list q.xs,.i .i64 most] with
 |some (.cG [.s l,.list xs,.i .i64 e])=>some ⟨xs,e,q.os.set j (.s l)⟩
 |_=>none) else some q
def xW:List Nat->I8->Option I8
 |[],q=>some q
 |j::r,q=>(match U9 g k j q with
  |some q=>xW r q
  |none=>none)
def Pj:List MV:=[.i .i64 0,.i .i64 0,.i .i64 0,.s [],.s [],.i .i64 0,.i .i64 0,.i .i64 0]
def I9 (xs:List MV):Option MV:=match xW g k [0,1,2,5,6,7] ⟨xs,0,Pj⟩ with
 |some q=>(match GX g k 3 100 q with
  |some q=>(match GX g k 4 1000 q with
   |some q=>if q.e=0 then (match g k.may [.agg q.os] with
    |some (.b true)=>some (.cG [.agg q.os,.list q.xs,.i .i64 0])
    |some (.b false)=>some (.cG [.agg Pj,.list [],.i .i64 3])
    |_=>none) else some (.cG [.agg Pj,.list [],.i .i64 q.e])
   |none=>none)
  |none=>none)
 |none=>none
end
theorem aE.set {key:Nat->Nat} {φ:Ph}{v:Value}{m:MV}(h:bN key φ v m): ∀{ms:List MV} {vs:List Value} {j:Nat},aE key φ vs ms->aE key φ (vs.set j v) (ms.set j m):=by
 intro ms;induction ms with
 |nil=>intro vs j hh;have hh:vs=[]:=hh;subst hh;rfl
 |cons m' ms ih=>
  intro vs j hh;obtain ⟨v',r,rfl,h1,h2⟩:=hh;cases j with
  |zero=>exact ⟨v,r,rfl,h,h2⟩
  |succ j=>exact ⟨v',r.set j v,rfl,h1,ih h2⟩
theorem aE.len {key:Nat->Nat} {φ:Ph}: ∀{ms:List MV} {vs:List Value},aE key φ vs ms->vs.length=ms.length:=by
 intro ms;induction ms with
 |nil=>intro vs h;have h:vs=[]:=h;subst h;rfl
 |cons m ms ih=>intro vs h;obtain ⟨v,r,rfl,_,h2⟩:=h;simp [ih h2]
structure pJ (c:Ctx) (φ0:Ph) (w0:World) (φ:Ph) (W:World) (q:I8) (vs:List Value):Prop where
 fB:iA φ W
 tr:Trans (λb=>w0.heap.size<=b) φ0 w0 φ W
 h2: ∃zs T,W.heap[w0.heap.size]? =some (.cells zs T (0,0))/\zs.size=8
 hr: ∃vb T,W.heap[w0.heap.size+1]? =some (.cells [vb,.int .i64 q.e].toArray T (0,0))/\dI c.key φ [vb] (.list q.xs)
 ho: ∃T,W.heap[w0.heap.size+2]? =some (.cells vs.toArray T (0,0))
 os:aE c.key φ vs q.os
 n:vs.length=8
 f: ∀j o,j<3->φ (w0.heap.size+j) o=none
section
variable {P:Program}{c:Ctx} {φ0 φ φ':Ph} {w0 W W':World}{q:I8}{vs:List Value}
theorem pJ.grow (h:pJ c φ0 w0 φ W q vs)(t:Trans (λb=>W.heap.size<=b) φ W φ' W')(hi:iA φ' W'):pJ c φ0 w0 φ' W' q vs:=by obtain ⟨zs,T2,a1,a2⟩:=h.h2;obtain ⟨vb,Tr,b1,b2⟩:=h.hr;obtain ⟨To,c1⟩:=h.ho;have jT:=aC c1;have hold: ∀b,b<W.heap.size->W'.heap[b]? =W.heap[b]? :=λb hb=>t.heap b (by omega) hb;refine ⟨hi,h.tr.trans (t.ml λb hb=>by have:=h.tr.size;omega),⟨zs,T2,by rw [hold _ (by omega)];exact a1,a2⟩,⟨vb,Tr,by rw [hold _ (by omega)];exact b1,b2.mono t.ph⟩,⟨To,by rw [hold _ (by omega)];exact c1⟩,h.os.mono t.ph,h.n,λj o hj=> ?_⟩;rw [t.free _ o (by omega)];exact h.f j o hj
theorem pJ.wrote {q':I8}{DF:List Value}(h:pJ c φ0 w0 φ W q vs){j:Nat}(hj:j<3)(hs:W'.heap.size=W.heap.size)(hr:Rest W W')(ho: ∀b,b≠w0.heap.size+j->W'.heap[b]? =W.heap[b]?)(h2: ∃zs T,W'.heap[w0.heap.size]? =some (.cells zs T (0,0))/\zs.size=8)(hb: ∃vb T,W'.heap[w0.heap.size+1]? =some (.cells [vb,.int .i64 q'.e].toArray T (0,0))/\dI c.key φ [vb] (.list q'.xs))(hv: ∃T,W'.heap[w0.heap.size+2]? =some (.cells DF.toArray T (0,0)))(Tt:aE c.key φ DF q'.os)(hn:DF.length=8):pJ c φ0 w0 φ W' q' DF:=by
 refine ⟨λb o u hu=>kh (h.fB b o u hu) λhl=>ho b λe=> ?_,⟨h.tr.ph,λb hb hl=> ?_,h.tr.free,by rw [hs];exact h.tr.size,h.tr.rest.trans hr⟩,h2,hb,hv,Tt,hn,h.f⟩
 ·rw [e,h.f j o hj] at hu;cases hu
 ·rw [ho b (by omega)];exact h.tr.heap b hb hl
theorem pJ.agd (h:pJ c φ0 w0 φ W q vs){j:Nat}{v:Value}{m:MV}(hm:bN c.key φ v m):pJ c φ0 w0 φ (W.setRow (w0.heap.size+2) (vs.set j v).toArray) ⟨q.xs,q.e,q.os.set j m⟩ (vs.set j v):=by obtain ⟨zs,T2,a1,a2⟩:=h.h2;obtain ⟨vb,Tr,b1,b2⟩:=h.hr;obtain ⟨To,c1⟩:=h.ho;refine h.wrote (j:=2) (by decide) (setRow_size _ _ _) (.setRow _ _ _) (λb hb=>setRow_other _ _ _ _ hb) ⟨zs,T2,by rw [setRow_other _ _ _ _ (by omega)];exact a1,a2⟩ ⟨vb,Tr,by rw [setRow_other _ _ _ _ (by omega)];exact b1,b2⟩ ⟨To,dp _ c1⟩ (h.os.set hm) (by simp [h.n])
theorem pJ.ui (h:pJ c φ0 w0 φ W q vs){v:Value}{xs:List MV}(hm:dI c.key φ [v] (.list xs)):pJ c φ0 w0 φ (W.setRow (w0.heap.size+1) [v,.int .i64 q.e].toArray) ⟨xs,q.e,q.os⟩ vs:=by obtain ⟨zs,T2,a1,a2⟩:=h.h2;obtain ⟨vb,Tr,b1,b2⟩:=h.hr;obtain ⟨To,c1⟩:=h.ho;exact h.wrote (j:=1) (by decide) (setRow_size _ _ _) (.setRow _ _ _) (λb hb=>setRow_other _ _ _ _ hb) ⟨zs,T2,by rw [setRow_other _ _ _ _ (by omega)];exact a1,a2⟩ ⟨v,Tr,dp _ b1,hm⟩ ⟨To,by rw [setRow_other _ _ _ _ (by omega)];exact c1⟩ h.os h.n
theorem pJ.acw (h:pJ c φ0 w0 φ W q vs){vb:Value}(e:Int)(hb:dI c.key φ [vb] (.list q.xs)):pJ c φ0 w0 φ (W.setRow (w0.heap.size+1) [vb,.int .i64 e].toArray) ⟨q.xs,e,q.os⟩ vs:=by obtain ⟨zs,T2,a1,a2⟩:=h.h2;obtain ⟨vb',Tr,b1,b2⟩:=h.hr;obtain ⟨To,c1⟩:=h.ho;exact h.wrote (j:=1) (by decide) (setRow_size _ _ _) (.setRow _ _ _) (λb hb=>setRow_other _ _ _ _ hb) ⟨zs,T2,by rw [setRow_other _ _ _ _ (by omega)];exact a1,a2⟩ ⟨vb,Tr,dp _ b1,hb⟩ ⟨To,by rw [setRow_other _ _ _ _ (by omega)];exact c1⟩ h.os h.n
theorem BF {t:TypeId}{I:TI}{x y:Operand}{e:Operand->Value}{g off:Nat}{v:Value}{ls:List Value}{T:TypeId}{o:Oper}(ho:dn o (.store t x y))(hT:dt P c.ti)(hI:c.tv t=some I)(hs:I.size=1)(hx:e x= .pointer (some ⟨g,off,none⟩))(hy:e y=v)(hc:v.cells.toList=[v])(h1:v.oneCell'=true)(bH:W.heap[g]? =some (.cells ls.toArray T (0,0)))(rN:off<ls.length):(execOp e o).run P W= .ok .skip (W.setRow g (ls.set off v).toArray):=by
 obtain ⟨fH,vL⟩:=aD hI;rw [wv (v:=v) ho (hT _ _ fH) vL hx hy (by rw [hc,hs];rfl) (by rw [hc];simpa using h1) bH (by rw [hs];simp;omega),hc,hs];congr 2;have:ls.set off v=ls.take off++v::ls.drop (off+1):=by rw [List.set_eq_take_append_cons_drop,if_pos rN]
 rw [this];simp
end
end Dn
/-
  Numbers, and a text, that are taken off: the walks. Conditions: none.
-/
namespace Dn
open Go
structure Pk where
 tO:Nat
 tY:Nat
 te:Nat
 tR:Nat
 tQ:Nat
 tL:Nat
 tI:Nat
 tX:Nat
 ti:Nat
 tS:Nat
 tB:Nat
structure Va (P:Program) (c:Ctx) (g:Nat->List MV->Option MV) (k:U8) (t:Pk):Prop where
 hT:dt P c.ti
 key: ∀f,c.key f=f
 snd: ∀f ms r,g f ms=some r->cq P c f ms r
 gv:c.bQ k.ti=false/\c.bQ k.tx=false/\c.bQ k.may=false
 TB: ∃I,c.tv t.tO=some I/\I.st=true/\I.zq=[0,1,2,3,4,5,6,7]/\I.size=8
 tyR: ∃I,c.tv t.tR=some I/\I.st=true/\I.zq=[0,1]/\I.size=2
 tyY: ∃I,c.tv t.tY=some I/\I.st=false/\I.size=1
 tye: ∃I,c.tv t.te=some I/\I.st=false/\I.size=1
 tyi: ∃I,c.tv t.ti=some I/\I.st=false/\I.size=1
 tyS: ∃I,c.tv t.tS=some I/\I.st=false/\I.size=1
 tyI: ∃I,c.tv t.tI=some I/\I.st=false/\I.size=1
 Vb:P.underlying t.tL=some (.slice t.tI)
theorem oW {P:Program}{o:Oper}{d j:Nat}{x:Operand}{e:Operand->Value}{arr:Array Value}{v:Value}(ho:ae o d (.extract x j))(hx:e x= .tuple arr)(hj:arr[j]? =some v)(w:World):(execOp e o).run P w= .ok (.value v) w:=by simp [execOp,ho.op,hx,Instr.extract,hj]
theorem aE.three {key:Nat->Nat} {φ:Ph}{arr:Array Value}{a b d:MV}(h:aE key φ arr.toList [a,b,d]): ∃x y z,arr[0]? =some x/\arr[1]? =some y/\arr[2]? =some z/\bN key φ x a/\bN key φ y b/\bN key φ z d:=by obtain ⟨x,r,e1,h1,y,r2,e2,h2,z,r3,e3,h3,e4⟩:=h;have e4:r3=[]:=e4;subst e2 e3 e4;refine ⟨x,y,z,?_,?_,?_,h1,h2,h3⟩<;>rw [<-abr,e1]<;>rfl
theorem Xd {key:Nat->Nat} {φ:Ph}{v:Value}{xs:List MV}(h:bN key φ v (.list xs)):dI key φ [v] (.list xs)/\v.cells.toList=[v]/\v.oneCell'=true:=by have h:MV.one (.list xs)=true/\dI key φ [v] (.list xs):=h;obtain ⟨ad,cp,rfl,_⟩:=y6 h.2;exact ⟨h.2,rfl,rfl⟩
def BG (r:Nat->Nat)(o:Nat->Oper):Code:= .seq (.region (r 0) #[o 0,o 1,o 2] false) (.block 0 (.loop (.seq (.region (r 1) #[o 3] false) (.seq (.cond (.tmp 9) .skip (.exit 0)) (.seq (.block 1 (.seq (.region (r 2) #[o 4,o 5,o 6] false) (.seq (.region (r 3) #[o 7,o 8,o 9,o 10,o 11] false) (.cond (.tmp 16) (.region (r 4) #[o 12,o 13,o 14,o 15,o 16,o 17,o 18,o 19,o 20,o 21,o 22,o 23,o 24,o 25,o 26,o 27,o 28,o 29,o 30,o 31] false) .skip)))) (.region (r 5) #[o 32,o 33] false))))))
structure Vc (t:Pk) (fTI:Nat) (o:Nat->Oper):Prop where
 h0:ae (o 0) 6 (.move (.tmp 1))
 h1:ae (o 1) 7 (.call {callee:= .builtin .len,args:= #[.tmp 6],argTypes:= #[t.tL]})
 h2:ae (o 2) 8 (.move (.const (.int .i64 0)))
 h3:ae (o 3) 9 (.binOp .lss t.ti (.tmp 8) (.tmp 7) t.ti)
 h4:ae (o 4) 10 (.indexAddr t.tL (.tmp 6) (.tmp 8))
 h5:ae (o 5) 11 (.load t.tI (.tmp 10))
 h6:ae (o 6) 5 (.assign (.tmp 11))
 h7:ae (o 7) 12 (.move (.tmp 0))
 h8:ae (o 8) 13 (.nilCheck (.tmp 12))
 h9:ae (o 9) 14 (.fieldAddr t.tR (.tmp 13) 1)
 rb:ae (o 10) 15 (.load t.te (.tmp 14))
 yU:ae (o 11) 16 (.binOp .eql t.te (.tmp 15) (.const (.int .i64 0)) t.te)
 yV:ae (o 12) 18 (.move (.tmp 5))
 yW:ae (o 13) 19 (.move (.tmp 0))
 yX:ae (o 14) 20 (.move (.tmp 0))
 yY:ae (o 15) 21 (.move (.tmp 0))
 yZ:ae (o 16) 22 (.nilCheck (.tmp 21))
 Dt:ae (o 17) 23 (.fieldAddr t.tR (.tmp 22) 0)
 GL:ae (o 18) 24 (.load t.tY (.tmp 23))
 HB:ae (o 19) 25 (.call {callee:= .value (.func fTI),args:= #[.tmp 24],argTypes:= #[t.tY]})
 HC:ae (o 20) 17 (.move (.tmp 25))
 E6:ae (o 21) 26 (.extract (.tmp 17) 0)
 E7:ae (o 22) 27 (.extract (.tmp 17) 1)
 E8:ae (o 23) 28 (.extract (.tmp 17) 2)
 E9:ae (o 24) 29 (.nilCheck (.tmp 18))
 Fa:dn (o 25) (.store t.ti (.tmp 29) (.tmp 26))
 IU:ae (o 26) 30 (.nilCheck (.tmp 19))
 K6:ae (o 27) 31 (.fieldAddr t.tR (.tmp 30) 0)
 K7:dn (o 28) (.store t.tY (.tmp 31) (.tmp 27))
 K8:ae (o 29) 32 (.nilCheck (.tmp 20))
 IV:ae (o 30) 33 (.fieldAddr t.tR (.tmp 32) 1)
 JZ:dn (o 31) (.store t.te (.tmp 33) (.tmp 28))
 J0:ae (o 32) 34 (.binOp .add t.ti (.tmp 8) (.const (.int .i64 1)) t.ti)
 J1:ae (o 33) 8 (.move (.tmp 34))
structure RJ (P:Program) (f:Nat) (t:Pk) (fTI:Nat) (fn:Func) (r:Nat->Nat) (o:Nat->Oper):Prop where
 pos:P.funcs[f]? =some fn
 name:(fn.name== "runtime.NumGoroutine")=false
 tmps:fn.ntmps=35
 res:fn.results= #[]
 body:fn.body=some (BG r o)
 ops:Vc t fTI o
def BH (r:Nat->Nat)(o:Nat->Oper):Code:= .seq (.region (r 0) #[o 0,o 1,o 2,o 3,o 4] false) (.cond (.tmp 10) (.region (r 1) #[o 5,o 6,o 7,o 8,o 9,o 10,o 11,o 12,o 13,o 14,o 15,o 16,o 17,o 18,o 19,o 20,o 21,o 22,o 23,o 24,o 25] false) .skip)
structure Vd (t:Pk) (fTX:Nat) (o:Nat->Oper):Prop where
 h0:ae (o 0) 6 (.move (.tmp 0))
 h1:ae (o 1) 7 (.nilCheck (.tmp 6))
 h2:ae (o 2) 8 (.fieldAddr t.tR (.tmp 7) 1)
 h3:ae (o 3) 9 (.load t.te (.tmp 8))
 h4:ae (o 4) 10 (.binOp .eql t.te (.tmp 9) (.const (.int .i64 0)) t.te)
 h5:ae (o 5) 12 (.move (.tmp 1))
 h6:ae (o 6) 13 (.move (.tmp 0))
 h7:ae (o 7) 14 (.move (.tmp 0))
 h8:ae (o 8) 15 (.move (.tmp 0))
 h9:ae (o 9) 16 (.nilCheck (.tmp 15))
 rb:ae (o 10) 17 (.fieldAddr t.tR (.tmp 16) 0)
 yU:ae (o 11) 18 (.load t.tY (.tmp 17))
 yV:ae (o 12) 19 (.move (.tmp 2))
 yW:ae (o 13) 20 (.call {callee:= .value (.func fTX),args:= #[.tmp 18,.tmp 19],argTypes:= #[t.tY,t.ti]})
 yX:ae (o 14) 11 (.move (.tmp 20))
 yY:ae (o 15) 21 (.extract (.tmp 11) 0)
 yZ:ae (o 16) 22 (.extract (.tmp 11) 1)
 Dt:ae (o 17) 23 (.extract (.tmp 11) 2)
 GL:ae (o 18) 24 (.nilCheck (.tmp 12))
 HB:dn (o 19) (.store t.tS (.tmp 24) (.tmp 21))
 HC:ae (o 20) 25 (.nilCheck (.tmp 13))
 E6:ae (o 21) 26 (.fieldAddr t.tR (.tmp 25) 0)
 E7:dn (o 22) (.store t.tY (.tmp 26) (.tmp 22))
 E8:ae (o 23) 27 (.nilCheck (.tmp 14))
 E9:ae (o 24) 28 (.fieldAddr t.tR (.tmp 27) 1)
 Fa:dn (o 25) (.store t.te (.tmp 28) (.tmp 23))
structure RL (P:Program) (f:Nat) (t:Pk) (fTX:Nat) (fn:Func) (r:Nat->Nat) (o:Nat->Oper):Prop where
 pos:P.funcs[f]? =some fn
 name:(fn.name== "runtime.NumGoroutine")=false
 tmps:fn.ntmps=29
 res:fn.results= #[]
 body:fn.body=some (BH r o)
 ops:Vd t fTX o
section
variable {P:Program}{c:Ctx}{g:Nat->List MV->Option MV}{k:U8}{t:Pk} {φ0 φ1 φ:Ph}{w0 W:World} {q q':I8}{vs:List Value}{fn:Func}{r:Nat->Nat}{o:Nat->Oper}
theorem pJ.lde (h:pJ c φ0 w0 φ W q vs):W.cell? ⟨w0.heap.size+1,1,none⟩=some (.int .i64 q.e):=by obtain ⟨vb,T,h1,_⟩:=h.hr;rw [cell_of h1];rfl
theorem pJ.acy (h:pJ c φ0 w0 φ W q vs)(H:Va P c g k t){ty:Nat}(dU: ∃I,c.tv ty=some I/\I.st=false/\I.size=1){j:Nat}(hj:j<8){v0 v1:Value}{m:MV}{xs:List MV}{e:Int}(h0:bN c.key φ v0 m)(h01:v0.cells.toList=[v0])(h02:v0.oneCell'=true)(h1:bN c.key φ v1 (.list xs)): ∃W1 W2 W3,(∀(oo:Oper) (x y:Operand) (ee:Operand->Value),dn oo (.store ty x y)->ee x= .pointer (some ⟨w0.heap.size+2,j,none⟩)->ee y=v0->(execOp ee oo).run P W= .ok .skip W1)/\ (∀(oo:Oper) (x y:Operand) (ee:Operand->Value),dn oo (.store t.tY x y)->ee x= .pointer (some ⟨w0.heap.size+1,0,none⟩)->ee y=v1->(execOp ee oo).run P W1= .ok .skip W2)/\ (∀(oo:Oper) (x y:Operand) (ee:Operand->Value),dn oo (.store t.te x y)->ee x= .pointer (some ⟨w0.heap.size+1,1,none⟩)->ee y= .int .i64 e->(execOp ee oo).run P W2= .ok .skip W3)/\ pJ c φ0 w0 φ W3 ⟨xs,e,q.os.set j m⟩ (vs.set j v0):=by
 obtain ⟨I0,i1,i2,i3⟩:=dU;obtain ⟨IY,y1,y2,y3⟩:=H.tyY;obtain ⟨Ie,e1,e2,e3⟩:=H.tye;obtain ⟨g1,g2,g3⟩:=Xd h1;obtain ⟨To,c1⟩:=h.ho;have k1:=h.agd (j:=j) h0;obtain ⟨vb,Tr,b1,b2⟩:=k1.hr;have k2:=k1.ui g1;obtain ⟨vb2,Tr2,b3,b4⟩:=k2.hr;have hvb:vb2=v1:=by have:=(dp [v1,.int .i64 q.e].toArray b1).symm.trans b3;simp at this;exact this.1.symm
 subst hvb;refine ⟨_,_,_,λoo x y ee ho hx hy=>BF ho H.hT i1 i3 hx hy h01 h02 c1 (by rw [h.n];exact hj),λoo x y ee ho hx hy=>BF ho H.hT y1 y3 hx hy g2 g3 b1 (by simp),λoo x y ee ho hx hy=>BF ho H.hT e1 e3 hx hy rfl rfl b3 (by simp),k2.acw e b4⟩
theorem Ve (H:Va P c g k t){f ba:Nat}(F:RJ P f t k.ti fn r o){eH:List Nat}(ho: ∀j∈eH,j<8)(hlen:eH.length<100)(hb: ∀j (h:j<eH.length),φ1 ba j=some (.pointer (some ⟨w0.heap.size+2,eH[j],none⟩)))(hle:dJ φ1 φ)(hM:pJ c φ0 w0 φ W q vs)(hq:xW g k eH q=some q'): cn P f #[.pointer (some ⟨w0.heap.size+1,0,none⟩),.slice (some ⟨ba,0,none⟩) eH.length eH.length] W λ_ W'=> ∃φ vs,dJ φ1 φ/\pJ c φ0 w0 φ W' q' vs:=by
 refine eX F.pos F.name F.body (calls_of_wp F.pos F.body ?_);rw [F.tmps];obtain ⟨IR,r1,r2,r3,r4⟩:=H.tyR;obtain ⟨IY,y1,y2,y3⟩:=H.tyY;obtain ⟨Ie,e1,e2,e3⟩:=H.tye;obtain ⟨II,p1,p2,p3⟩:=H.tyI;obtain ⟨hIi,JV⟩:=aD p1;obtain ⟨iI,zI,hiI,hsI,_⟩:=eF (H.hT _ II hIi) JV;have key: ∀a:Act,Tm a 35 (kR (kR (λ_=>undef) 0 (.pointer (some ⟨w0.heap.size+1,0,none⟩))) 1 (.slice (some ⟨ba,0,none⟩) eH.length eH.length))->(BG r o).wp P (bodyPost P fn λe W=> ∃v,e= .returned v/\ ∃φ vs,dJ φ1 φ/\pJ c φ0 w0 φ W q' vs) a W:=by
  intro a af;unfold BG;refine wp_seq (wp_region ?_);rw [show sh (#[o 0,o 1,o 2]:Array Oper).size=[0,1,2] from rfl];refine af.step (v:= .slice (some ⟨ba,0,none⟩) eH.length eH.length) rfl F.ops.h0 (by decide) (aj F.ops.h0 _) (λa af=> ?_);refine af.step (v:= .int .i64 ((eH.length:Nat):Int)) rfl F.ops.h1 (by decide) (gX F.ops.h1 H.Vb rfl _) (λa af=> ?_);refine af.step (v:= .int .i64 0) rfl F.ops.h2 (by decide) (aj F.ops.h2 _) (λa af=> ?_);refine wp_block (wp_loop (λa W=> ∃σ,Tm a 35 σ/\σ 0= .pointer (some ⟨w0.heap.size+1,0,none⟩)/\σ 6= .slice (some ⟨ba,0,none⟩) eH.length eH.length/\σ 7= .int .i64 ((eH.length:Nat):Int)/\ ∃j:Nat,j<=eH.length/\σ 8= .int .i64 (j:Int)/\ ∃φ q vs,dJ φ1 φ/\pJ c φ0 w0 φ W q vs/\xW g k (eH.drop j) q=some q') (λa W=>match a.tmps.getD 8 undef with| .int _ j=>eH.length-j.toNat|_=>0) ?_ ?_)
  ·exact ⟨_,af,rfl,rfl,rfl,0,aaN _,rfl,φ,q,vs,hle,hM,by simpa using hq⟩
  ·clear af hle hM hq;rintro a W ⟨σ,af,h0,h6,h7,j,hj,h8,φ,q,vs,hle,hM,hq⟩;have hm8:(match a.tmps.getD 8 undef with| .int _ j=>eH.length-j.toNat|_=>0)=eH.length-j:=by rw [af.get 8,h8];simp
   rw [hm8];clear hm8;refine wp_seq (wp_region ?_);rw [show sh (#[o 3]:Array Oper).size=[0] from rfl];refine af.step (v:= .bool (decide ((j:Int)<(eH.length:Int)))) rfl F.ops.h3 (by decide) (BA F.ops.h3 h8 h7 _) (λa af=> ?_);refine wp_seq ?_;by_cases cz:j<eH.length;rotate_left
   ·refine af.cond (b:=false) (by show aac (decide ((j:Int)<(eH.length:Int)))=_;rw [decide_eq_false (by omega)]) ?_;simp only [AI,if_false];refine wp_exit ?_;rw [aaw (by omega)] at hq;simp only [xW,aQ] at hq;subst hq;exact YU (P:=P) (R:=λ_ W=> ∃φ vs,dJ φ1 φ/\pJ c φ0 w0 φ W q vs) F.res af (λ_=>⟨φ,vs,hle,hM⟩)
   refine af.cond (b:=true) (by show aac (decide ((j:Int)<(eH.length:Int)))=_;rw [decide_eq_true (by omega)]) ?_;simp only [if_true];refine wp_skip ?_;rw [List.drop_eq_getElem_cons cz] at hq;simp only [xW] at hq;have hpc:W.cell? ⟨ba,j,none⟩=some (.pointer (some ⟨w0.heap.size+2,eH[j],none⟩)):=hM.fB _ _ _ (hle _ _ _ (hb j cz));refine wp_seq (wp_block ?_);refine wp_seq (wp_region ?_);rw [show sh (#[o 4,o 5,o 6]:Array Oper).size=[0,1,2] from rfl];refine af.step rfl F.ops.h4 (by decide) (U6 (size:=1) F.ops.h4 H.Vb hiI (by rw [hsI,p3]) h6 h8 cz _) (λa af=> ?_);refine af.step (v:= .pointer (some ⟨w0.heap.size+2,eH[j],none⟩)) rfl F.ops.h5 (by decide) (n9 F.ops.h5 (gz H.hT p1 p2 p3 (by simpa using hpc))) (λa af=> ?_);refine af.step (v:= .pointer (some ⟨w0.heap.size+2,eH[j],none⟩)) rfl F.ops.h6 (by decide) (aZ F.ops.h6 _) (λa af=> ?_);refine wp_seq (wp_region ?_);rw [show sh (#[o 7,o 8,o 9,o 10,o 11]:Array Oper).size=[0,1,2,3,4] from rfl];refine af.step (v:= .pointer (some ⟨w0.heap.size+1,0,none⟩)) rfl F.ops.h7 (by decide) ((aj F.ops.h7 _).trans (by show BY (AT (σ 0)) W=_;rw [h0])) (λa af=> ?_);refine af.step rfl F.ops.h8 (by decide) (kg F.ops.h8 rfl _) (λa af=> ?_);refine af.step rfl F.ops.h9 (by decide) (fc F.ops.h9 H.hT r1 r2 (q:=1) (by rw [r3];rfl) rfl _) (λa af=> ?_);refine af.step (v:= .int .i64 q.e) rfl F.ops.rb (by decide) (n9 F.ops.rb (gz H.hT e1 e2 e3 (by simpa using hM.lde))) (λa af=> ?_);refine af.step (v:= .bool (decide (q.e=0))) rfl F.ops.yU (by decide) (iV F.ops.yU rfl rfl _) (λa af=> ?_);have last: ∀(a:Act) (W:World) (σ:Nat->Value) (φ:Ph) (q:I8) (vs:List Value),Tm a 35 σ->σ 0= .pointer (some ⟨w0.heap.size+1,0,none⟩)->σ 6= .slice (some ⟨ba,0,none⟩) eH.length eH.length->σ 7= .int .i64 ((eH.length:Nat):Int)->σ 8= .int .i64 (j:Int)-> dJ φ1 φ->pJ c φ0 w0 φ W q vs->xW g k (eH.drop (j+1)) q=some q'-> (abA (r 5) #[o 32,o 33] false).wp P (Exit.then (λa W=>(∃σ,Tm a 35 σ/\σ 0= .pointer (some ⟨w0.heap.size+1,0,none⟩)/\σ 6= .slice (some ⟨ba,0,none⟩) eH.length eH.length/\σ 7= .int .i64 ((eH.length:Nat):Int)/\ ∃j:Nat,j<=eH.length/\σ 8= .int .i64 (j:Int)/\ ∃φ q vs,dJ φ1 φ/\pJ c φ0 w0 φ W q vs/\xW g k (eH.drop j) q=some q')/\(match a.tmps.getD 8 undef with| .int _ j=>eH.length-j.toNat|_=>0)<eH.length-j) (Exit.inBlock 0 (bodyPost P fn λe W=> ∃v,e= .returned v/\ ∃φ vs,dJ φ1 φ/\pJ c φ0 w0 φ W q' vs))) a W:=by
    intro a W σ φ q vs af h0 h6 h7 h8 hle hM hq;refine wp_region ?_;rw [show sh (#[o 32,o 33]:Array Oper).size=[0,1] from rfl];refine af.step (v:= .int .i64 ((j+1:Nat):Int)) rfl F.ops.J0 (by decide) (eG (q:=1) F.ops.J0 h8 rfl (by omega) _) (λa af=> ?_);refine af.step (v:= .int .i64 ((j+1:Nat):Int)) rfl F.ops.J1 (by decide) (aj F.ops.J1 _) (λa af=> ?_);refine ⟨⟨_,af,h0,h6,h7,j+1,by omega,rfl,φ,q,vs,hle,hM,hq⟩,?_⟩;have:a.tmps.getD 8 undef= .int .i64 ((j+1:Nat):Int):=by rw [af.get 8];rfl
    rw [this];simp;omega
   by_cases he:q.e=0;rotate_left
   ·refine af.cond (b:=false) (by show aac (decide (q.e=0))=_;rw [decide_eq_false he]) ?_;simp only [AI,if_false];refine wp_skip ?_;rw [U9,if_neg he] at hq;exact last a W _ φ q vs af h0 h6 h7 h8 hle hM hq
   refine af.cond (b:=true) (by show aac (decide (q.e=0))=_;rw [decide_eq_true he]) ?_;simp only [if_true];cases fH:U9 g k eH[j] q with
   |none=>rw [fH] at hq;cases hq
   |some q2=>
   rw [fH] at hq;dsimp only at hq;rw [U9,if_pos he] at fH;split at fH;rotate_left
   ·cases fH
   rename_i n xs e Ii;simp only [aQ] at fH;subst fH;obtain ⟨vb,Tr,b1,b2⟩:=hM.hr;refine wp_region ?_;rw [show sh (#[o 12,o 13,o 14,o 15,o 16,o 17,o 18,o 19,o 20,o 21,o 22,o 23,o 24,o 25,o 26,o 27,o 28,o 29,o 30,o 31]:Array Oper).size=[0,1,2,3,4,5,6,7,8,9,10,11,12,13,14,15,16,17,18,19] from rfl];refine af.step (v:= .pointer (some ⟨w0.heap.size+2,eH[j],none⟩)) rfl F.ops.yV (by decide) (aj F.ops.yV _) (λa af=> ?_);refine af.step (v:= .pointer (some ⟨w0.heap.size+1,0,none⟩)) rfl F.ops.yW (by decide) ((aj F.ops.yW _).trans (by show BY (AT (σ 0)) W=_;rw [h0])) (λa af=> ?_);refine af.step (v:= .pointer (some ⟨w0.heap.size+1,0,none⟩)) rfl F.ops.yX (by decide) ((aj F.ops.yX _).trans (by show BY (AT (σ 0)) W=_;rw [h0])) (λa af=> ?_);refine af.step (v:= .pointer (some ⟨w0.heap.size+1,0,none⟩)) rfl F.ops.yY (by decide) ((aj F.ops.yY _).trans (by show BY (AT (σ 0)) W=_;rw [h0])) (λa af=> ?_);refine af.step rfl F.ops.yZ (by decide) (kg F.ops.yZ rfl _) (λa af=> ?_);refine af.step rfl F.ops.Dt (by decide) (fc F.ops.Dt H.hT r1 r2 (q:=0) (by rw [r3];rfl) rfl _) (λa af=> ?_);refine af.step (v:=vb) rfl F.ops.GL (by decide) (n9 F.ops.GL (gz H.hT y1 y2 y3 (by rw [cell_of b1];rfl))) (λa af=> ?_);have xx:cn P k.ti #[vb] W λx W'=> ∃φ',Trans (λb=>W.heap.size<=b) φ W φ' W'/\iA φ' W'/\dy c (λb=>W.heap.size<=b) φ' W' (c.key k.ti) x (.cG [.i .i64 n,.list xs,.i .i64 e]):=tJ (vs:=[vb]) (by rw [H.key];exact H.gv.1) (H.snd _ _ _ Ii) rfl ⟨_,_,rfl,⟨rfl,b2⟩,rfl⟩ hM.fB;refine af.call rfl F.ops.HB (by decide) (GU F.ops.HB rfl rfl _) xx ?_;rintro x1 W1 a ⟨φ2,t1,m1,jt⟩ af;obtain ⟨arr,rfl,jt⟩: ∃arr,x1= .tuple arr/\aE c.key φ2 arr.toList [.i .i64 n,.list xs,.i .i64 e]:=jt;obtain ⟨x,y,z,a1,a2,a3,q1,q2,q3⟩:=jt.three;have hx:=RI q1;have hz:=RI q3;subst hx hz;have hM1:=hM.grow t1 m1;obtain ⟨Wa,Wb,Wc,s1,s2,s3,hM2⟩:=hM1.acy H H.tyi (ho _ (aaU cz)) q1 rfl rfl q2 (e:=e);refine af.step (v:= .tuple arr) rfl F.ops.HC (by decide) (aj F.ops.HC _) (λa af=> ?_);refine af.step (v:= .int .i64 n) rfl F.ops.E6 (by decide) (oW F.ops.E6 rfl a1 _) (λa af=> ?_);refine af.step (v:=y) rfl F.ops.E7 (by decide) (oW F.ops.E7 rfl a2 _) (λa af=> ?_);refine af.step (v:= .int .i64 e) rfl F.ops.E8 (by decide) (oW F.ops.E8 rfl a3 _) (λa af=> ?_);refine af.step rfl F.ops.E9 (by decide) (kg F.ops.E9 rfl _) (λa af=> ?_);refine af.sr rfl F.ops.Fa (s1 _ _ _ _ F.ops.Fa rfl rfl) ?_;refine af.step rfl F.ops.IU (by decide) (kg F.ops.IU rfl _) (λa af=> ?_);refine af.step rfl F.ops.K6 (by decide) (fc F.ops.K6 H.hT r1 r2 (q:=0) (by rw [r3];rfl) rfl _) (λa af=> ?_);refine af.sr rfl F.ops.K7 (s2 _ _ _ _ F.ops.K7 rfl rfl) ?_;refine af.step rfl F.ops.K8 (by decide) (kg F.ops.K8 rfl _) (λa af=> ?_);refine af.step rfl F.ops.IV (by decide) (fc F.ops.IV H.hT r1 r2 (q:=1) (by rw [r3];rfl) rfl _) (λa af=> ?_);refine af.sr rfl F.ops.JZ (s3 _ _ _ _ F.ops.JZ rfl rfl) ?_;exact last a Wc _ φ2 _ _ af h0 h6 h7 h8 (hle.trans t1.ph) hM2 hq
 exact key _ (tm2 _ _ 33)
theorem Mx (H:Va P c g k t){f:Nat}(F:RL P f t k.tx fn r o){j:Nat}(hj:j<8){most:Int}(hle:dJ φ1 φ)(hM:pJ c φ0 w0 φ W q vs)(hq:GX g k j most q=some q'): cn P f #[.pointer (some ⟨w0.heap.size+1,0,none⟩),.pointer (some ⟨w0.heap.size+2,j,none⟩),.int .i64 most] W λ_ W'=> ∃φ vs,dJ φ1 φ/\pJ c φ0 w0 φ W' q' vs:=by
 refine eX F.pos F.name F.body (calls_of_wp F.pos F.body ?_);rw [F.tmps];obtain ⟨IR,r1,r2,r3,r4⟩:=H.tyR;obtain ⟨IY,y1,y2,y3⟩:=H.tyY;obtain ⟨Ie,e1,e2,e3⟩:=H.tye;have key: ∀a:Act,Tm a 29 (kR (kR (kR (λ_=>undef) 0 (.pointer (some ⟨w0.heap.size+1,0,none⟩))) 1 (.pointer (some ⟨w0.heap.size+2,j,none⟩))) 2 (.int .i64 most))->(BH r o).wp P (bodyPost P fn λe W=> ∃v,e= .returned v/\ ∃φ vs,dJ φ1 φ/\pJ c φ0 w0 φ W q' vs) a W:=by
  intro a af;unfold BH;refine wp_seq (wp_region ?_);rw [show sh (#[o 0,o 1,o 2,o 3,o 4]:Array Oper).size=[0,1,2,3,4] from rfl];refine af.step (v:= .pointer (some ⟨w0.heap.size+1,0,none⟩)) rfl F.ops.h0 (by decide) (aj F.ops.h0 _) (λa af=> ?_);refine af.step rfl F.ops.h1 (by decide) (kg F.ops.h1 rfl _) (λa af=> ?_);refine af.step rfl F.ops.h2 (by decide) (fc F.ops.h2 H.hT r1 r2 (q:=1) (by rw [r3];rfl) rfl _) (λa af=> ?_);refine af.step (v:= .int .i64 q.e) rfl F.ops.h3 (by decide) (n9 F.ops.h3 (gz H.hT e1 e2 e3 (by simpa using hM.lde))) (λa af=> ?_);refine af.step (v:= .bool (decide (q.e=0))) rfl F.ops.h4 (by decide) (iV F.ops.h4 rfl rfl _) (λa af=> ?_);by_cases he:q.e=0;rotate_left
  ·refine af.cond (b:=false) (by show aac (decide (q.e=0))=_;rw [decide_eq_false he]) ?_;simp only [AI,if_false];refine wp_skip ?_;rw [GX,if_neg he] at hq;simp only [aQ] at hq;subst hq;exact YU F.res af (λ_=>⟨φ,vs,hle,hM⟩)
  refine af.cond (b:=true) (by show aac (decide (q.e=0))=_;rw [decide_eq_true he]) ?_;simp only [if_true];rw [GX,if_pos he] at hq;split at hq;rotate_left
  ·cases hq
  rename_i l xs e Ii;simp only [aQ] at hq;subst hq;obtain ⟨vb,Tr,b1,b2⟩:=hM.hr;refine wp_region ?_;rw [show sh (#[o 5,o 6,o 7,o 8,o 9,o 10,o 11,o 12,o 13,o 14,o 15,o 16,o 17,o 18,o 19,o 20,o 21,o 22,o 23,o 24,o 25]:Array Oper).size=[0,1,2,3,4,5,6,7,8,9,10,11,12,13,14,15,16,17,18,19,20] from rfl];refine af.step (v:= .pointer (some ⟨w0.heap.size+2,j,none⟩)) rfl F.ops.h5 (by decide) (aj F.ops.h5 _) (λa af=> ?_);refine af.step (v:= .pointer (some ⟨w0.heap.size+1,0,none⟩)) rfl F.ops.h6 (by decide) (aj F.ops.h6 _) (λa af=> ?_);refine af.step (v:= .pointer (some ⟨w0.heap.size+1,0,none⟩)) rfl F.ops.h7 (by decide) (aj F.ops.h7 _) (λa af=> ?_);refine af.step (v:= .pointer (some ⟨w0.heap.size+1,0,none⟩)) rfl F.ops.h8 (by decide) (aj F.ops.h8 _) (λa af=> ?_);refine af.step rfl F.ops.h9 (by decide) (kg F.ops.h9 rfl _) (λa af=> ?_);refine af.step rfl F.ops.rb (by decide) (fc F.ops.rb H.hT r1 r2 (q:=0) (by rw [r3];rfl) rfl _) (λa af=> ?_);refine af.step (v:=vb) rfl F.ops.yU (by decide) (n9 F.ops.yU (gz H.hT y1 y2 y3 (by rw [cell_of b1];rfl))) (λa af=> ?_);refine af.step (v:= .int .i64 most) rfl F.ops.yV (by decide) (aj F.ops.yV _) (λa af=> ?_);have xx:cn P k.tx #[vb,.int .i64 most] W λx W'=> ∃φ',Trans (λb=>W.heap.size<=b) φ W φ' W'/\iA φ' W'/\dy c (λb=>W.heap.size<=b) φ' W' (c.key k.tx) x (.cG [.s l,.list xs,.i .i64 e]):=tJ (vs:=[vb,.int .i64 most]) (by rw [H.key];exact H.gv.2.1) (H.snd _ _ _ Ii) rfl ⟨_,_,rfl,⟨rfl,b2⟩,_,_,rfl,su,rfl⟩ hM.fB;refine af.call rfl F.ops.yW (by decide) (GV F.ops.yW rfl rfl rfl _) xx ?_;rintro x1 W1 a ⟨φ2,t1,m1,jt⟩ af;obtain ⟨arr,rfl,jt⟩: ∃arr,x1= .tuple arr/\aE c.key φ2 arr.toList [.s l,.list xs,.i .i64 e]:=jt;obtain ⟨x,y,z,a1,a2,a3,q1,q2,q3⟩:=jt.three;have hz:=RI q3;subst hz;have hx:x.cells.toList=[x]/\x.oneCell'=true:=by obtain ⟨_,hx⟩:=q1;generalize hv:[x]=lx at hx;cases hx;simp at hv;subst hv;exact ⟨rfl,rfl⟩
  have hM1:=hM.grow t1 m1;obtain ⟨Wa,Wb,Wc,s1,s2,s3,hM2⟩:=hM1.acy H H.tyS hj q1 hx.1 hx.2 q2 (e:=e);refine af.step (v:= .tuple arr) rfl F.ops.yX (by decide) (aj F.ops.yX _) (λa af=> ?_);refine af.step (v:=x) rfl F.ops.yY (by decide) (oW F.ops.yY rfl a1 _) (λa af=> ?_);refine af.step (v:=y) rfl F.ops.yZ (by decide) (oW F.ops.yZ rfl a2 _) (λa af=> ?_);refine af.step (v:= .int .i64 e) rfl F.ops.Dt (by decide) (oW F.ops.Dt rfl a3 _) (λa af=> ?_);refine af.step rfl F.ops.GL (by decide) (kg F.ops.GL rfl _) (λa af=> ?_);refine af.sr rfl F.ops.HB (s1 _ _ _ _ F.ops.HB rfl rfl) ?_;refine af.step rfl F.ops.HC (by decide) (kg F.ops.HC rfl _) (λa af=> ?_);refine af.step rfl F.ops.E6 (by decide) (fc F.ops.E6 H.hT r1 r2 (q:=0) (by rw [r3];rfl) rfl _) (λa af=> ?_);refine af.sr rfl F.ops.E7 (s2 _ _ _ _ F.ops.E7 rfl rfl) ?_;refine af.step rfl F.ops.E8 (by decide) (kg F.ops.E8 rfl _) (λa af=> ?_);refine af.step rfl F.ops.E9 (by decide) (fc F.ops.E9 H.hT r1 r2 (q:=1) (by rw [r3];rfl) rfl _) (λa af=> ?_);refine af.sr rfl F.ops.Fa (s3 _ _ _ _ F.ops.Fa rfl rfl) ?_;exact YU F.res af (λ_=>⟨φ2,_,hle.trans t1.ph,hM2⟩)
 exact key _ (tm3 _ _ _ 26)
end
end Dn
/-
  Parts that are taken off bytes, into a variable of eight parts: the walk. Conditions: none.
-/
namespace Dn
open Go
def BI (r:Nat->Nat)(o:Nat->Oper):Code:= .seq (.region (r 0) #[o 0,o 1,o 2] false) (.seq (.region (r 1) #[o 3,o 4,o 5,o 6] false) (.seq (.region (r 2) #[o 7,o 8,o 9] false) (.seq (.region (r 3) #[o 10,o 11,o 12,o 13,o 14,o 15,o 16,o 17,o 18] false) (.seq (.region (r 4) #[o 19,o 20,o 21] false) (.seq (.region (r 5) #[o 22,o 23,o 24] false) (.seq (.block 0 (.seq (.region (r 6) #[o 25,o 26,o 27,o 28,o 29,o 30] false) (.cond (.tmp 26) (.seq (.region (r 7) #[o 31,o 32,o 33,o 34,o 35,o 36,o 37,o 38] true) .ret) (.seq (.region (r 8) #[o 39,o 40,o 41,o 42] false) (.cond (.tmp 37) (.seq (.region (r 9) #[o 43,o 44,o 45,o 46] false) .ret) .skip))))) (.seq (.region (r 10) #[o 47,o 48,o 49,o 50,o 51,o 52,o 53,o 54] true) .ret)))))))
structure Vf (t:Pk) (fI fX fM:Nat) (o:Nat->Oper):Prop where
 h0:ae (o 0) 2 (.alloc t.tO)
 h1:ae (o 1) 3 (.assign (.const (.slice none 0 0)))
 h2:ae (o 2) 4 (.assign (.const (.int .i64 0)))
 h3:ae (o 3) 7 (.move (.tmp 0))
 h4:ae (o 4) 8 (.build t.tR #[(0,.tmp 7)])
 h5:ae (o 5) 9 (.box t.tR (.tmp 8))
 h6:ae (o 6) 5 (.assign (.tmp 9))
 h7:ae (o 7) 10 (.build t.tO #[])
 h8:ae (o 8) 6 (.alloc t.tO)
 h9:dn (o 9) (.store t.tO (.tmp 6) (.tmp 10))
 rb:ae (o 10) 11 (.move (.tmp 5))
 yU:ae (o 11) 12 (.fieldAddr t.tO (.tmp 6) 0)
 yV:ae (o 12) 13 (.fieldAddr t.tO (.tmp 6) 1)
 yW:ae (o 13) 14 (.fieldAddr t.tO (.tmp 6) 2)
 yX:ae (o 14) 15 (.fieldAddr t.tO (.tmp 6) 5)
 yY:ae (o 15) 16 (.fieldAddr t.tO (.tmp 6) 6)
 yZ:ae (o 16) 17 (.fieldAddr t.tO (.tmp 6) 7)
 Dt:ae (o 17) 18 (.buildSlice t.tL 6 #[(0,.tmp 12),(1,.tmp 13),(2,.tmp 14),(3,.tmp 15),(4,.tmp 16),(5,.tmp 17)])
 GL:ae (o 18) 19 (.call {callee:= .value (.func fI),args:= #[.tmp 11,.tmp 18],argTypes:= #[t.tQ,t.tL]})
 HB:ae (o 19) 20 (.move (.tmp 5))
 HC:ae (o 20) 21 (.fieldAddr t.tO (.tmp 6) 3)
 E6:ae (o 21) 22 (.call {callee:= .value (.func fX),args:= #[.tmp 20,.tmp 21,.const (.int .i64 100)],argTypes:= #[t.tQ,t.tX,t.ti]})
 E7:ae (o 22) 23 (.move (.tmp 5))
 E8:ae (o 23) 24 (.fieldAddr t.tO (.tmp 6) 4)
 E9:ae (o 24) 25 (.call {callee:= .value (.func fX),args:= #[.tmp 23,.tmp 24,.const (.int .i64 1000)],argTypes:= #[t.tQ,t.tX,t.ti]})
 Fa:ae (o 25) 27 (.move (.tmp 5))
 IU:ae (o 26) 28 (.nilCheck (.tmp 27))
 K6:ae (o 27) 29 (.fieldAddr t.tR (.tmp 28) 1)
 K7:ae (o 28) 30 (.load t.te (.tmp 29))
 K8:ae (o 29) 31 (.binOp .neq t.te (.tmp 30) (.const (.int .i64 0)) t.te)
 IV:ae (o 30) 26 (.assign (.tmp 31))
 JZ:ae (o 31) 32 (.build t.tO #[])
 J0:ae (o 32) 33 (.move (.tmp 5))
 J1:ae (o 33) 34 (.nilCheck (.tmp 33))
 K9:ae (o 34) 35 (.fieldAddr t.tR (.tmp 34) 1)
 Mn:ae (o 35) 36 (.load t.te (.tmp 35))
 Ob:dn (o 36) (.store t.tO (.tmp 2) (.tmp 32))
 Mo:ae (o 37) 3 (.assign (.const (.slice none 0 0)))
 Oc:ae (o 38) 4 (.assign (.tmp 36))
 UO:ae (o 39) 38 (.load t.tO (.tmp 6))
 UP:ae (o 40) 39 (.call {callee:= .value (.func fM),args:= #[.tmp 38],argTypes:= #[t.tO]})
 UQ:ae (o 41) 40 (.unOp .not t.tB (.tmp 39))
 UR:ae (o 42) 37 (.assign (.tmp 40))
 US:ae (o 43) 41 (.build t.tO #[])
 UT:dn (o 44) (.store t.tO (.tmp 2) (.tmp 41))
 h45:ae (o 45) 3 (.assign (.const (.slice none 0 0)))
 h46:ae (o 46) 4 (.assign (.const (.int .i64 3)))
 UU:ae (o 47) 42 (.load t.tO (.tmp 6))
 Qi:ae (o 48) 43 (.move (.tmp 5))
 Tx:ae (o 49) 44 (.nilCheck (.tmp 43))
 Ty:ae (o 50) 45 (.fieldAddr t.tR (.tmp 44) 0)
 UW:ae (o 51) 46 (.load t.tY (.tmp 45))
 WV:dn (o 52) (.store t.tO (.tmp 2) (.tmp 42))
 Tz:ae (o 53) 3 (.assign (.tmp 46))
 Rq:ae (o 54) 4 (.assign (.const (.int .i64 0)))
def My:List Value:=[.int .i64 0,.int .i64 0,.int .i64 0,.string abH,.string abH,.int .i64 0,.int .i64 0,.int .i64 0]
structure sv (P:Program) (c:Ctx) (g:Nat->List MV->Option MV) (k:U8) (t:Pk) (f fI fX:Nat) (fn:Func) (r:Nat->Nat) (o:Nat->Oper):Prop extends Va P c g k t where
 pos:P.funcs[f]? =some fn
 name:(fn.name== "runtime.NumGoroutine")=false
 tmps:fn.ntmps=47
 res:fn.results= #[.cell 2 t.tO,.tmp 3,.tmp 4]
 body:fn.body=some (BI r o)
 ops:Vf t fI fX k.may o
 ints: ∃fn1 r1 o1,RJ P fI t k.ti fn1 r1 o1
 text: ∃fn2 r2 o2,RL P fX t k.tx fn2 r2 o2
 WW:P.follows .mixedOrders=true
 d7:lU c #[o 31,o 32,o 33,o 34,o 35,o 36,o 37,o 38] [0,1,2,3,4,5,6,7]=true
 d10:lU c #[o 47,o 48,o 49,o 50,o 51,o 52,o 53,o 54] [0,1,2,3,4,5,6,7]=true
 s35:still c (o 35)=true
 s47:still c (o 47)=true
 s51:still c (o 51)=true
 m38:c8 c (o 38)=false
 m53:c8 c (o 53)=false
 gvF:c.bQ f=false
 tyL: ∃I,c.tv t.tL=some I/\I.elem=t.tI
 blR: ∀ad n cp,P.built t.tR [(0,.slice ad n cp)]=some #[.slice ad n cp,.int .i64 0]
 blO:P.built t.tO []=some My.toArray
theorem DS.RM {P:Program}{c:Ctx}{ops:Array Oper}{N:Act->World->Prop} {φ:Ph}{o:Oper}{a:Act}{w:World}{n:Nat} {σ:Nat->Value}{x d:Nat}{rest pre:List Nat}{listed:Array Bool}{op:Op}{v:Value}(h:DS c ops pre (x::rest) listed)(hx:ops[x]? =some o)(ho:ae o d op)(hd:d<n)(DC:dx o=true)(hmv:c8 c o=false)(hld:eE c o=true)(cu:still c o=true)(af:Tm a n σ)(hi:iA φ w)(aV: ∀w',iA φ w'->(execOp (ev σ) o).run P w'= .ok (.value v) w')(EH: ∀a',Tm a' n (kR σ d v)->DS c ops (x::pre) rest (listed.setIfInBounds x true)->rc P c ops N φ rest.length (listed.setIfInBounds x true) a' w):rc P c ops N φ (rest.length+1) listed a w:=by
 obtain ⟨sd,Bn,mn,mT,d4⟩:=h.facts hx;simp only [DC,hmv,acA,Bool.and_self,cond_true] at d4;obtain ⟨D,D1,D2,D3,D4⟩:=nZ rest [x] d4 (λy hy cg=>absurd (by simpa using hy) cg);have hL:=h.U4;refine p0 (v:=v) D3 hx h.sel rest.length listed a w ?_ ?_ mn ?_ hi ?_
 ·intro j oj KV WL hjx Iz;have IG:j<ops.size:=(aad.1 KV).1;have hjr:j∈rest:=by
   rcases h.all j IG with h1|h1
   ·exact absurd h1 ((hL.jC IG).1 Iz)
   ·rcases abw.1 h1 with h1|h1
    ·exact absurd h1 hjx
    ·exact h1
  obtain ⟨p,Np,EA,hp3⟩:=D4 j hjr WL;rw [KV] at Np;cases Np;exact ⟨EA,λhl hs=>by rw [cu] at hs;cases hs⟩
 ·intro d hd;have TP:d∉pre:=by
   rcases D2 d hd with h1|h1
   ·have h1:d=x:=by simpa using h1
    rw [h1];exact sd
   ·exact λhp=>gy rest (x::pre) mT.dr d h1 (by simp [hp])
  by_cases JY:d<ops.size
  ·cases hg:listed.getD d false with
   |false=>rfl
   |true=>exact absurd ((hL.done JY).1 hg) TP
  ·have hl: ¬d<listed.size:=by rw [hL.size];exact JY
   simp [hl]
 ·refine .inl ⟨by simp [aao,ho.guard],λw' hg=> ?_⟩;rw [af.eval];exact aV w' (hg hld).2
 ·rw [ho.dst];exact EH _ (af.put hd v) mT
section
variable {P:Program}{c:Ctx}{g:Nat->List MV->Option MV}{k:U8}{t:Pk}{f fI fX:Nat}{fn:Func}{r:Nat->Nat}{o:Nat->Oper} {φ0 φ1 φ:Ph} {w0 W W':World} {q q':I8}{vs:List Value}{a:Act} {σ:Nat->Value}
theorem wA {o:Oper}{d t:Nat}{parts:Array (Nat×Operand)}{e:Operand->Value}{out:Array Value}(ho:ae o d (.build t parts))(hb:P.built t (parts.toList.map λp=>(p.1,e p.2))=some out)(w:World):(execOp e o).run P w= .ok (.value (.agg out)) w:=by have:=run_build (P:=P) w t (parts.map λ(i,x)=>(i,e x)) out (by simpa using hb);simp [execOp,ho.op] at this⊢;simp [this]
theorem Vg {o:Oper}{d:Nat} {t t':TypeId}{x y:Operand}{e:Operand->Value}{p q:Int}(ho:ae o d (.binOp .neq t x y t'))(hx:e x= .int .i64 p)(hy:e y= .int .i64 q)(w:World):(execOp e o).run P w= .ok (.value (.bool (!decide (p=q)))) w:=oU ho hx hy (λw=>by simp [Go.binOp,Op.intCmp];rfl) w
theorem wB {o:Oper}{t:TypeId}{I:TI}{x y:Operand}{e:Operand->Value}{g:Nat}{arr:Array Value}{T:TypeId}{w:World}(ho:dn o (.store t x y))(hT:dt P c.ti)(hI:c.tv t=some I)(hs:I.size=vs.length)(hx:e x= .pointer (some ⟨g,0,none⟩))(hy:e y= .agg vs.toArray)(h1: ∀u∈vs,u.oneCell'=true)(bH:w.heap[g]? =some (.cells arr T (0,0)))(hn:arr.size=vs.length):(execOp e o).run P w= .ok .skip (w.setRow g vs.toArray):=by
 obtain ⟨fH,vL⟩:=aD hI;have hc:(acF vs.toArray).cells.toList=vs:=by simp [adG]
 rw [wv (v:= .agg vs.toArray) ho (hT _ _ fH) vL hx hy (by rw [hc,hs]) (by rw [hc];exact h1) bH (by rw [hs,hn];omega),hc,hs];have:arr.toList.drop (0+vs.length)=[]:=by rw [aaP,aaw];rw [aae,hn];exact IT _
 rw [this];simp
theorem aE.Nu {key:Nat->Nat} {φ:Ph}: ∀{ms:List MV} {vs:List Value},(∀m∈ms,m.one=true)->aE key φ vs ms->dq key φ vs ms:=by
 intro ms;induction ms with
 |nil=>intro vs _ h;have h:vs=[]:=h;subst h;exact .nil
 |cons m ms ih=>intro vs h1 h;obtain ⟨v,r,rfl,h2,h3⟩:=h;refine .cons [v] m r ms ?_ (ih (λm hm=>h1 m (by simp [hm])) h3);have:=h1 m (by simp);cases m<;>first|exact h2.2|(simp [MV.one] at this)
theorem aE.rO {key:Nat->Nat} {φ:Ph}{ms:List MV}{vs:List Value}(h:dq key φ vs ms): ∀u∈vs,u.oneCell'=true:=h.cells
theorem Mz {os:List MV}{j:Nat}{m:MV}(h: ∀m∈os,m.one=true)(hm:m.one=true): ∀x∈os.set j m,x.one=true:=by
 intro x hx;rcases List.mem_or_eq_of_mem_set hx with hx|rfl
 ·exact h x hx
 ·exact hm
theorem Vh {j:Nat}(h: ∀m∈q.os,m.one=true)(hq:U9 g k j q=some q'): ∀m∈q'.os,m.one=true:=by
 unfold U9 at hq;split at hq
 ·split at hq
  ·simp only [aQ] at hq;subst hq;exact Mz h rfl
  ·cases hq
 ·simp only [aQ] at hq;subst hq;exact h
theorem MA {j:Nat}{most:Int}(h: ∀m∈q.os,m.one=true)(hq:GX g k j most q=some q'): ∀m∈q'.os,m.one=true:=by
 unfold GX at hq;split at hq
 ·split at hq
  ·simp only [aQ] at hq;subst hq;exact Mz h rfl
  ·cases hq
 ·simp only [aQ] at hq;subst hq;exact h
theorem RN {l:List Nat}: ∀{q:I8},(∀m∈q.os,m.one=true)->xW g k l q=some q'-> ∀m∈q'.os,m.one=true:=by
 induction l with
 |nil=>intro q h hq;simp only [xW,aQ] at hq;subst hq;exact h
 |cons j l ih=>
  intro q h hq;simp only [xW] at hq;cases h1:U9 g k j q with
  |none=>rw [h1] at hq;cases hq
  |some q2=>rw [h1] at hq;exact ih (Vh h h1) hq
theorem GY {key:Nat->Nat} {φ:Ph}:aE key φ My Pj:=⟨_,_,rfl,su,_,_,rfl,su,_,_,rfl,su,_,_,rfl,⟨rfl,.s _⟩,_,_,rfl,⟨rfl,.s _⟩,_,_,rfl,su,_,_,rfl,su,_,_,rfl,su,rfl⟩
theorem GZ: ∀m∈Pj,m.one=true:=by intro m hm;simp [Pj] at hm;rcases hm with rfl|rfl|rfl|rfl|rfl|rfl|rfl|rfl<;>rfl
theorem BJ (H:sv P c g k t f fI fX fn r o)(af:Tm a 47 σ)(hb: ∃T,W.heap[w0.heap.size]? =some (.cells vs.toArray T (0,0)))(hn:vs.length=8)(h2:σ 2= .pointer (some ⟨w0.heap.size,0,none⟩)){R:Value->World->Prop}(h:R (.tuple #[.agg vs.toArray,σ 3,σ 4]) W): bodyPost P fn (λe W=> ∃v,e= .returned v/\R v W) .ret a W:=by
 obtain ⟨Iw,p1,p2,p3,p4⟩:=H.TB;obtain ⟨T,hb⟩:=hb;refine ⟨af.defers,.tuple #[.agg vs.toArray,σ 3,σ 4],?_,_,rfl,h⟩;have RO:(loadVar t.tO ⟨w0.heap.size,0,none⟩).run P W= .ok (.agg vs.toArray) W:=by have:=vk (P:=P) (w:=W) (g:=w0.heap.size) (off:=0) H.hT p1 p2 (by rw [hn,p4]) (wOf hb (by simp));simpa [aa1,acB] using this
 have z6:a.tmps[2]?.getD undef= .pointer (some ⟨w0.heap.size,0,none⟩):=by have:=(af.get 2).trans h2;simpa using this
 have LS:a.tmps[3]?.getD undef=σ 3:=by have:=af.get 3;simpa using this
 have h4':a.tmps[4]?.getD undef=σ 4:=by have:=af.get 4;simpa using this
 simp [results,H.res,z6,LS,h4',RO,asAddr]
end
end Dn
/-
  Parts that are taken off bytes, into a variable of eight parts: from the beginning to the end. Conditions: none.
-/
namespace Dn
open Go
section
variable {P:Program}{c:Ctx}{g:Nat->List MV->Option MV}{k:U8}{t:Pk}{f fI fX:Nat}{fn:Func}{r:Nat->Nat}{o:Nat->Oper} {φ0 φ1 φ φt:Ph} {w0 W W':World} {q q':I8}{vs:List Value}{a:Act} {σ:Nat->Value}{res:MV}
def BK (c:Ctx) (φ0:Ph)(w0:World)(res:MV)(v:Value)(W:World):Prop:= ∃φ',Trans (λb=>w0.heap.size<=b) φ0 w0 φ' W/\iA φ' W/\ ∃ms arr,res= .cG ms/\v= .tuple arr/\aE c.key φ' arr.toList ms
theorem pJ.sea1 (h:pJ c φ0 w0 φ W q vs): ∃φt vb,dJ φ φt/\iA φt W/\(∀b o,b≠w0.heap.size+1->b≠w0.heap.size+2->φt b o=φ b o)/\φt (w0.heap.size+1) 0=some vb/\φt (w0.heap.size+1) 1=some (.int .i64 q.e)/\dI c.key φt [vb] (.list q.xs)/\ ∀j,φt (w0.heap.size+2) j=vs[j]? :=by
 obtain ⟨vb,Tr,b1,b2⟩:=h.hr;obtain ⟨To,c1⟩:=h.ho;have f1: ∀o,φ (w0.heap.size+1) o=none:=λo=>h.f 1 o (by decide);have l1:=BD (vs:=[vb,.int .i64 q.e]) f1;have f2: ∀o,DT φ (w0.heap.size+1) [vb,.int .i64 q.e] (w0.heap.size+2) o=none:=λo=>by unfold DT;rw [if_neg (by omega)];exact h.f 2 o (by decide)
 have l2:=BD (vs:=vs) f2;refine ⟨_,vb,l1.trans l2,wz (wz h.fB b1) c1,λb o n1 n2=>by unfold DT;rw [if_neg n2,if_neg n1],?_,?_,b2.mono (l1.trans l2),λj=>by simp [DT]⟩
 ·exact l2 _ _ _ (by simp [DT])
 ·exact l2 _ _ _ (by simp [DT])
theorem pJ.close (h:pJ c φ0 w0 φ W q vs)(hle:dJ φ φt)(hi:iA φt W) (hφ: ∀b o,b≠w0.heap.size+1->b≠w0.heap.size+2->φt b o=φ b o)(hs:W'.heap.size=W.heap.size)(hr:Rest W W')(ho: ∀b,b≠w0.heap.size->W'.heap[b]? =W.heap[b]?):Trans (λb=>w0.heap.size<=b) φ0 w0 φt W'/\iA φt W':=by
 refine ⟨⟨h.tr.ph.trans hle,λb hb hl=> ?_,λb o hb=> ?_,by rw [hs];exact h.tr.size,h.tr.rest.trans hr⟩,λb o u hu=>kh (hi b o u hu) λhl=>ho b λe=> ?_⟩
 ·rw [ho b (by omega)];exact h.tr.heap b hb hl
 ·rw [hφ b o (by omega) (by omega)];exact h.tr.free b o hb
 ·rw [hφ b o (by omega) (by omega),e,show w0.heap.size=w0.heap.size+0 from rfl,h.f 0 o (by decide)] at hu;cases hu
theorem Tm.Xe {ops:Array Oper}{o:Oper}{x n:Nat}{op:Op} {w w':World}{Q:Exit->Act->World->Prop}{K:Act->World->Prop}(af:Tm a n σ)(hi:ops[x]? =some o)(ho:dn o op)(aV:(execOp (ev σ) o).run P w= .ok .skip w')(h:K a w'):wpOp P ops Q x K a w:=by unfold wpOp;simp only [hi,aao,ho.guard,if_true];left;unfold adV;rw [af.eval,aV];simp only [Oper.upon];rw [ho.dst];exact h
theorem MB {p oi:Oper}{t:TypeId}{x y:Operand}(h:dn p (.store t x y)):(Dy c p||lT oi p)=false:=by
 have h1:Dy c p=false:=by simp [Dy,dx,qY,h.op]
 have h2:lT oi p=false:=by unfold lT;simp [PF,h.op]
 rw [h1,h2];rfl
theorem gD {p:Oper}{d:Nat}{op:Op}(h:ae p d op)(hn: ∀t x,op≠ .load t x):still c p=false:=by unfold still;rw [h.op];cases op<;>first|rfl|exact absurd rfl (hn _ _)
theorem xX: ∀u∈My,u.oneCell'=true:=by intro m hm;simp [My] at hm;rcases hm with rfl|rfl|rfl|rfl|rfl|rfl|rfl|rfl<;>rfl
theorem MC {key:Nat->Nat} {φ:Ph}:dI key φ [abZ none 0 0] (.list []):= .list none 0 [] 0 0 0 (λ_=>[]) (by simp) (by simp) (by simp) (by simp) (by simp)
theorem Lc {φ':Ph}{ms:List MV}{xs:List MV}{e:Int}{us:List Value}{v:Value}(t1:Trans (λb=>w0.heap.size<=b) φ0 w0 φ' W)(t2:iA φ' W)(h1:dq c.key φ' us ms)(h2:dI c.key φ' [v] (.list xs)):BK c φ0 w0 (.cG [.agg ms,.list xs,.i .i64 e]) (.tuple #[.agg us.toArray,v,.int .i64 e]) W:=⟨φ',t1,t2,_,_,rfl,rfl,_,_,rfl,I7 h1,_,_,rfl,⟨rfl,h2⟩,_,_,rfl,su,rfl⟩
theorem Oe (H:sv P c g k t f fI fX fn r o)(hM:pJ c φ0 w0 φ W q vs)(af:Tm a 47 σ)(h2:σ 2= .pointer (some ⟨w0.heap.size,0,none⟩))(h5:σ 5= .pointer (some ⟨w0.heap.size+1,0,none⟩)){Q:Exit->Act->World->Prop}(hQ: ∀a W,bodyPost P fn (λe W=> ∃v,e= .returned v/\BK c φ0 w0 (.cG [.agg Pj,.list [],.i .i64 q.e]) v W) .ret a W->Q .ret a W): (Code.seq (.region (r 7) #[o 31,o 32,o 33,o 34,o 35,o 36,o 37,o 38] true) .ret).wp P Q a W:=by
 obtain ⟨φt,vb,l1,l2,l3,l4,l5,l6,l7⟩:=hM.sea1;obtain ⟨Iw,p1,p2,p3,p4⟩:=H.TB;obtain ⟨IR,r1,r2,r3,r4⟩:=H.tyR;obtain ⟨Ie,e1,e2,e3⟩:=H.tye;obtain ⟨zs,T2,b1,b2⟩:=hM.h2;refine wp_seq (I5 (c:=c) (φ:=φt) (ord:=[0,1,2,3,4,5,6,7]) H.WW H.d7 λlisted mT=> ?_);obtain ⟨W0,RD⟩: ∃W0,W0=({W with drawn:=W.drawn+1}:World):=⟨_,rfl⟩
 rw [<-RD];have Vi:W0.heap=W.heap:=by rw [RD]
 have KJ:Rest W W0:=by rw [RD];exact ⟨rfl,rfl,rfl⟩
 have RP:iA φt W0:=by rw [RD];exact l2
 refine mT.read (v:= .agg My.toArray) rfl H.ops.JZ (by decide) (by simp [dx,H.ops.JZ.op]) (by simp [c8,H.ops.JZ.op]) (gD H.ops.JZ (by simp)) (by simp [rD,H.ops.JZ.op]) af RP (λw' _=>wA H.ops.JZ H.blO w') (λa af mT=> ?_);refine mT.read (v:= .pointer (some ⟨w0.heap.size+1,0,none⟩)) rfl H.ops.J0 (by decide) (by simp [dx,H.ops.J0.op]) (by simp [c8,H.ops.J0.op]) (gD H.ops.J0 (by simp)) (by simp [rD,H.ops.J0.op]) af RP (λw' _=>(aj H.ops.J0 w').trans (by show BY (AT (σ 5)) w'=_;rw [h5])) (λa af mT=> ?_);refine mT.read (v:= .pointer (some ⟨w0.heap.size+1,0,none⟩)) rfl H.ops.J1 (by decide) (by simp [dx,H.ops.J1.op]) (by simp [c8,H.ops.J1.op]) (gD H.ops.J1 (by simp)) (by simp [rD,H.ops.J1.op]) af RP (λw' _=>kg H.ops.J1 rfl w') (λa af mT=> ?_);refine mT.read (v:= .pointer (some ⟨w0.heap.size+1,0+1,none⟩)) rfl H.ops.K9 (by decide) (by simp [dx,H.ops.K9.op]) (by simp [c8,H.ops.K9.op]) (gD H.ops.K9 (by simp)) (by simp [rD,H.ops.K9.op]) af RP (λw' _=>fc H.ops.K9 H.hT r1 r2 (by rw [r3];rfl) rfl w') (λa af mT=> ?_);refine mT.RM (v:= .int .i64 q.e) rfl H.ops.Mn (by decide) (by simp [dx,H.ops.Mn.op]) (by simp [c8,H.ops.Mn.op]) (by simp [eE,iK,H.ops.Mn.op]) H.s35 af RP (λw' hw=>n9 H.ops.Mn (gz H.hT e1 e2 e3 (hw _ _ _ l5))) (λa af mT=> ?_);refine mT.acu (o:=o 36) rfl (λy hy p hp=> ?_) (by simp [dx,H.ops.Ob.op]) (af.Xe rfl H.ops.Ob (wB H.ops.Ob H.hT p1 (by rw [p4];rfl) (by show σ 2=_;exact h2) rfl xX (by rw [Vi];exact b1) (by rw [b2];rfl)) ?_)
 ·have hy:y=6\/y=7:=by simpa using hy
  rcases hy with rfl|rfl<;>cases hp
  ·exact Ad H.ops.Mo (by simp)
  ·exact Ad H.ops.Oc (by simp)
 obtain ⟨W1,wC⟩: ∃W1,W1=W0.setRow w0.heap.size My.toArray:=⟨_,rfl⟩
 rw [<-wC];have np:W1.heap[w0.heap.size]? =some (.cells My.toArray T2 (0,0)):=by rw [wC];exact dp _ (by rw [Vi];exact b1)
 obtain ⟨t1,t2⟩:=hM.close (W':=W1) l1 l2 l3 (by rw [wC,setRow_size,Vi]) (KJ.trans (by rw [wC];exact .setRow _ _ _)) (λb hb=>by rw [wC,setRow_other _ _ _ _ hb,Vi]);refine ⟨⟨λoi hg=> ?_,t2⟩,?_⟩
 ·have JW:ke c oi #[o 31,o 32,o 33,o 34,o 35,o 36,o 37,o 38] 5=(Dy c (o 36)||lT oi (o 36)):=rfl;rw [JW,MB H.ops.Ob] at hg;cases hg
 obtain ⟨_,_,_,YV,_⟩:=mT.facts (o:=o 36) rfl;refine YV.read (v:= .slice none 0 0) rfl H.ops.Mo (by decide) (by simp [dx,H.ops.Mo.op]) (by simp [c8,H.ops.Mo.op]) (gD H.ops.Mo (by simp)) (by simp [rD,H.ops.Mo.op]) af t2 (λw' _=>aZ H.ops.Mo w') (λa af mT=> ?_);refine mT.read (v:= .int .i64 q.e) rfl H.ops.Oc (by decide) (by simp [dx,H.ops.Oc.op]) H.m38 (gD H.ops.Oc (by simp)) (by simp [rD,H.ops.Oc.op]) af t2 (λw' _=>aZ H.ops.Oc w') (λa af mT=> ?_);refine mT.done ?_;refine wp_ret (hQ _ _ ?_);exact BJ H af ⟨T2,np⟩ rfl (by show σ 2=_;exact h2) (Lc t1 t2 (GY.Nu GZ) MC)
theorem RQ (H:sv P c g k t f fI fX fn r o)(hM:pJ c φ0 w0 φ W q vs)(h1: ∀m∈q.os,m.one=true)(af:Tm a 47 σ)(h2:σ 2= .pointer (some ⟨w0.heap.size,0,none⟩))(h5:σ 5= .pointer (some ⟨w0.heap.size+1,0,none⟩))(h6:σ 6= .pointer (some ⟨w0.heap.size+2,0,none⟩)){Q:Exit->Act->World->Prop}(hQ: ∀a W,bodyPost P fn (λe W=> ∃v,e= .returned v/\BK c φ0 w0 (.cG [.agg q.os,.list q.xs,.i .i64 0]) v W) .ret a W->Q .ret a W): (Code.seq (.region (r 10) #[o 47,o 48,o 49,o 50,o 51,o 52,o 53,o 54] true) .ret).wp P Q a W:=by
 obtain ⟨φt,vb,l1,l2,l3,l4,l5,l6,l7⟩:=hM.sea1;obtain ⟨Iw,p1,p2,p3,p4⟩:=H.TB;obtain ⟨IR,r1,r2,r3,r4⟩:=H.tyR;obtain ⟨IY,y1,y2,y3⟩:=H.tyY;obtain ⟨zs,T2,b1,b2⟩:=hM.h2;have Tt:=(hM.os.mono l1).Nu h1;have hn:=hM.n;refine wp_seq (I5 (c:=c) (φ:=φt) (ord:=[0,1,2,3,4,5,6,7]) H.WW H.d10 λlisted mT=> ?_);obtain ⟨W0,RD⟩: ∃W0,W0=({W with drawn:=W.drawn+1}:World):=⟨_,rfl⟩
 rw [<-RD];have Vi:W0.heap=W.heap:=by rw [RD]
 have KJ:Rest W W0:=by rw [RD];exact ⟨rfl,rfl,rfl⟩
 have RP:iA φt W0:=by rw [RD];exact l2
 refine mT.RM (v:= .agg vs.toArray) rfl H.ops.UU (by decide) (by simp [dx,H.ops.UU.op]) (by simp [c8,H.ops.UU.op]) (by simp [eE,iK,H.ops.UU.op]) H.s47 af RP (λw' hw=>n9 H.ops.UU (by show (aa1 t.tO (σ 6)).run P w'=_;rw [h6];exact vk H.hT p1 p2 (by rw [hn,p4]) (λj v hj=>by rw [aaP];exact hw _ _ _ (by rw [l7];exact hj)))) (λa af mT=> ?_);refine mT.read (v:= .pointer (some ⟨w0.heap.size+1,0,none⟩)) rfl H.ops.Qi (by decide) (by simp [dx,H.ops.Qi.op]) (by simp [c8,H.ops.Qi.op]) (gD H.ops.Qi (by simp)) (by simp [rD,H.ops.Qi.op]) af RP (λw' _=>(aj H.ops.Qi w').trans (by show BY (AT (σ 5)) w'=_;rw [h5])) (λa af mT=> ?_);refine mT.read (v:= .pointer (some ⟨w0.heap.size+1,0,none⟩)) rfl H.ops.Tx (by decide) (by simp [dx,H.ops.Tx.op]) (by simp [c8,H.ops.Tx.op]) (gD H.ops.Tx (by simp)) (by simp [rD,H.ops.Tx.op]) af RP (λw' _=>kg H.ops.Tx rfl w') (λa af mT=> ?_);refine mT.read (v:= .pointer (some ⟨w0.heap.size+1,0+0,none⟩)) rfl H.ops.Ty (by decide) (by simp [dx,H.ops.Ty.op]) (by simp [c8,H.ops.Ty.op]) (gD H.ops.Ty (by simp)) (by simp [rD,H.ops.Ty.op]) af RP (λw' _=>fc H.ops.Ty H.hT r1 r2 (by rw [r3];rfl) rfl w') (λa af mT=> ?_);refine mT.RM (v:=vb) rfl H.ops.UW (by decide) (by simp [dx,H.ops.UW.op]) (by simp [c8,H.ops.UW.op]) (by simp [eE,iK,H.ops.UW.op]) H.s51 af RP (λw' hw=>n9 H.ops.UW (gz H.hT y1 y2 y3 (hw _ _ _ l4))) (λa af mT=> ?_);refine mT.acu (o:=o 52) rfl (λy hy p hp=> ?_) (by simp [dx,H.ops.WV.op]) (af.Xe rfl H.ops.WV (wB H.ops.WV H.hT p1 (by rw [p4,hn]) (by show σ 2=_;exact h2) rfl Tt.cells (by rw [Vi];exact b1) (by rw [b2,hn])) ?_)
 ·have hy:y=6\/y=7:=by simpa using hy
  rcases hy with rfl|rfl<;>cases hp
  ·exact Ad H.ops.Tz (by simp)
  ·exact Ad H.ops.Rq (by simp)
 obtain ⟨W1,wC⟩: ∃W1,W1=W0.setRow w0.heap.size vs.toArray:=⟨_,rfl⟩
 rw [<-wC];have np:W1.heap[w0.heap.size]? =some (.cells vs.toArray T2 (0,0)):=by rw [wC];exact dp _ (by rw [Vi];exact b1)
 obtain ⟨t1,t2⟩:=hM.close (W':=W1) l1 l2 l3 (by rw [wC,setRow_size,Vi]) (KJ.trans (by rw [wC];exact .setRow _ _ _)) (λb hb=>by rw [wC,setRow_other _ _ _ _ hb,Vi]);refine ⟨⟨λoi hg=> ?_,t2⟩,?_⟩
 ·have JW:ke c oi #[o 47,o 48,o 49,o 50,o 51,o 52,o 53,o 54] 5=(Dy c (o 52)||lT oi (o 52)):=rfl;rw [JW,MB H.ops.WV] at hg;cases hg
 obtain ⟨_,_,_,YV,_⟩:=mT.facts (o:=o 52) rfl;refine YV.read (v:=vb) rfl H.ops.Tz (by decide) (by simp [dx,H.ops.Tz.op]) H.m53 (gD H.ops.Tz (by simp)) (by simp [rD,H.ops.Tz.op]) af t2 (λw' _=>aZ H.ops.Tz w') (λa af mT=> ?_);refine mT.read (v:= .int .i64 0) rfl H.ops.Rq (by decide) (by simp [dx,H.ops.Rq.op]) (by simp [c8,H.ops.Rq.op]) (gD H.ops.Rq (by simp)) (by simp [rD,H.ops.Rq.op]) af t2 (λw' _=>aZ H.ops.Rq w') (λa af mT=> ?_);refine mT.done ?_;refine wp_ret (hQ _ _ ?_);exact BJ H af ⟨T2,np⟩ hn (by show σ 2=_;exact h2) (Lc t1 t2 Tt l6)
theorem RR (H:sv P c g k t f fI fX fn r o)(hM:pJ c φ0 w0 φ W q vs)(af:Tm a 47 σ)(h2:σ 2= .pointer (some ⟨w0.heap.size,0,none⟩)){Q:Exit->Act->World->Prop}(hQ: ∀a W,bodyPost P fn (λe W=> ∃v,e= .returned v/\BK c φ0 w0 (.cG [.agg Pj,.list [],.i .i64 3]) v W) .ret a W->Q .ret a W): (Code.seq (.region (r 9) #[o 43,o 44,o 45,o 46] false) .ret).wp P Q a W:=by
 obtain ⟨φt,vb,l1,l2,l3,_⟩:=hM.sea1;obtain ⟨Iw,p1,p2,p3,p4⟩:=H.TB;obtain ⟨zs,T2,b1,b2⟩:=hM.h2;refine wp_seq (wp_region ?_);rw [show sh (#[o 43,o 44,o 45,o 46]:Array Oper).size=[0,1,2,3] from rfl];refine af.step (v:= .agg My.toArray) rfl H.ops.US (by decide) (wA H.ops.US H.blO _) (λa af=> ?_);refine af.sr rfl H.ops.UT (wB H.ops.UT H.hT p1 (by rw [p4];rfl) (by show σ 2=_;exact h2) rfl xX b1 (by rw [b2];rfl)) ?_;obtain ⟨W1,wC⟩: ∃W1,W1=W.setRow w0.heap.size My.toArray:=⟨_,rfl⟩
 rw [<-wC];have np:W1.heap[w0.heap.size]? =some (.cells My.toArray T2 (0,0)):=by rw [wC];exact dp _ b1
 obtain ⟨t1,t2⟩:=hM.close (W':=W1) l1 l2 l3 (by rw [wC,setRow_size]) (by rw [wC];exact .setRow _ _ _) (λb hb=>by rw [wC,setRow_other _ _ _ _ hb]);refine af.step (v:= .slice none 0 0) rfl H.ops.h45 (by decide) (aZ H.ops.h45 _) (λa af=> ?_);refine af.step (v:= .int .i64 3) rfl H.ops.h46 (by decide) (aZ H.ops.h46 _) (λa af=> ?_);refine wp_ret (hQ _ _ ?_);exact BJ H af ⟨T2,np⟩ rfl (by show σ 2=_;exact h2) (Lc t1 t2 (GY.Nu GZ) MC)
end
end Dn
/-
  The walk, whole. Conditions: none.
-/
namespace Dn
open Go
theorem bw.aiv {c:Ctx} {Z Z':Nat->Prop} {φ φ':Ph} {W W':World}{v:Value}{ty:Nat}{xs:List MV}(h:bw c (aO.plain Z) (gf c.key φ) W v ⟨ty,false,xs⟩)(hz: ∀b,v.ownBlock=some b->Z' b)(hp:dJ φ φ')(hf: ∀b o,v.ownBlock=some b->φ' b o=φ b o)(hh: ∀b,v.ownBlock=some b->b<W.heap.size->W'.heap[b]? =W.heap[b]?): bw c (aO.plain Z') (gf c.key φ') W' v ⟨ty,false,xs⟩:=by
 obtain ⟨I,cells,q1,q2,q3,q4,q5⟩:=h.row;refine ⟨I,cells,q1,q2,⟨q3.1,?_⟩,q4.mono hp,λb hb=>⟨hz b hb,λoff u hu=>(q5 b hb).2.1 off u ?_,λhc=>hc.elim⟩⟩
 ·rcases q3.2 with h6|⟨g,cap,bU,r1,r2,r3,r4⟩
  ·exact .inl h6
  ·exact .inr ⟨g,cap,bU,r1,r2,(hh g (by rw [r1];rfl) (aC r3)).trans r3,r4⟩
 ·have hu:φ' b off=some u:=hu;rw [hf b off hb] at hu;exact hu
section
variable {P:Program}{c:Ctx}{g:Nat->List MV->Option MV}{n:CN}{fn:Func}{r:Nat->Nat}{o:Nat->Oper} {φ0 φ1:Ph} {w0 W W':World}{bc br bd bv:Nat} {s s':CS} {v v' l:Int}{a:Act} {σ:Nat->Value}{Q:Exit->Act->World->Prop}
theorem tm1 (v0:Value)(k:Nat):Tm {tmps:= #[v0]++aaa k undef,defers:=[]} (k+1) (kR (λ_=>undef) 0 v0):=by
 refine ⟨rfl,by simp [adb],λq=> ?_⟩;by_cases h0:q=0
 ·subst h0;show (#[v0]++aaa k undef).getD 0 undef=v0;simp [aak]
 have e:abv q 0=false:=by
  cases hq:abv q 0 with
  |false=>rfl
  |true=>exact absurd (aal hq) h0
 simp only [kR,e,cond_false];have h3:1<=q:=by omega
 simp [aak,aa4,show¬q<1 by omega];by_cases hk:q-1<k<;>simp [hk]
theorem acz {φ:Ph}{W:World}(hi:iA φ W){b:Nat}(hb:W.heap.size<=b)(o:Nat):φ b o=none:=by
 cases hq:φ b o with
 |none=>rfl
 |some u=>exact absurd (OF W _ (hi _ _ _ hq)) (Nat.not_lt.2 hb)
end
end Dn
/-
  Parts that are taken off bytes, into a variable of eight parts: all of it. Conditions: none.
-/
namespace Dn
open Go
section
variable {P:Program}{c:Ctx}{g:Nat->List MV->Option MV}{k:U8}{t:Pk}{f fI fX:Nat}{fn:Func}{r:Nat->Nat}{o:Nat->Oper} {φ0 φ1 φ φt:Ph} {w0 W W':World} {q q':I8}{vs:List Value}{a:Act} {σ:Nat->Value}{res:MV}
structure TkV (w0:World) (σ:Nat->Value):Prop where
 h2:σ 2= .pointer (some ⟨w0.heap.size,0,none⟩)
 h5:σ 5= .pointer (some ⟨w0.heap.size+1,0,none⟩)
 h6:σ 6= .pointer (some ⟨w0.heap.size+2,0,none⟩)
theorem Of (H:sv P c g k t f fI fX fn r o)(hM:pJ c φ0 w0 φ W q vs)(h1: ∀m∈q.os,m.one=true)(af:Tm a 47 σ)(hV:TkV w0 σ)(hm:(if q.e=0 then (match g k.may [.agg q.os] with
  |some (.b true)=>some (.cG [.agg q.os,.list q.xs,.i .i64 0])
  |some (.b false)=>some (.cG [.agg Pj,.list [],.i .i64 3])
  |_=>none) else some (.cG [.agg Pj,.list [],.i .i64 q.e]))=some res):
 (Code.seq (.block 0 (.seq (.region (r 6) #[o 25,o 26,o 27,o 28,o 29,o 30] false) (.cond (.tmp 26) (.seq (.region (r 7) #[o 31,o 32,o 33,o 34,o 35,o 36,o 37,o 38] true) .ret) (.seq (.region (r 8) #[o 39,o 40,o 41,o 42] false) (.cond (.tmp 37) (.seq (.region (r 9) #[o 43,o 44,o 45,o 46] false) .ret) .skip))))) (.seq (.region (r 10) #[o 47,o 48,o 49,o 50,o 51,o 52,o 53,o 54] true) .ret)).wp P (bodyPost P fn λe W=> ∃v,e= .returned v/\BK c φ0 w0 res v W) a W:=by
 obtain ⟨Iw,p1,p2,p3,p4⟩:=H.TB;obtain ⟨IR,r1,r2,r3,r4⟩:=H.tyR;obtain ⟨Ie,e1,e2,e3⟩:=H.tye;refine wp_seq (wp_block ?_);refine wp_seq (wp_region ?_);rw [show sh (#[o 25,o 26,o 27,o 28,o 29,o 30]:Array Oper).size=[0,1,2,3,4,5] from rfl];refine af.step (v:= .pointer (some ⟨w0.heap.size+1,0,none⟩)) rfl H.ops.Fa (by decide) ((aj H.ops.Fa _).trans (by show BY (AT (σ 5)) W=_;rw [hV.h5])) (λa af=> ?_);refine af.step rfl H.ops.IU (by decide) (kg H.ops.IU rfl _) (λa af=> ?_);refine af.step rfl H.ops.K6 (by decide) (fc H.ops.K6 H.hT r1 r2 (q:=1) (by rw [r3];rfl) rfl _) (λa af=> ?_);refine af.step (v:= .int .i64 q.e) rfl H.ops.K7 (by decide) (n9 H.ops.K7 (gz H.hT e1 e2 e3 (by simpa using hM.lde))) (λa af=> ?_);refine af.step (v:= .bool (!decide (q.e=0))) rfl H.ops.K8 (by decide) (Vg H.ops.K8 rfl rfl _) (λa af=> ?_);refine af.step (v:= .bool (!decide (q.e=0))) rfl H.ops.IV (by decide) (aZ H.ops.IV _) (λa af=> ?_);by_cases he:q.e=0;rotate_left
 ·rw [if_neg he,aQ] at hm;subst hm;refine af.cond (b:=true) (by show aac (!decide (q.e=0))=_;rw [decide_eq_false he];rfl) ?_;simp only [if_true];exact Oe H hM af hV.h2 hV.h5 (λa W h=>h)
 rw [if_pos he] at hm;refine af.cond (b:=false) (by show aac (!decide (q.e=0))=_;rw [decide_eq_true he];rfl) ?_;simp only [AI,if_false];refine wp_seq (wp_region ?_);rw [show sh (#[o 39,o 40,o 41,o 42]:Array Oper).size=[0,1,2,3] from rfl];obtain ⟨To,c1⟩:=hM.ho;have Tt:=hM.os.Nu h1;refine af.step (v:= .agg vs.toArray) rfl H.ops.UO (by decide) (n9 H.ops.UO (by show (aa1 t.tO (σ 6)).run P W=_;rw [hV.h6];exact vk H.hT p1 p2 (by rw [hM.n,p4]) (wOf c1 (by simp)))) (λa af=> ?_);have agl: ∃b,g k.may [.agg q.os]=some (.b b):=by
  cases hg:g k.may [.agg q.os] with
  |none=>rw [hg] at hm;cases hm
  |some m=>rw [hg] at hm;cases m<;>first|exact ⟨_,rfl⟩|(simp at hm)
 obtain ⟨b,hb⟩:=agl;have xx:cn P k.may #[.agg vs.toArray] W λx W'=> ∃φ',Trans (λb=>W.heap.size<=b) φ W φ' W'/\iA φ' W'/\dy c (λb=>W.heap.size<=b) φ' W' (c.key k.may) x (.b b):=tJ (vs:=[.agg vs.toArray]) (by rw [H.key];exact H.gv.2.2) (H.snd _ _ _ hb) rfl ⟨_,_,rfl,I7 Tt,rfl⟩ hM.fB;refine af.call rfl H.ops.UP (by decide) (GU H.ops.UP rfl rfl _) xx ?_;rintro x1 W1 a ⟨φ2,t1,m1,jt⟩ af;have yB:x1= .bool b:=Bo jt;subst yB;have hM1:=hM.grow t1 m1;refine af.step (v:= .bool (!b)) rfl H.ops.UQ (by decide) (GK H.ops.UQ rfl _) (λa af=> ?_);refine af.step (v:= .bool (!b)) rfl H.ops.UR (by decide) (aZ H.ops.UR _) (λa af=> ?_);rw [hb] at hm;cases b with
 |false=>simp only [aQ] at hm;subst hm;refine af.cond (b:=true) rfl ?_;simp only [if_true];exact RR H hM1 af hV.h2 (λa W h=>h)
 |true=>simp only [aQ] at hm;subst hm;refine af.cond (b:=false) rfl ?_;simp only [AI,if_false];refine wp_skip ?_;exact RQ H hM1 h1 af hV.h2 hV.h5 hV.h6 (λa W h=>h)
theorem Og (H:sv P c g k t f fI fX fn r o){xs:List MV}(hm:I9 g k xs=some res):cq P c f [.list xs] res:=by
 unfold I9 at hm;cases ZU:xW g k [0,1,2,5,6,7] ⟨xs,0,Pj⟩ with
 |none=>rw [ZU] at hm;cases hm
 |some qa=>
 rw [ZU] at hm;dsimp only at hm;cases ZV:GX g k 3 100 qa with
 |none=>rw [ZV] at hm;cases hm
 |some qb=>
 rw [ZV] at hm;dsimp only at hm;cases hq3:GX g k 4 1000 qb with
 |none=>rw [hq3] at hm;cases hm
 |some qc=>
 rw [hq3] at hm;dsimp only at hm;intro φ0 w0 Z0 vs Od bZ du;simp only [bO,H.key,H.gvF,AI,if_false] at bZ;obtain ⟨x,rest,rfl,hx,jY⟩:=bZ;have jY:rest=[]:=jY;subst jY;obtain ⟨hxr,hxc,yB⟩:=Xd hx;obtain ⟨ad,cp,hxs,_⟩:=y6 hxr;refine (eX (R:=BK c φ0 w0 res) H.pos H.name H.body (calls_of_wp H.pos H.body ?_)).imp ?_;rotate_left
 ·rintro v W ⟨φ',t1,t2,ms,arr,rfl,rfl,h3⟩;exact ⟨φ',t1.ml Od,t2,AQ.args h3⟩
 rw [H.tmps];obtain ⟨Iw,p1,p2,p3,p4⟩:=H.TB;obtain ⟨IL,pl1,pl2⟩:=H.tyL;obtain ⟨II,pi1,pi2,pi3⟩:=H.tyI;obtain ⟨hOi,hOc⟩:=aD p1;obtain ⟨hIi,JV⟩:=aD pi1;obtain ⟨iO,zO,hiO,hsO,_,hzO,RS⟩:=eF (H.hT _ Iw hOi) hOc;have key: ∀a:Act,Tm a 47 (kR (λ_=>undef) 0 x)->(BI r o).wp P (bodyPost P fn λe W=> ∃v,e= .returned v/\BK c φ0 w0 res v W) a w0:=by
  intro a af;unfold BI;refine wp_seq (wp_region ?_);rw [show sh (#[o 0,o 1,o 2]:Array Oper).size=[0,1,2] from rfl];refine af.step rfl H.ops.h0 (by decide) (Ac H.ops.h0 hiO hzO _) (λa af=> ?_);obtain ⟨W1,wC⟩: ∃W1,W1=w0.alloc (.cells zO.cells t.tO):=⟨_,rfl⟩
  rw [<-wC];have s1:W1.heap.size=w0.heap.size+1:=by rw [wC];simp
  have l1:W1.heap[w0.heap.size]? =some (.cells zO.cells t.tO (0,0)):=by rw [wC];exact dm w0 _
  have g1: ∀b,b<w0.heap.size->W1.heap[b]? =w0.heap[b]? :=λb hb=>by rw [wC];exact (bX.alloc w0 _ _).ln b hb
  have k1:Rest w0 W1:=by rw [wC];exact .alloc _ _ _
  refine af.step (v:= .slice none 0 0) rfl H.ops.h1 (by decide) (aZ H.ops.h1 _) (λa af=> ?_);refine af.step (v:= .int .i64 0) rfl H.ops.h2 (by decide) (aZ H.ops.h2 _) (λa af=> ?_);refine wp_seq (wp_region ?_);rw [show sh (#[o 3,o 4,o 5,o 6]:Array Oper).size=[0,1,2,3] from rfl];refine af.step (v:=x) rfl H.ops.h3 (by decide) (aj H.ops.h3 _) (λa af=> ?_);refine af.step (v:= .agg #[x,.int .i64 0]) rfl H.ops.h4 (by decide) (wA H.ops.h4 (by rw [hxs];exact H.blR _ _ _) _) (λa af=> ?_);refine af.step (v:= .pointer (some ⟨w0.heap.size+1,0,none⟩)) rfl H.ops.h5 (by decide) (by have:=Mv (P:=P) (e:=ev (kR (kR (kR (kR (kR (kR (λ_=>undef) 0 x) 2 (.pointer (some ⟨w0.heap.size,0,none⟩))) 3 (.slice none 0 0)) 4 (.int .i64 0)) 7 x) 8 (.agg #[x,.int .i64 0]))) H.ops.h5 W1;rw [s1] at this;exact this) (λa af=> ?_);obtain ⟨W2,GO⟩: ∃W2,W2=W1.alloc (.cells [x,.int .i64 0].toArray t.tR):=⟨_,rfl⟩
  have X6:(acF #[x,.int .i64 0]).cells=[x,.int .i64 0].toArray:=rfl;show wpOps P _ _ _ a (W1.alloc (.cells (acF #[x,.int .i64 0]).cells t.tR));rw [X6,<-GO];have s2:W2.heap.size=w0.heap.size+2:=by rw [GO];simp [s1]
  have l2:W2.heap[w0.heap.size+1]? =some (.cells [x,.int .i64 0].toArray t.tR (0,0)):=by rw [GO,<-s1];exact dm W1 _
  have g2: ∀b,b<w0.heap.size+1->W2.heap[b]? =W1.heap[b]? :=λb hb=>by rw [GO];exact (bX.alloc W1 _ _).ln b (by omega)
  have k2:Rest W1 W2:=by rw [GO];exact .alloc _ _ _
  refine af.step (v:= .pointer (some ⟨w0.heap.size+1,0,none⟩)) rfl H.ops.h6 (by decide) (aZ H.ops.h6 _) (λa af=> ?_);refine wp_seq (wp_region ?_);rw [show sh (#[o 7,o 8,o 9]:Array Oper).size=[0,1,2] from rfl];refine af.step (v:= .agg My.toArray) rfl H.ops.h7 (by decide) (wA H.ops.h7 H.blO _) (λa af=> ?_);refine af.step (v:= .pointer (some ⟨w0.heap.size+2,0,none⟩)) rfl H.ops.h8 (by decide) (by rw [<-s2];exact Ac H.ops.h8 hiO hzO _) (λa af=> ?_);obtain ⟨W3,Mu⟩: ∃W3,W3=W2.alloc (.cells zO.cells t.tO):=⟨_,rfl⟩
  rw [<-Mu];have s3:W3.heap.size=w0.heap.size+3:=by rw [Mu];simp [s2]
  have l3:W3.heap[w0.heap.size+2]? =some (.cells zO.cells t.tO (0,0)):=by rw [Mu,<-s2];exact dm W2 _
  have g3: ∀b,b<w0.heap.size+2->W3.heap[b]? =W2.heap[b]? :=λb hb=>by rw [Mu];exact (bX.alloc W2 _ _).ln b (by omega)
  have k3:Rest W2 W3:=by rw [Mu];exact .alloc _ _ _
  refine af.sr rfl H.ops.h9 (wB H.ops.h9 H.hT p1 (by rw [p4];rfl) rfl rfl xX l3 (by rw [RS,p4];rfl)) ?_;obtain ⟨W4,RG⟩: ∃W4,W4=W3.setRow (w0.heap.size+2) My.toArray:=⟨_,rfl⟩
  rw [<-RG];have s4:W4.heap.size=w0.heap.size+3:=by rw [RG,setRow_size,s3]
  have l4:W4.heap[w0.heap.size+2]? =some (.cells My.toArray t.tO (0,0)):=by rw [RG];exact dp _ l3
  have g4: ∀b,b≠w0.heap.size+2->W4.heap[b]? =W3.heap[b]? :=λb hb=>by rw [RG];exact setRow_other _ _ _ _ hb
  have k4:Rest W3 W4:=by rw [RG];exact .setRow _ _ _
  refine wp_seq (wp_region ?_);rw [show sh (#[o 10,o 11,o 12,o 13,o 14,o 15,o 16,o 17,o 18]:Array Oper).size=[0,1,2,3,4,5,6,7,8] from rfl];refine af.step (v:= .pointer (some ⟨w0.heap.size+1,0,none⟩)) rfl H.ops.rb (by decide) (aj H.ops.rb _) (λa af=> ?_);refine af.step (v:= .pointer (some ⟨w0.heap.size+2,0,none⟩)) rfl H.ops.yU (by decide) (fc (off:=0) (q:=0) H.ops.yU H.hT p1 p2 (by rw [p3];rfl) rfl _) (λa af=> ?_);refine af.step (v:= .pointer (some ⟨w0.heap.size+2,1,none⟩)) rfl H.ops.yV (by decide) (fc (off:=0) (q:=1) H.ops.yV H.hT p1 p2 (by rw [p3];rfl) rfl _) (λa af=> ?_);refine af.step (v:= .pointer (some ⟨w0.heap.size+2,2,none⟩)) rfl H.ops.yW (by decide) (fc (off:=0) (q:=2) H.ops.yW H.hT p1 p2 (by rw [p3];rfl) rfl _) (λa af=> ?_);refine af.step (v:= .pointer (some ⟨w0.heap.size+2,5,none⟩)) rfl H.ops.yX (by decide) (fc (off:=0) (q:=5) H.ops.yX H.hT p1 p2 (by rw [p3];rfl) rfl _) (λa af=> ?_);refine af.step (v:= .pointer (some ⟨w0.heap.size+2,6,none⟩)) rfl H.ops.yY (by decide) (fc (off:=0) (q:=6) H.ops.yY H.hT p1 p2 (by rw [p3];rfl) rfl _) (λa af=> ?_);refine af.step (v:= .pointer (some ⟨w0.heap.size+2,7,none⟩)) rfl H.ops.yZ (by decide) (fc (off:=0) (q:=7) H.ops.yZ H.hT p1 p2 (by rw [p3];rfl) rfl _) (λa af=> ?_);obtain ⟨ps,q9⟩: ∃ps:List Value,ps=[0,1,2,5,6,7].map λj=>aab (some ⟨w0.heap.size+2,j,none⟩):=⟨_,rfl⟩
  obtain ⟨W5,RT⟩: ∃W5,W5=W4.alloc (.cells ps.toArray t.tI):=⟨_,rfl⟩
  refine af.step (v:= .slice (some ⟨w0.heap.size+3,0,none⟩) 6 6) (w':=W5) rfl H.ops.Dt (by decide) ?_ (λa af=> ?_)
  ·have h6:ps.length=6:=by rw [q9];rfl
   have:=Gl (P:=P) (c:=c) (w:=W4) (t:=t.tL) (I:=IL) (E:=II) (vs:=ps) (parts:= #[(0,aab (some ⟨w0.heap.size+2,0,none⟩)),(1,aab (some ⟨w0.heap.size+2,1,none⟩)),(2,aab (some ⟨w0.heap.size+2,2,none⟩)),(3,aab (some ⟨w0.heap.size+2,5,none⟩)),(4,aab (some ⟨w0.heap.size+2,6,none⟩)),(5,aab (some ⟨w0.heap.size+2,7,none⟩))]) (by rw [pl2];exact H.Vb) (by rw [pl2];exact hIi) JV (by omega) H.hT (by rw [h6,pi3];decide) (by rw [q9];intro v hv;simp at hv;rcases hv with rfl|rfl|rfl|rfl|rfl|rfl<;>rw [pi3]<;>rfl) (by rw [q9];rfl);have ZX:(ps.flatMap λv=>v.cells.toList)=ps:=by rw [q9];rfl
   rw [h6,ZX,s4,pl2,<-RT] at this;simp [execOp,H.ops.Dt.op];rw [show (ev _:Operand->Value) (.tmp 12)=aab (some ⟨w0.heap.size+2,0,none⟩) from rfl,show (ev _:Operand->Value) (.tmp 13)=aab (some ⟨w0.heap.size+2,1,none⟩) from rfl,show (ev _:Operand->Value) (.tmp 14)=aab (some ⟨w0.heap.size+2,2,none⟩) from rfl,show (ev _:Operand->Value) (.tmp 15)=aab (some ⟨w0.heap.size+2,5,none⟩) from rfl,show (ev _:Operand->Value) (.tmp 16)=aab (some ⟨w0.heap.size+2,6,none⟩) from rfl,show (ev _:Operand->Value) (.tmp 17)=aab (some ⟨w0.heap.size+2,7,none⟩) from rfl,this];rfl
  have s5:W5.heap.size=w0.heap.size+4:=by rw [RT];simp [s4]
  have l5:W5.heap[w0.heap.size+3]? =some (.cells ps.toArray t.tI (0,0)):=by rw [RT,<-s4];exact dm W4 _
  have g5: ∀b,b<w0.heap.size+3->W5.heap[b]? =W4.heap[b]? :=λb hb=>by rw [RT];exact (bX.alloc W4 _ _).ln b (by omega)
  have k5:Rest W4 W5:=by rw [RT];exact .alloc _ _ _
  have hold: ∀b,b<w0.heap.size->W5.heap[b]? =w0.heap[b]? :=λb hb=>by rw [g5 b (by omega),g4 b (by omega),g3 b (by omega),g2 b (by omega),g1 b hb]
  have Tq: ∀b o,w0.heap.size<=b->φ0 b o=none:=λb o hb=>acz du hb o;have agn:iA φ0 W5:=λb o u hu=>kh (du b o u hu) λhl=>hold b hl;have hle:=BD (vs:=ps) λo=>Tq (w0.heap.size+3) o (by omega);have hM:pJ c φ0 w0 (DT φ0 (w0.heap.size+3) ps) W5 ⟨xs,0,Pj⟩ My:=by refine ⟨wz agn l5,⟨hle,λb hb hl=>hold b hl,λb o hb=>by unfold DT;rw [if_neg (by omega)],by omega,(((k1.trans k2).trans k3).trans k4).trans k5⟩,⟨zO.cells,t.tO,by rw [g5 _ (by omega),g4 _ (by omega),g3 _ (by omega),g2 _ (by omega)];exact l1,by rw [RS,p4]⟩,⟨x,t.tR,by rw [g5 _ (by omega),g4 _ (by omega),g3 _ (by omega)];exact l2,hxr.mono hle⟩,⟨t.tO,by rw [g5 _ (by omega)];exact l4⟩,GY,rfl,λj o hj=> ?_⟩;unfold DT;rw [if_neg (by omega)];exact Tq _ o (by omega)
  obtain ⟨fn1,r1,o1,F1⟩:=H.ints;obtain ⟨fn2,r2,o2,F2⟩:=H.text;have nx:=Ve (ba:=w0.heap.size+3) (φ1:=DT φ0 (w0.heap.size+3) ps) H.toVa F1 (eH:=[0,1,2,5,6,7]) (by decide) (by decide) (λj hj=>by rw [q9];unfold DT;rw [if_pos rfl];simp only [ab0,aap hj,Option.map_some]) (.refl _) hM ZU;refine af.call rfl H.ops.GL (by decide) (GV H.ops.GL rfl rfl rfl _) nx ?_;rintro y1 W6 a ⟨φ6,vs6,_,hM6⟩ af;have ago:=RN GZ ZU;refine wp_seq (wp_region ?_);rw [show sh (#[o 19,o 20,o 21]:Array Oper).size=[0,1,2] from rfl];refine af.step (v:= .pointer (some ⟨w0.heap.size+1,0,none⟩)) rfl H.ops.HB (by decide) (aj H.ops.HB _) (λa af=> ?_);refine af.step (v:= .pointer (some ⟨w0.heap.size+2,3,none⟩)) rfl H.ops.HC (by decide) (fc (off:=0) (q:=3) H.ops.HC H.hT p1 p2 (by rw [p3];rfl) rfl _) (λa af=> ?_);refine af.call rfl H.ops.E6 (by decide) (Mw H.ops.E6 rfl rfl rfl rfl _) (Mx H.toVa F2 (j:=3) (by decide) (.refl _) hM6 ZV) ?_;rintro y2 W7 a ⟨φ7,vs7,_,hM7⟩ af;have agp:=MA ago ZV;refine wp_seq (wp_region ?_);rw [show sh (#[o 22,o 23,o 24]:Array Oper).size=[0,1,2] from rfl];refine af.step (v:= .pointer (some ⟨w0.heap.size+1,0,none⟩)) rfl H.ops.E7 (by decide) (aj H.ops.E7 _) (λa af=> ?_);refine af.step (v:= .pointer (some ⟨w0.heap.size+2,4,none⟩)) rfl H.ops.E8 (by decide) (fc (off:=0) (q:=4) H.ops.E8 H.hT p1 p2 (by rw [p3];rfl) rfl _) (λa af=> ?_);refine af.call rfl H.ops.E9 (by decide) (Mw H.ops.E9 rfl rfl rfl rfl _) (Mx H.toVa F2 (j:=4) (by decide) (.refl _) hM7 hq3) ?_;rintro y3 W8 a ⟨φ8,vs8,_,hM8⟩ af;exact Of H hM8 (MA agp hq3) af ⟨rfl,rfl,rfl⟩ hm
 exact key _ (tm1 _ 46)
def MD (g:Nat->List MV->Option MV)(k:U8):List MV->Option MV
 |[.list xs]=>I9 g k xs
 |_=>none
theorem Vj (H:sv P c g k t f fI fX fn r o){ms:List MV}(hm:MD g k ms=some res):cq P c f ms res:=by
 unfold MD at hm;split at hm
 ·exact Og H hm
 ·cases hm
end
end Dn
/-
  A sum of bytes: a new variable of three parts, that is handed to two functions: the walk. Conditions: none.
-/
namespace Dn
open Go
def Vk (r:Nat->Nat)(o:Nat->Oper):Code:= .seq (.region (r 0) #[o 0] false) (.seq (.region (r 1) #[o 1,o 2,o 3,o 4] false) .ret)
def G0 (r:Nat->Nat)(o:Nat->Oper):Code:= .seq (.region (r 0) #[o 0] false) (.seq (.region (r 1) #[o 1,o 2] false) (.seq (.region (r 2) #[o 3,o 4,o 5] false) (.seq (.region (r 3) #[o 6,o 7,o 8] false) .ret)))
structure Oh where
 tP:Nat
 tB:Nat
 tO:Nat
 tS:Nat
 tE:Nat
 fN:Nat
 fF:Nat
 fW:Nat
 fS:Nat
structure YW (n:Oh) (o:Nat->Oper):Prop where
 h0:ae (o 0) 0 (.assign (.const (.pointer none)))
 h1:ae (o 1) 1 (.call {callee:= .value (.func n.fF),args:= #[],argTypes:= #[]})
 h2:ae (o 2) 2 (.build n.tS #[(0,.tmp 1)])
 h3:ae (o 3) 3 (.box n.tS (.tmp 2))
 h4:ae (o 4) 0 (.assign (.tmp 3))
structure YX (n:Oh) (o:Nat->Oper):Prop where
 h0:ae (o 0) 2 (.alloc n.tO)
 h1:ae (o 1) 4 (.call {callee:= .value (.func n.fN),args:= #[],argTypes:= #[]})
 h2:ae (o 2) 3 (.assign (.tmp 4))
 h3:ae (o 3) 5 (.move (.tmp 3))
 h4:ae (o 4) 6 (.move (.tmp 0))
 h5:ae (o 5) 7 (.call {callee:= .value (.func n.fW),args:= #[.tmp 5,.tmp 6],argTypes:= #[n.tP,n.tB]})
 h6:ae (o 6) 8 (.move (.tmp 3))
 h7:ae (o 7) 9 (.call {callee:= .value (.func n.fS),args:= #[.tmp 8],argTypes:= #[n.tP]})
 h8:dn (o 8) (.store n.tO (.tmp 2) (.tmp 9))
def ksW (tE:Nat):List LK:=[.k (.h .u32 6),.own 2000001 tE false,.k (.i .i64)]
def ksS:List LK:=[.k (.h .u32 6),.k .l,.k (.i .i64)]
structure MF (P:Program) (c:Ctx) (g:Nat->List MV->Option MV) (n:Oh) (f:Nat) (fn fm:Func) (r:Nat->Nat) (o p:Nat->Oper):Prop where
 hT:dt P c.ti
 key: ∀k,c.key k=k
 snd: ∀k ms x,g k ms=some x->cq P c k ms x
 gvs:c.bQ n.fF=false/\c.bQ n.fW=true/\c.bQ n.fS=true/\c.bQ f=false
 sig:c.sig n.fW=some (0,ksW n.tE,ksS)/\c.sig n.fS=some (0,ksS,ksS)
 tyE: ∃I,c.tv n.tE=some I
 TB: ∃I,c.tv n.tO=some I/\I.size=32
 pos:P.funcs[f]? =some fn
 name:(fn.name== "runtime.NumGoroutine")=false
 tmps:fn.ntmps=10
 res:fn.results= #[.cell 2 n.tO]
 body:fn.body=some (G0 r o)
 ops:YX n o
 pos':P.funcs[n.fN]? =some fm
 Xf:(fm.name== "runtime.NumGoroutine")=false
 Xg:fm.ntmps=4
 acD:fm.results= #[.tmp 0]
 RU:fm.body=some (Vk r p)
 BL:YW n p
 bld: ∀u0 u1 u2 u3 u4 u5 u6 u7:Int,P.built n.tS [(0,.agg #[.int .u32 u0,.int .u32 u1,.int .u32 u2,.int .u32 u3,.int .u32 u4,.int .u32 u5,.int .u32 u6,.int .u32 u7])]= some #[.int .u32 u0,.int .u32 u1,.int .u32 u2,.int .u32 u3,.int .u32 u4,.int .u32 u5,.int .u32 u6,.int .u32 u7,.slice none 0 0,.int .i64 0]
def RV (g:Nat->List MV->Option MV)(n:Oh):List MV->Option MV
 |[a]=>gL a λxs=>bd (g n.fF []) λs=>gH .u32 6 s λs=>bd (g n.fW [.cell (.func 0 [.h .u32 6 s,.list [],.i .i64 0]),.list xs]) λr=>gW r λ_ ls=>
  gC ls λm0 ls=>gH .u32 6 m0 λs1=>gC ls λm1 ls=>gL m1 λleft=>gC ls λm2 ls=>gI .i64 m2 λlong=>gN ls<|
  bd (g n.fS [.cell (.func 0 [.h .u32 6 s1,.list left,.i .i64 long])]) λq=>gW q λh _=>gH .u8 30 h λh=>some (.h .u8 30 h)
 |_=>none
theorem tm0 (k:Nat):Tm {tmps:= #[]++aaa k undef,defers:=[]} k (λ_=>undef):=by refine ⟨rfl,by simp,λq=> ?_⟩;simp [aa4];by_cases hk:q<k<;>simp [hk]
section
variable {P:Program}{c:Ctx}{g:Nat->List MV->Option MV}{n:Oh}{f:Nat}{fn fm:Func}{r:Nat->Nat}{o p:Nat->Oper} {φ:Ph}{w:World}
theorem MG {o:Oper}{d:Nat}{t:Array TypeId}{k:Nat}{e:Operand->Value}(ho:ae o d (.call {callee:= .value (.func k),args:= #[],argTypes:=t})) (he:e (.func k)= .func (.func k) #[] #[]) (w:World):(execOp e o).run P w=(callFunc k #[]).run P w:=by simp [execOp,ho.op,resolve,invoke,he,aas]
theorem eight {s:List Int}(h:s.length=8): ∃a0 a1 a2 a3 a4 a5 a6 a7,s=[a0,a1,a2,a3,a4,a5,a6,a7]:=by
 match s,h with
 |[a0,a1,a2,a3,a4,a5,a6,a7],_=>exact ⟨a0,a1,a2,a3,a4,a5,a6,a7,rfl⟩
theorem RW (H:MF P c g n f fn fm r o p){s:List Int}(hs:g n.fF []=some (.h .u32 6 s))(hi:iA φ w): cn P n.fN #[] w λv W=> ∃b φ',v= .pointer (some ⟨b,0,none⟩)/\w.heap.size<=b/\s.length=8/\W.heap[b]? =some (.cells (aX .u32 s++[abZ none 0 0,aaf .i64 0]).toArray n.tS (0,0))/\ (∀o,φ' b o=none)/\Trans (λb=>w.heap.size<=b) φ w φ' W/\iA φ' W:=by
 refine eX H.pos' H.Xf H.RU (calls_of_wp H.pos' H.RU ?_);rw [H.Xg];have acE:Tm {tmps:= #[]++aaa (4-(#[]:Array Value).size) undef,defers:=[]} 4 (λ_=>undef):=tm0 4;generalize ({tmps:=_,defers:=[]}:Act)=a at acE;refine wp_seq (wp_region ?_);rw [show sh (#[p 0]:Array Oper).size=[0] from rfl];refine acE.step (v:= .pointer none) rfl H.BL.h0 (by decide) (aZ H.BL.h0 _) (λa af=> ?_);refine wp_seq (wp_region ?_);rw [show sh (#[p 1,p 2,p 3,p 4]:Array Oper).size=[0,1,2,3] from rfl];have hc:=tJ (vs:=[]) (by rw [H.key];exact H.gvs.1) (H.snd _ _ _ hs) rfl rfl hi;refine af.call rfl H.BL.h1 (by decide) (MG H.BL.h1 rfl _) hc ?_;rintro x W a ⟨φ',t1,t2,hx⟩ af;obtain ⟨rfl,hl⟩:x= .agg (s.map (aaf .u32)).toArray/\s.length=8:=hx;obtain ⟨a0,a1,a2,a3,a4,a5,a6,a7,rfl⟩:=eight hl;refine af.step (v:= .agg (aX .u32 [a0,a1,a2,a3,a4,a5,a6,a7]++[abZ none 0 0,aaf .i64 0]).toArray) rfl H.BL.h2 (by decide) (wA H.BL.h2 (H.bld a0 a1 a2 a3 a4 a5 a6 a7) _) (λa af=> ?_);refine af.step (v:= .pointer (some ⟨W.heap.size,0,none⟩)) rfl H.BL.h3 (by decide) (Mv H.BL.h3 W) (λa af=> ?_);refine af.step (v:= .pointer (some ⟨W.heap.size,0,none⟩)) rfl H.BL.h4 (by decide) (aZ H.BL.h4 _) (λa af=> ?_);refine wp_ret ?_;refine ⟨af.defers,.pointer (some ⟨W.heap.size,0,none⟩),?_,_,rfl,W.heap.size,φ',rfl,t1.size,rfl,?_,λo=> ?_,t1.trans ?_,?_⟩
 ·have h0:a.tmps[0]?.getD undef= .pointer (some ⟨W.heap.size,0,none⟩):=by have:=af.get 0;simpa [kR] using this
  simp [results,H.acD,dc,h0]
 ·exact dm W _
 ·cases ho:φ' W.heap.size o with
  |none=>rfl
  |some u=>have:=OF W _ (t2 _ _ _ ho);simp at this
 ·exact ⟨.refl _,λb _ hb=>iR W _ b hb,λ_ _ _=>rfl,by show _<=(W.heap.push _).size;simp,.alloc _ _ _⟩
 ·exact λb o u hu=>kh (t2 b o u hu) λhl=>iR W _ b hl
theorem RX (H:MF P c g n f fn fm r o p){xs:List MV}{res:MV}(hm:RV g n [.list xs]=some res):cq P c f [.list xs] res:=by
 simp only [RV,show∀K:List MV->Option MV,gL (.list xs) K=K xs from λ_=>rfl] at hm;have hgH: ∀{k:IntKind} {j:Nat} {m:MV} {K:List Int->Option MV} {r:MV},gH k j m K=some r-> ∃s,m= .h k j s/\K s=some r:=by
  intro k j m K r h;unfold gH at h;split at h
  ·rename_i k' j' s;cases hq:decide (k'=k)&&abv j' j with
   |false=>simp [hq] at h
   |true=>simp only [hq,cond_true] at h;simp only [IN,decide_eq_true_eq] at hq;obtain ⟨rfl,hq⟩:=hq;have hq:=aal hq;subst hq;exact ⟨s,rfl,h⟩
  ·cases h
 have hgC: ∀{l:List MV} {K:MV->List MV->Option MV} {r:MV},gC l K=some r-> ∃m l',l=m::l'/\K m l'=some r:=by
  intro l K r h;cases l with
  |nil=>cases h
  |cons m l=>exact ⟨m,l,rfl,h⟩
 have hgW: ∀{m:MV} {K:MV->List MV->Option MV} {r:MV},gW m K=some r-> ∃x l,m= .gk x l/\K x l=some r:=by
  intro m K r h;unfold gW at h;split at h
  ·exact ⟨_,_,rfl,h⟩
  ·cases h
 obtain ⟨m,hF,h1⟩:=fQ hm;clear hm;obtain ⟨s,e,h2⟩:=hgH h1;clear h1;subst e;obtain ⟨m,hW,h1⟩:=fQ h2;clear h2;obtain ⟨x1,ls,e,h2⟩:=hgW h1;clear h1;subst e;obtain ⟨m0,ls,e,h1⟩:=hgC h2;clear h2;subst e;obtain ⟨s1,e,h2⟩:=hgH h1;clear h1;subst e;obtain ⟨m1,ls,e,h1⟩:=hgC h2;clear h2;subst e;obtain ⟨left,e,h2⟩: ∃l,m1=MV.list l/\(gC ls λm2 ls=>gI .i64 m2 λlong=>gN ls<|bd (g n.fS [.cell (.func 0 [.h .u32 6 s1,.list l,.i .i64 long])]) λq=>gW q λh _=>gH .u8 30 h λh=>some (.h .u8 30 h))=some res:=by
  unfold gL at h1;split at h1
  ·exact ⟨_,rfl,h1⟩
  ·cases h1
 clear h1;subst e;obtain ⟨m2,ls,e,h1⟩:=hgC h2;clear h2;subst e;obtain ⟨long,e,h2⟩: ∃k,m2=MV.i .i64 k/\(gN ls<|bd (g n.fS [.cell (.func 0 [.h .u32 6 s1,.list left,.i .i64 k])]) λq=>gW q λh _=>gH .u8 30 h λh=>some (.h .u8 30 h))=some res:=by
  unfold gI at h1;split at h1
  ·rename_i k' v;by_cases hk:k'= .i64
   ·subst hk;simp only [decide_true,cond_true] at h1;exact ⟨v,rfl,h1⟩
   ·simp [hk] at h1
  ·cases h1
 clear h1;subst e;cases ls with
 |cons=>cases h2
 |nil=>
 simp only [gN] at h2;obtain ⟨m,hS,h1⟩:=fQ h2;clear h2;obtain ⟨x2,outs,e,h2⟩:=hgW h1;clear h1;subst e;obtain ⟨h,e,h1⟩:=hgH h2;clear h2;subst e;simp only [aQ] at h1;subst h1;intro φ0 w0 Z0 vs Od bZ du;simp only [bO,H.key,H.gvs.2.2.2,AI,if_false] at bZ;obtain ⟨x,rest,rfl,hx,jY⟩:=bZ;have jY:rest=[]:=jY;subst jY;refine (eX (R:=λv W=> ∃φ',Trans (λb=>w0.heap.size<=b) φ0 w0 φ' W/\iA φ' W/\bN c.key φ' v (.h .u8 30 h)) H.pos H.name H.body (calls_of_wp H.pos H.body ?_)).imp ?_;rotate_left
 ·rintro v W ⟨φ',t1,t2,h3⟩;exact ⟨φ',t1.ml Od,t2,h3⟩
 rw [H.tmps];obtain ⟨Iw,p1,p2⟩:=H.TB;obtain ⟨IE,e1⟩:=H.tyE;obtain ⟨hOi,hOc⟩:=aD p1;obtain ⟨fR,iT⟩:=aD e1;obtain ⟨iO,zO,hiO,hsO,_,hzO,RS⟩:=eF (H.hT _ Iw hOi) hOc;have o5:=H.ops.h5;have o7:=H.ops.h7;have key: ∀a:Act,Tm a 10 (kR (λ_=>undef) 0 x)->(G0 r o).wp P (bodyPost P fn λe W=> ∃v,e= .returned v/\ ∃φ',Trans (λb=>w0.heap.size<=b) φ0 w0 φ' W/\iA φ' W/\bN c.key φ' v (.h .u8 30 h)) a w0:=by
  intro a af;unfold G0;refine wp_seq (wp_region ?_);rw [show sh (#[o 0]:Array Oper).size=[0] from rfl];refine af.step rfl H.ops.h0 (by decide) (Ac H.ops.h0 hiO hzO _) (λa af=> ?_);obtain ⟨W1,wC⟩: ∃W1,W1=w0.alloc (.cells zO.cells n.tO):=⟨_,rfl⟩
  rw [<-wC];have s1':W1.heap.size=w0.heap.size+1:=by rw [wC];simp
  have l1:W1.heap[w0.heap.size]? =some (.cells zO.cells n.tO (0,0)):=by rw [wC];exact dm w0 _
  have g1: ∀b,b<w0.heap.size->W1.heap[b]? =w0.heap[b]? :=λb hb=>by rw [wC];exact iR w0 _ b hb
  have k1:Rest w0 W1:=by rw [wC];exact .alloc _ _ _
  have i1:iA φ0 W1:=λb o u hu=>kh (du b o u hu) λhl=>g1 b hl;have f0: ∀o,φ0 w0.heap.size o=none:=λo=>by
   cases ho:φ0 w0.heap.size o with
   |none=>rfl
   |some u=>have:=OF w0 _ (du _ _ _ ho);simp at this
  have t01:Trans (λb=>w0.heap.size<=b) φ0 w0 φ0 W1:=⟨.refl _,λb _ hb=>g1 b hb,λ_ _ _=>rfl,by omega,k1⟩
  refine wp_seq (wp_region ?_);rw [show sh (#[o 1,o 2]:Array Oper).size=[0,1] from rfl];refine af.call rfl H.ops.h1 (by decide) (MG H.ops.h1 rfl _) (RW H hF i1) ?_;rintro v2 W2 a ⟨b,φ2,rfl,hb,iw,lp,P5,t12,i2⟩ af;have AO:=aC lp;refine af.step (v:= .pointer (some ⟨b,0,none⟩)) rfl H.ops.h2 (by decide) (aZ H.ops.h2 _) (λa af=> ?_);refine wp_seq (wp_region ?_);rw [show sh (#[o 3,o 4,o 5]:Array Oper).size=[0,1,2] from rfl];refine af.step (v:= .pointer (some ⟨b,0,none⟩)) rfl H.ops.h3 (by decide) (aj H.ops.h3 _) (λa af=> ?_);refine af.step (v:=x) rfl H.ops.h4 (by decide) (aj H.ops.h4 _) (λa af=> ?_);have LU:bN c.key φ2 x (.list xs):=hx.mono t12.ph;have hzW: ∀q,W2.heap.size<=q->w0.heap.size<q:=λq hq=>by have:=t12.size;omega
  have jj:cN c (λq=>w0.heap.size<q) φ2 W2 b (ksW n.tE) [.h .u32 6 s,.list [],.i .i64 0]:=by
   refine ⟨[.hs .u32 6 s,.own 2000001,.p (.i .i64 0)],[(2000001,⟨n.tE,false,[]⟩)],λ_=> .slice none 0 0,_,_,rfl,lp,by show w0.heap.size<b;omega,P5,?_,?_,?_⟩
   ·refine ⟨aX .u32 s,[.slice none 0 0,.int .i64 0],rfl,⟨rfl,iw⟩,[.slice none 0 0],[.int .i64 0],rfl,⟨_,rfl,rfl,λo _=>rfl⟩,[.int .i64 0],[],rfl,⟨rfl,.i _ _⟩,rfl⟩
   ·intro f o ho;have ho:(bif abv 2000001 f then some (⟨n.tE,false,[]⟩:jb) else none)=some o:=ho;cases hh:abv 2000001 f with
    |false=>rw [hh] at ho;cases ho
    |true=>rw [hh] at ho;cases ho;exact ⟨⟨IE,[],fR,iT,World.ownsRow_nil W2 0 n.tE IE.size,rfl,λaA hk=>by simp [aai] at hk⟩,by simp [aai]⟩
   ·intro f f' o o' k _ _ hk _;simp [aai] at hk
  have mb:bO c (λq=>w0.heap.size<q) φ2 W2 (c.key n.fW) [.pointer (some ⟨b,0,none⟩),x] [.cell (.func 0 [.h .u32 6 s,.list [],.i .i64 0]),.list xs]:=by simp only [bO,H.key,H.gvs.2.1,if_true];exact .inr (.inr ⟨0,ksW n.tE,ksS,0,_,b,H.sig.1,rfl,rfl,⟨_,_,rfl,⟨rfl,.rp b 0 [] [] .nil (by simp)⟩,_,_,rfl,LU,rfl⟩,jj⟩)
  refine af.call rfl o5 (by decide) (GV o5 rfl rfl rfl _) (H.snd _ _ _ hW φ2 W2 _ _ hzW mb i2) ?_;rintro v3 W3 a ⟨φ3,t23,i3,_,pos',ks',ko',YB,HM,oq,Hv,hc3⟩ af;rw [H.key,H.sig.1] at oq;simp only [aQ,aaE] at oq;obtain ⟨rfl,rfl,rfl⟩:=oq;simp only [ab1,aQ,acL,adS] at Hv;obtain ⟨rfl,_⟩:=Hv;refine wp_seq (wp_region ?_);rw [show sh (#[o 6,o 7,o 8]:Array Oper).size=[0,1,2] from rfl];refine af.step (v:= .pointer (some ⟨b,0,none⟩)) rfl H.ops.h6 (by decide) (aj H.ops.h6 _) (λa af=> ?_);have agt:bO c (λq=>w0.heap.size<q) φ3 W3 (c.key n.fS) [.pointer (some ⟨b,0,none⟩)] [.cell (.func 0 [.h .u32 6 s1,.list left,.i .i64 long])]:=by simp only [bO,H.key,H.gvs.2.2.1,if_true];exact .inr (.inr ⟨0,ksS,ksS,0,_,b,H.sig.2,rfl,rfl,⟨_,_,rfl,⟨rfl,.rp b 0 [] [] .nil (by simp)⟩,rfl⟩,hc3⟩)
  refine af.call rfl o7 (by decide) (GU (v:= .pointer (some ⟨b,0,none⟩)) o7 rfl rfl _) (H.snd _ _ _ hS φ3 W3 (λq=>w0.heap.size<q) [.pointer (some ⟨b,0,none⟩)] (λq hq=>by have:=t12.size;have:=t23.size;omega) agt i3) ?_;rintro v4 W4 a ⟨φ4,t34,i4,jt,_⟩ af;obtain ⟨rfl,hhl⟩:v4= .agg (h.map (aaf .u8)).toArray/\h.length=32:=jt;have q4:W4.heap[w0.heap.size]? =some (.cells zO.cells n.tO (0,0)):=by rw [t34.heap _ (by omega) (by have:=t12.size;have:=t23.size;omega),t23.heap _ (by omega) (by have:=t12.size;omega),t12.heap _ (by omega) (by omega),l1]
  have akD:zO.cells.toList.length=32:=by rw [aae,RS,p2]
  have iG:(acF (h.map (aaf .u8)).toArray).cells.toList=h.map (aaf .u8):=by simp [adG]
  refine af.sr rfl H.ops.h8 (wv (v:= .agg (h.map (aaf .u8)).toArray) H.ops.h8 (H.hT _ _ hOi) hOc rfl rfl (by rw [iG,p2];simpa using hhl) (by rw [iG];simp [Value.oneCell']) q4 (by rw [p2,RS,p2];decide)) ?_;rw [iG,p2];have hdr:zO.cells.toList.take 0++h.map (aaf .u8)++zO.cells.toList.drop (0+32)=h.map (aaf .u8):=by rw [aaw (by omega)];simp
  rw [hdr];obtain ⟨W5,RT⟩: ∃W5,W5=W4.setRow w0.heap.size (h.map (aaf .u8)).toArray:=⟨_,rfl⟩
  rw [<-RT];have l5:W5.heap[w0.heap.size]? =some (.cells (h.map (aaf .u8)).toArray n.tO (0,0)):=by rw [RT];exact dp _ q4
  have g5: ∀q,q≠w0.heap.size->W5.heap[q]? =W4.heap[q]? :=λq hq=>by rw [RT];exact setRow_other _ _ _ _ hq
  have vM: ∀o,φ4 w0.heap.size o=none:=λo=>by rw [t34.free _ _ (by omega),t23.free _ _ (by omega),t12.free _ _ (by omega)];exact f0 o
  have t04:Trans (λb=>w0.heap.size<=b) φ0 w0 φ4 W4:=((t01.trans (t12.ml λq hq=>by omega)).trans (t23.ml λq hq=>by omega)).trans (t34.ml λq hq=>by omega);have i5:iA φ4 W5:=λb o u hu=>kh (i4 b o u hu) λhl=>g5 b λe=>by rw [e,vM] at hu;cases hu
  have t05:Trans (λb=>w0.heap.size<=b) φ0 w0 φ4 W5:=⟨t04.ph,λb hb hl=>by rw [g5 b (by omega)];exact t04.heap b hb hl,t04.free,by rw [RT,setRow_size];exact t04.size,t04.rest.trans (by rw [RT];exact .setRow _ _ _)⟩
  refine wp_ret ?_;refine ⟨af.defers,.agg (h.map (aaf .u8)).toArray,?_,_,rfl,φ4,t05,i5,rfl,hhl⟩;have RO:(loadVar n.tO ⟨w0.heap.size,0,none⟩).run P W5= .ok (.agg (h.map (aaf .u8)).toArray) W5:=by
   have hr:W5.rangeAt w0.heap.size 0 (h.map (aaf .u8)):=wOf l5 (by simp);rcases dK (P:=P) (H.hT _ _ hOi) hOc (vs:=h.map (aaf .u8)) (by simp [p2,hhl]) hr with ⟨_,hq⟩|⟨_,u,hu,_⟩
   ·have:=hq W5 hr;simpa [aa1,acB] using this
   ·have:=congrArg List.length hu;simp [hhl] at this
  have z6:a.tmps[2]?.getD undef= .pointer (some ⟨w0.heap.size,0,none⟩):=by have:=af.get 2;rw [Array.getD_eq_getD_getElem?] at this;exact this
  simp [results,H.res,dc,z6,RO,asAddr]
 exact key _ (tm1 _ 9)
theorem YY (H:MF P c g n f fn fm r o p){ms:List MV}{res:MV}(hm:RV g n ms=some res):cq P c f ms res:=by
 cases ms with
 |nil=>cases hm
 |cons a ms=>
  cases ms with
  |cons=>cases hm
  |nil=>
   have hl: ∃xs,a= .list xs:=by cases a<;>first|exact ⟨_,rfl⟩|(simp [RV,gL] at hm)
   obtain ⟨xs,rfl⟩:=hl;exact RX H hm
end
end Dn
/-
  Functions of the library as table entries. Conditions: none.
-/
namespace Dn
open Go
def oa (size bytes:Nat):List MV->Option MV
 |[.list xs]=>bif fZ size xs&&aaD (xs.length *bytes) (2^46) then some (.fresh xs) else none
 |_=>none
def nC (bytes:Nat):List MV->Option MV
 |[.fresh xs,.i .i64 i,.fresh ys]=>bif decide (0<=i)&&(aaD i.toNat xs.length&&(!ys.isEmpty&&aaD ((xs.length+ys.length) *bytes) (2^46))) then some (.fresh (xs.take i.toNat++ys++xs.drop i.toNat)) else none
 |_=>none
theorem nD {size bytes:Nat}{ms:List MV}{r:MV}(h:oa size bytes ms=some r): ∃xs,ms=[.list xs]/\r= .fresh xs/\fZ size xs=true/\xs.length *bytes<=2^46:=by
 unfold oa at h;split at h
 ·rename_i xs;cases hb:fZ size xs&&aaD (xs.length *bytes) (2^46) with
  |false=>simp [hb] at h
  |true=>simp only [hb,cond_true,aQ] at h;simp only [IN] at hb;exact ⟨xs,rfl,h.symm,hb.1,No hb.2⟩
 ·cases h
theorem p9 {bytes:Nat}{ms:List MV}{r:MV}(h:nC bytes ms=some r): ∃xs ys i,ms=[.fresh xs,.i .i64 ((i:Nat):Int),.fresh ys]/\r= .fresh (xs.take i++ys++xs.drop i)/\i<=xs.length/\ys≠[]/\(xs.length+ys.length) *bytes<=2^46:=by
 unfold nC at h;split at h
 ·rename_i xs i ys;cases hb:decide (0<=i)&&(aaD i.toNat xs.length&&(!ys.isEmpty&&aaD ((xs.length+ys.length) *bytes) (2^46))) with
  |false=>rw [hb] at h;cases h
  |true=>
   simp only [hb,cond_true,aQ] at h;simp only [IN,decide_eq_true_eq,adu] at hb;obtain ⟨h1,h2,h3,h4⟩:=hb;refine ⟨xs,ys,i.toNat,?_,h.symm,No h2,?_,No h4⟩
   ·rw [abI h1]
   ·intro hy;subst hy;simp at h3
 ·cases h
theorem cA.none (P:Program)(c:Ctx):cA P c (λ_ _=>Option.none):=⟨λf ms r h=>by cases h⟩
theorem cA.zK {P:Program}{c:Ctx}{g:Nat->List MV->Option MV}{n:Nat}{F:List MV->Option MV}(h:cA P c g)(oO: ∀f,c.key f=f)(hF: ∀ms r,F ms=some r->cq P c n ms r):cA P c (bo n F g):=h.add (λf ms r hk hr=>by rw [oO] at hk;rw [hk];exact hF ms r hr)
def qd:Code->List Oper
 | .region _ ops _=>ops.toList
 | .seq x y=>qd x++qd y
 | .cond _ x y=>qd x++qd y
 | .block _ x=>qd x
 | .loop x=>qd x
 |_=>[]
def dM (fn:Func)(d:Oper)(k:Nat):Oper:=match fn.body with|some c=>(qd c).getD k d|none=>d
def G3 (o:Nat->Oper):Code:= .seq (.region 18 #[o 83,o 84,o 85,o 86,o 87] false) (.seq (.region 19 #[o 88,o 89,o 90,o 91,o 92] false) (.seq (.region 20 #[o 93,o 94] false) .ret))
def dN:Oper:={dst:=none,op:= .move (.tmp 0),type:=0,pos:= "",after:= #[],guard:=none}
end Dn
/-
  Reasoning about functions on values. Conditions: none.
-/
namespace Dn
open Go
section
variable {R:Type}
@[simp] theorem akF (x : Bool)(K : Bool -> Option R) : gB (.b x) K = K x := (rfl)
@[simp] theorem agu (k : IntKind)(x : Int)(K : Int -> Option R) : gI k (.i k x) K = K x := by simp [gI]
@[simp] theorem akG (x : List UInt8)(K : List UInt8 -> Option R) : gS (.s x) K = K x := (rfl)
@[simp] theorem akH (x : List MV)(K : List MV -> Option R) : gL (.list x) K = K x := (rfl)
@[simp] theorem agv (k : IntKind)(n : Nat)(x : List Int)(K : List Int -> Option R) : gH k n (.h k n x) K = K x := by simp [gH]
@[simp] theorem akI (x : List MV)(K : List MV -> Option R) : gA (.agg x) K = K x := (rfl)
@[simp] theorem akJ (x : List MV)(K : List MV -> Option R) : gT (.cG x) K = K x := (rfl)
@[simp] theorem akK (x : List MV)(K : List MV -> Option R) : gF (.fresh x) K = K x := (rfl)
@[simp] theorem aiC (f : Nat)(x : List MV)(K : Nat -> List MV -> Option R) : gFn (.func f x) K = K f x := (rfl)
@[simp] theorem akL (f : Nat)(x : List MV)(K : MV -> Option R) : gR (.func f x) K = K (.func f x) := (rfl)
@[simp] theorem akM (m : MV)(r : List MV)(K : MV -> List MV -> Option R) : gC (m :: r) K = K m r := (rfl)
@[simp] theorem akN (K : Option R) : gN [] K = K := (rfl)
@[simp] theorem aL {α : Type}(a : α)(K : α -> Option R) : bd (some a) K = K a := (rfl)
@[simp] theorem aiD (a b : Nat) : abv a b = decide (a = b) := cY a b
@[simp] theorem acG (K : Option R) : aY true K = K := (rfl)
@[simp] theorem acH (x y : Option R) : bT true x y = x := (rfl)
@[simp] theorem aaq (x y : Option R) : bT false x y = y := (rfl)
end
theorem cr {x:Int}(h1: -9223372036854775808<=x)(h2:x<=9223372036854775807):adX .i64 x=x:=by rw [IntKind.wrap_i64];omega
section
variable {σ R:Type}{body:σ->Option (Sum σ R)}
theorem Fh {n:Nat}{s:σ}{r:R}(h:iter body n s=some r): ∀{m:Nat},n<=m->iter body m s=some r:=by
 induction n generalizing s with
 |zero=>cases h
 |succ n ih=>
  intro m hm;obtain ⟨m,rfl⟩: ∃k,m=k+1:=⟨m-1,by omega⟩
  simp only [iter] at h⊢;cases hb:body s with
  |none=>rw [hb] at h;cases h
  |some x=>
   rw [hb] at h;cases x with
   |inl s'=>exact ih h (by omega)
   |inr r'=>exact h
theorem uO {k n:Nat}{s:σ}{r:R}(h:iter body n s=some r):lm k body s=some r:=by
 have he: ∃r n,iter body n s=some r:=⟨r,n,h⟩
 have one: ∀{m:Nat} {r':R},iter body m s=some r'->r'=r:=λ{m r'} hm=>by have h1:=Fh h (Nat.le_max_left n m);have h2:=Fh hm (Nat.le_max_right n m);rw [h1] at h2;exact (adM h2).symm
 unfold lm;split
 ·rename_i r' hr;rw [one hr]
 ·rw [dif_pos he];obtain ⟨m,hm⟩:=Classical.choose_spec he;rw [one hm]
theorem ct {n:Nat}{s:σ}{r:R}(h:iter body n s=some r):Loop body s=some r:=uO h
theorem RY (I:σ->Prop) (μ:σ->Nat)(Q:R->Prop)(h: ∀s,I s->(∃s',body s=some (.inl s')/\I s'/\μ s'<μ s)\/(∃r,body s=some (.inr r)/\Q r)){s:σ}(hs:I s): ∃r,Loop body s=some r/\Q r:=by
 have key: ∀k s,I s->μ s<k-> ∃r,iter body k s=some r/\Q r:=by
  intro k;induction k with
  |zero=>intro s _ h;omega
  |succ k ih=>
   intro s hs hk;rcases h s hs with ⟨s',e,hi,hm⟩|⟨r,e,hq⟩
   ·obtain ⟨r,e2,hq⟩:=ih s' hi (by omega);exact ⟨r,by simp only [iter,e];exact e2,hq⟩
   ·exact ⟨r,by simp only [iter,e],hq⟩
 obtain ⟨r,e,hq⟩:=key (μ s+1) s hs (by omega);exact ⟨r,ct e,hq⟩
theorem RZ (S:Nat->σ)(N:Nat)(Q:R->Prop)(P:Nat->Prop)(h0:P 0)(h: ∀k,k<N->P k->(body (S k)=some (.inl (S (k+1)))/\P (k+1))\/(∃r,body (S k)=some (.inr r)/\Q r))(he:P N-> ∃r,body (S N)=some (.inr r)/\Q r): ∃r,Loop body (S 0)=some r/\Q r:=by
 have key: ∀d k,k+d=N->P k-> ∃r,iter body (d+1) (S k)=some r/\Q r:=by
  intro d;induction d with
  |zero=>
   intro k hk hp;have:k=N:=by omega
   subst this;obtain ⟨r,e,hq⟩:=he hp;exact ⟨r,by simp only [iter,e],hq⟩
  |succ d ih=>
   intro k hk hp;rcases h k (by omega) hp with ⟨e,Gf⟩|⟨r,e,hq⟩
   ·obtain ⟨r,e2,hq⟩:=ih (k+1) (by omega) Gf;exact ⟨r,by rw [iter,e];exact e2,hq⟩
   ·exact ⟨r,by rw [iter,e],hq⟩
 obtain ⟨r,e,hq⟩:=key N 0 (by omega) h0;exact ⟨r,ct e,hq⟩
end
end Dn
/-
  From functions on plain values to functions on typed values. Conditions: none.
-/
namespace Dn
open Go
def bM {R:Type}(l:List MV)(K:Nat->Option R):Option R:=K l.length
def ix {α R:Type}(l:List α)(i:Int)(K:α->Option R):Option R:=match (if 0<=i then l[i.toNat]? else none) with|some x=>K x|none=>none
def gj (l:List UInt8):List Int:=l.map λb=>(b.toNat:Int)
@[simp] theorem kG (l : List UInt8) : pL l = (gj l).map (MV.i .u8) := by unfold pL gj; rw [adY]; rfl
@[reducible] def Ld {α : Type}(f : α -> MV)(l : List α) : MV := .list (l.map f)
@[reducible] def G4 {α : Type}(f : α -> MV)(l : List α) : MV := .fresh (l.map f)
def Sm {A B:Type}(g:B->A)(x:Option A)(y:Option B):Prop:=x=y.map g
section
variable {A B A' B' α:Type}{g:B->A}{T:Option B}
theorem Sm.at {x x':Option A}(e:x=x')(h:Sm g x' T):Sm g x T:=e▸h
theorem kS {l:List MV}{K:List MV->Option A}(h:Sm g (K l) T):Sm g (gA (.agg l) K) T:=h
theorem cL {x:Bool}{K:Bool->Option A}(h:Sm g (K x) T):Sm g (gB (.b x) K) T:=h
theorem kT {x:List UInt8}{K:List UInt8->Option A}(h:Sm g (K x) T):Sm g (gS (.s x) K) T:=h
theorem bx {x:List MV}{K:List MV->Option A}(h:Sm g (K x) T):Sm g (gL (.list x) K) T:=h
theorem cv {k:IntKind}{n:Nat}{x:List Int}{K:List Int->Option A}(h:Sm g (K x) T):Sm g (gH k n (.h k n x) K) T:=by rw [agv];exact h
theorem MH {x:MV}{outs:List MV}{K:MV->List MV->Option A}(h:Sm g (K x outs) T):Sm g (gW (.gk x outs) K) T:=h
theorem jZ {x:List MV}{K:List MV->Option A}(h:Sm g (K x) T):Sm g (gT (.cG x) K) T:=h
theorem j0 {x:List MV}{K:List MV->Option A}(h:Sm g (K x) T):Sm g (gF (.fresh x) K) T:=h
theorem R0 {c:List MV}{K:MV->Option A}(h:Sm g (K (.rp c)) T):Sm g (gR (.rp c) K) T:=h
theorem Vl {k:IntKind}{M:List Int}{L:List MV}{K:List Int->Option A}(e:L=M.map (MV.i k))(h:Sm g (K M) T):Sm g (yw k L K) T:=by
 subst e;have: ∀{R:Type} (M:List Int) (K:List Int->Option R),yw k (M.map (MV.i k)) K=K M:=by
  intro R M;induction M with
  |nil=>intro K;rfl
  |cons n M ih=>intro K;simp only [adT,yw,agu];exact ih _
 rw [this];exact h
theorem Xh {x:List MV}{K:List MV->Option A}(h:Sm g (K x) T):Sm g (gP (.rp x) K) T:=h
theorem ay {k:IntKind}{n:Int}{K:Int->Option A}(h:Sm g (K n) T):Sm g (gI k (.i k n) K) T:=by simpa using h
theorem au {m:MV}{r:List MV}{K:MV->List MV->Option A}(h:Sm g (K m r) T):Sm g (gC (m::r) K) T:=h
theorem aU {K:Option A}(h:Sm g K T):Sm g (gN [] K) T:=h
theorem ap {x:Option A'}{y:Option B'}{f:B'->A'}{K:A'->Option A} {K':B'->Option B}(h:Sm f x y)(hk: ∀b,Sm g (K (f b)) (K' b)):Sm g (bd x K) (bd y K'):=by
 unfold Sm at h;subst h;cases y with
 |none=>rfl
 |some b=>exact hk b
theorem aJ {p:Prop}[Decidable p]{X Y:Option A} {X' Y':Option B}(h1:Sm g X X')(h2:Sm g Y Y'):Sm g (bT (decide p) X Y) (if p then X' else Y'):=by by_cases h:p<;>simpa [h] using (by assumption)
theorem bG {c:Bool}{X Y:Option A} {X' Y':Option B}(h1:Sm g X X')(h2:Sm g Y Y'):Sm g (bT c X Y) (if c then X' else Y'):=by cases c<;>simpa using (by assumption)
theorem al {p:Prop}[Decidable p]{X:Option A} {X':Option B}(h1:Sm g X X'):Sm g (aY (decide p) X) (if p then X' else none):=by
 by_cases h:p
 ·simpa [h] using h1
 ·simp [h,aY,Sm]
theorem iW {c:Bool}{X:Option A} {X':Option B}(h1:Sm g X X'):Sm g (aY c X) (if c then X' else none):=by
 cases c
 ·simp [aY,Sm]
 ·simpa using h1
theorem bD {c:Bool}{X:Option A}(hc:c=true)(h:Sm g X T):Sm g (aY c X) T:=by subst hc;exact h
theorem sw {c:Bool}{X Y:Option A}(hc:c=true)(h:Sm g X T):Sm g (bT c X Y) T:=by subst hc;exact h
theorem sB {c:Bool}{X Y:Option A}(hc:c=false)(h:Sm g Y T):Sm g (bT c X Y) T:=by subst hc;exact h
theorem jD {l:List MV}{n:Nat}{K:Nat->Option A}(e:l.length=n)(h:Sm g (K n) T):Sm g (bM l K) T:=by subst e;exact h
theorem cy {l:List MV}{M:List α}{f:α->MV}{i:Int}{K:MV->Option A} {K':α->Option B}(e:l=M.map f)(h: ∀y,Sm g (K (f y)) (K' y)):Sm g (idx l i K) (ix M i K'):=by
 subst e;unfold idx Xu ix;by_cases hi:0<=i
 ·simp only [hi,if_true,ab0];cases M[i.toNat]? with
  |none=>rfl
  |some y=>exact h y
 ·simp only [hi,if_false];rfl
def BM {R:Type}(l:List Int)(K:List UInt8->Option R):Option R:=if l.all isByte then K (l.map λn=>UInt8.ofNat n.toNat) else none
theorem R2 {R:Type}{M:List Int}: ∀{K:List UInt8->Option R},zu (M.map (MV.i .u8)) K=BM M K:=by
 induction M with
 |nil=>intro K;rfl
 |cons n M ih=>intro K;simp only [adT,zu,byK,gI,decide_true,cond_true,ih];cases h:isByte n<;>simp [aY,BM,h]
theorem G5 {l:List MV}{M:List Int}{K:List UInt8->Option A} {K':List UInt8->Option B}(e:l=M.map (MV.i .u8))(h: ∀b,Sm g (K b) (K' b)):Sm g (zu l K) (BM M K'):=by
 subst e;rw [R2];unfold BM;split
 ·exact h _
 ·rfl
theorem dA {d:A}{a:B}(e:d=g a):Sm g (some d) (some a):=by subst e;rfl
theorem fe {n:Nat}{l:List MV}{M:List α}{f:α->MV}(e:l=M.map f)(h: ∀x,(f x).w=n):fZ n l=true:=by subst e;unfold fZ;rw [List.all_map,aa0];intro x _;simp [h x]
theorem Ja {σ σ' ρ ρ':Type}{e:σ'->σ}{f:ρ'->ρ}{K:σ->Option (Sum σ ρ)} {K':σ'->Option (Sum σ' ρ')}(h: ∀s,Sm (Sum.map e f) (K (e s)) (K' s))(n:Nat)(s:σ'):iter K n (e s)=(iter K' n s).map f:=by
 induction n generalizing s with
 |zero=>rfl
 |succ n ih=>
  have:=h s;unfold Sm at this;simp only [iter,this];cases K' s with
  |none=>rfl
  |some x=>cases x with
   |inl s'=>exact ih s'
   |inr r=>rfl
theorem BN {σ ρ:Type}{K:σ->Option (Sum σ ρ)}{k:Nat}{s:σ}(h: ∀n,iter K n s=none):lm k K s=none:=by unfold lm;rw [h];dsimp only;rw [dif_neg];rintro ⟨r,n,e⟩;rw [h] at e;cases e
theorem Oi {σ ρ:Type}{K:σ->Option (Sum σ ρ)}{s:σ}(h: ∀n,iter K n s=none):Loop K s=none:=BN h
theorem bL {σ σ' ρ ρ':Type}{k:Nat}{K:σ->Option (Sum σ ρ)} {K':σ'->Option (Sum σ' ρ')}{d0:σ}{s0:σ'}(e:σ'->σ)(f:ρ'->ρ)(e0:d0=e s0)(h: ∀s,Sm (Sum.map e f) (K (e s)) (K' s)):Sm f (lm k K d0) (Loop K' s0):=by
 subst e0;unfold Sm;by_cases hx: ∃r n,iter K' n s0=some r
 ·obtain ⟨r,n,hn⟩:=hx;rw [ct hn];have:iter K n (e s0)=some (f r):=by rw [Ja h,hn];rfl
  rw [uO this];rfl
 ·have h1: ∀n,iter K' n s0=none:=λn=>by
   cases hn:iter K' n s0 with
   |none=>rfl
   |some r=>exact absurd ⟨r,n,hn⟩ hx
  rw [Oi h1,BN λn=>by rw [Ja h,h1];rfl];rfl
end
abbrev Oj (f:Option MV):List MV->Option MV|[]=>f|_=>none
abbrev je (f:MV->Option MV):List MV->Option MV|[a]=>f a|_=>none
abbrev oc (f:MV->MV->Option MV):List MV->Option MV|[a,b]=>f a b|_=>none
abbrev YZ (f:MV->MV->MV->Option MV):List MV->Option MV|[a,b,c]=>f a b c|_=>none
theorem Ae {f:Option MV}{B:List MV->Option MV}(h:B []=f){ms:List MV}{r:MV}(e:Oj f ms=some r):B ms=some r:=by
 unfold Oj at e;split at e
 ·rw [h];exact e
 ·cases e
theorem ca {f:MV->Option MV}{B:List MV->Option MV}(h: ∀a,B [a]=f a){ms:List MV}{r:MV}(e:je f ms=some r):B ms=some r:=by
 unfold je at e;split at e
 ·rw [h];exact e
 ·cases e
theorem dB {f:MV->MV->Option MV}{B:List MV->Option MV}(h: ∀a b,B [a,b]=f a b){ms:List MV}{r:MV}(e:oc f ms=some r):B ms=some r:=by
 unfold oc at e;split at e
 ·rw [h];exact e
 ·cases e
theorem Vm {f:MV->MV->MV->Option MV}{B:List MV->Option MV}(h: ∀a b c,B [a,b,c]=f a b c){ms:List MV}{r:MV}(e:YZ f ms=some r):B ms=some r:=by
 unfold YZ at e;split at e
 ·rw [h];exact e
 ·cases e
theorem cA.fn {P:Program} {c c':Ctx}{g:Nat->List MV->Option MV}{n:Nat}{fn:Func}{aS:List (List Kd)}{F:List MV->Option MV}(h:cA P c g)(hl:wj c c')(Tw:c'.g=g)(fH:dt P c.ti)(ek:HV P c.ti)(DD: ∀t k,c.fk t=some k->P.underlying t=some (.float k))(JX:rR P c)(DR:P.follows .mixedOrders=true)(Bq:mq P c)(hf:P.funcs[n]? =some fn)(hh:si c' n fn aS=true)(oO: ∀f,c.key f=f){fresh:Option Nat}(vM:vj c' n fn fresh=true)(hF: ∀{ms r},F ms=some r->rE c' aS fresh fn ms=some r):cA P c (bo n F g):=by have hb:=cA.body h hl Tw fH ek DD JX DR Bq hf hh oO vM;refine h.add (λf ms r hk hr=> ?_);refine hb.all f ms r ?_;unfold bo;rw [hk];simp [hF hr]
end Dn
/-
  What functions of package strings yield: plain and typed. Conditions: none.
-/
namespace Dn
open Go
def sC (c:UInt8):List UInt8->List (List UInt8)
 |[]=>[[]]
 |x::l=>if x=c then []::sC c l else match sC c l with
  |p::r=>(x::p)::r
  |[]=>[[x]]
def MI:List MV->Option MV
 |[.s a,.s b]=>bif (aaD 1 a.length&&aaD a.length (2^46))&&(aaD 2 b.length&&(aaD b.length 1000&&b.all λx=>decide (x.toNat<128))) then some (.s (Lib.trimS a b)) else none
 |_=>none
def wD:List MV->Option MV
 |[.s a,.i .i32 r]=>bif decide (0<=r/\r<128) then some (.b (decide (0<=Lib.indexByte a r.toNat.toUInt8))) else none
 |_=>none
def G6:List MV->Option MV
 |[.s a,.s [c]]=>bif aaD a.length 4294967280 then some (.fresh ((sC c a).map MV.s)) else none
 |_=>none
end Dn
/-
  Functions of package strings as table entries, by the shelf's contracts. Conditions: none.
-/
namespace Dn
open Go
theorem Ok (c:UInt8): ∀l:List UInt8,Lib.splitK [c] 0 (Lib.count l [c]) l=sC c l:=by
 intro l;induction l with
 |nil=>rw [Lib.count_one];rfl
 |cons b l ih=>
  by_cases hb:b=c
  ·subst hb;have IA:aat (b::l) [b]=0:=by rw [aat];simp [List.isPrefixOf]
   rw [Lib.count_cons_eq,adb,Lib.splitK,IA];simp [sC,ih]
  ·rw [Lib.count_cons_ne b c l hb];have hp:([c]:List UInt8).isPrefixOf (b::l)=false:=by simp [List.isPrefixOf,Ne.symm hb]
   have IA:aat (b::l) [c]=if aat l [c]== -1 then-1 else aat l [c]+1:=by rw [aat,hp];simp
   simp only [sC,hb,if_false];rw [<-ih];cases hk:Lib.count l [c] with
   |zero=>rfl
   |succ k=>
    have cg:aat l [c]≠ -1:=by intro he;rw [Lib.count_miss he] at hk;cases hk
    have Nw:=Lib.index_ge l [c];obtain ⟨j,hj⟩: ∃j:Nat,aat l [c]=j:=⟨(aat l [c]).toNat,by omega⟩
    have acI:(aat l [c]== -1)=false:=by simpa using cg
    rw [acI,if_neg (by decide)] at IA;have agw:(aat (b::l) [c]== -1)=false:=by rw [IA,hj];simp;omega
    rw [Lib.splitK,Lib.splitK,acI,agw,IA,hj];have e1:((j:Int)+1).toNat=j+1:=by omega
    simp [e1]
theorem Ol (c:UInt8)(s:ByteArray):(abY ⟨#[c]⟩ 0 (aaj s ⟨#[c]⟩) s).map (·.data.toList)=sC c s.data.toList:=by rw [Lib.splitB_data];exact Ok c _
section
variable {P:Program} {ρ:Go.Shelf.Ren}{c:Ctx}
theorem xY {f:FuncId}{args:Array Value}{w:World}{S:Ending->World->Prop}{R:Value->World->Prop}(he: ∀args w,(callFunc f args).run P w= .ok (.enter f args) w)(hc:Calls P f args w S)(h: ∀e w',S e w'-> ∃v,e= .returned v/\R v w'): cn P f args w R:=by unfold cn;rw [he];exact hc.mono h
theorem G7 {key:Nat->Nat} {φ:Ph}{v:Value}{l:List UInt8}(h:dI key φ [v] (.s l)): ∃b:ByteArray,v= .string b/\b.data.toList=l:=by generalize hv:[v]=vs at h;cases h;rename_i b;exact ⟨b,by simpa using hv,rfl⟩
theorem MJ {Z:Nat->Prop} {φ:Ph}{w:World}{k:Nat}{vs:List Value}{a b:List UInt8}(hg:c.bQ k=false)(h:bO c Z φ w k vs [.s a,.s b]): ∃x y:ByteArray,vs=[.string x,.string y]/\x.data.toList=a/\y.data.toList=b:=by simp only [bO,hg,AI,if_false] at h;obtain ⟨v,u,rfl,⟨_,h1⟩,v2,u2,rfl,⟨_,h2⟩,rfl⟩:=h;obtain ⟨x,rfl,hx⟩:=G7 h1;obtain ⟨y,rfl,hy⟩:=G7 h2;exact ⟨x,y,rfl,hx,hy⟩
theorem Vn {Z:Nat->Prop} {φ:Ph}{w:World}{k:Nat}{kd:IntKind}{vs:List Value}{a:List UInt8}{n:Int}(hg:c.bQ k=false)(h:bO c Z φ w k vs [.s a,.i kd n]): ∃x:ByteArray,vs=[.string x,.int kd n]/\x.data.toList=a:=by simp only [bO,hg,AI,if_false] at h;obtain ⟨v,u,rfl,⟨_,h1⟩,v2,u2,rfl,⟨_,h2⟩,rfl⟩:=h;obtain ⟨x,rfl,hx⟩:=G7 h1;generalize hv:[v2]=vs at h2;cases h2;simp at hv;subst hv;exact ⟨x,rfl,hx⟩
theorem Om (w:World)(q:Nat):Rest w (w.drewN q):=⟨rfl,rfl,rfl⟩
theorem R3 {φ:Ph}{w:World}(hi:iA φ w){b:Nat}(hb:w.heap.size<=b)(off:Nat):φ b off=none:=by
 cases hp:φ b off with
 |none=>rfl
 |some u=>have:=OF w _ (hi _ _ _ hp);simp at this;omega
theorem Vo (L:ad0 P ρ)(acJ:(P.info? (ρ.t 116)).map (λi=>(i.zero,i.size))=some (some (.agg (aaa 256 (.bool false))),256))(hg:c.bQ (c.key (ρ.f 160))=false){ms:List MV}{r:MV}(h:MI ms=some r): cq P c (ρ.f 160) ms r:=by
 unfold MI at h;split at h
 ·rename_i a b;cases hb:(aaD 1 a.length&&aaD a.length (2^46))&&(aaD 2 b.length&&(aaD b.length 1000&&b.all λx=>decide (x.toNat<128))) with
  |false=>rw [hb] at h;cases h
  |true=>
   rw [hb] at h;simp only [cond_true,aQ] at h;subst h;simp only [IN] at hb;obtain ⟨⟨h1,h2⟩,h3,h4,h5⟩:=hb;have h1:=No h1;have h2:=No h2;have h3:=No h3;have h4:=No h4;intro φ w Z vs hz ha hi;obtain ⟨x,y,rfl,rfl,rfl⟩:=MJ hg ha;refine xY (abL L.f160 (by kernel_rfl) rfl) (Go.Proofs.Any.strings_Trim_set L (Go.zero_of_info acJ).1 (Go.zero_of_info acJ).2 x y w (by rw [abF];exact h3) (by rw [abF];omega) (by rw [abF];omega) (by rw [abF];omega) (Go.Proofs.ascii_of_all h5)) ?_;rintro e w' ⟨rfl,q,rfl⟩;refine ⟨_,rfl,φ,?_,?_,?_⟩
   ·have g1:=bX.alloc w (abn y.data.toList) (ρ.t 116);have g2:=bX.alloc (w.alloc (.cells (abn y.data.toList) (ρ.t 116))) (abn y.data.toList) (ρ.t 116);have g:=g1.trans' g2;exact ⟨.refl φ,λb _ hl=>g.ln b hl,λ_ _ _=>rfl,g.size,g.rest.trans (Om _ q)⟩
   ·intro b o v hv;have g1:=bX.alloc w (abn y.data.toList) (ρ.t 116);have g2:=bX.alloc (w.alloc (.cells (abn y.data.toList) (ρ.t 116))) (abn y.data.toList) (ρ.t 116);exact (g1.trans' g2).cell (hi b o v hv)
   ·exact ⟨rfl,by have:=dI.s (key:=c.key) (φ:=φ) (⟨(Lib.trimS x.data.toList y.data.toList).toArray⟩:ByteArray);simpa using this⟩
 ·cases h
theorem Le (L:ad1 P ρ)(hg:c.bQ (c.key (ρ.f 151))=false){ms:List MV}{r:MV}(h:wD ms=some r):cq P c (ρ.f 151) ms r:=by
 unfold wD at h;split at h
 ·rename_i a n;cases hb:decide (0<=n/\n<128) with
  |false=>rw [hb] at h;cases h
  |true=>rw [hb] at h;simp only [cond_true,aQ] at h;subst h;obtain ⟨h1,h2⟩:=of_decide_eq_true hb;intro φ w Z vs hz ha hi;obtain ⟨x,rfl,rfl⟩:=Vn hg ha;refine xY (abL L.f151 (by kernel_rfl) rfl) (ab8 L x n w h1 h2) ?_;rintro e w' ⟨rfl,rfl⟩;exact ⟨_,rfl,φ,.refl _ _ _,hi,rfl,.b _⟩
 ·cases h
open Go.Proofs Go.Shelf Go.RowKit in
theorem On (L:acP P ρ)(hi9:(P.info? (ρ.t 9)).map (λi=>(i.zero,i.size,i.bytes))=some (some (.string abH),1,16))(s:ByteArray)(b:UInt8)(w:World)(hs:s.size<4294967281): Calls P (ρ.f 146) #[.string s,.string ⟨#[b]⟩] w λe w'=>
  e= .returned (.slice (some ⟨w.heap.size,0,none⟩) (aaj s ⟨#[b]⟩+1) (aaj s ⟨#[b]⟩+1))/\w'=w.alloc (.cells ((abY ⟨#[b]⟩ 0 (aaj s ⟨#[b]⟩) s).map abV).toArray (ρ.t 9)):=by
 have h1:1<=(⟨#[b]⟩:ByteArray).size:=IT _;have hle:=Lib.countB_le ⟨#[b]⟩ h1 s.size s (IT _);have hlen:=Lib.splitB_all ⟨#[b]⟩ h1 0 _ s rfl;have hC:Calls P (ρ.f 138) #[.string s,.string ⟨#[b]⟩] w λe w'=>e= .returned (.int .i64 (aaj s ⟨#[b]⟩))/\w'=w:=by
  refine (Any.strings_Count_one {L with} s b w).mono λe w' ⟨he,hw⟩=>⟨?_,hw⟩
  rw [he];show _=Ending.returned (aaf .i64 ((Lib.count s.data.toList [b]:Nat):Int));rw [Lib.count_one];rfl
 have c:=Any.strings_genSplit_core {L with} hi9 s ⟨#[b]⟩ 0 (-1) (aaj s ⟨#[b]⟩+1) w hs h1 (aaN _) (λx q hx=>(Any.strings_Index_one {L with} x b _).mono λe w' ⟨he,hw⟩=>⟨by rw [he];show _=Ending.returned (aaf .i64 (aat x.data.toList [b]));rw [Lib.index_one],hw⟩) hC (by decide) (by decide) (by rw [if_pos (by decide)];omega);rw [Nat.add_sub_cancel,hlen] at c;have e2:Lib.cellsOf (abY ⟨#[b]⟩ 0 (aaj s ⟨#[b]⟩) s) (aaj s ⟨#[b]⟩+1)=((abY ⟨#[b]⟩ 0 (aaj s ⟨#[b]⟩) s).map abV).toArray:=by rw [<-hlen];exact Lib.cellsOf_full _
 rw [e2] at c;clear hC hlen hle e2;have t3:=L.t3;have t9:=L.t9;have t31:=L.t31;have a3:=L.a3;have a9:=L.a9;have a31:=L.a31;have z3:=L.z3;have v3:=L.v3;have z9:=L.z9;have v9:=L.v9;have z31:=L.z31;have v31:=L.v31;have akO: ∀args w,(callFunc (ρ.f 221) args).run P w= .ok (.enter (ρ.f 221) args) w:=enters_of L.f221 (by kernel_rfl) rfl;go_enter L.f146,Body.n146_ntmps ρ;go_wp2_with (go_at_fn (ρ.f 221);refine c.mono ?_;rintro e w' ⟨rfl,hw⟩;rw [hw]);go_ret;exact ⟨rfl,rfl⟩
theorem BO {key:Nat->Nat} {φ:Ph}: ∀l:List ByteArray,aB key φ 1 (l.map abV) (l.map λb=>MV.s b.data.toList)
 |[]=>rfl
 |b::l=>⟨[.string b],_,rfl,rfl,.s b,BO l⟩
theorem R4 {I:TI}(L:acP P ρ)(hi9:(P.info? (ρ.t 9)).map (λi=>(i.zero,i.size,i.bytes))=some (some (.string abH),1,16))(hg:c.bQ (c.key (ρ.f 146))=false)(dU:c.ga (c.key (ρ.f 146))=ρ.t 9)(hI:c.tv (ρ.t 9)=some I)(DE:I.size=1){ms:List MV}{r:MV}(h:G6 ms=some r):cq P c (ρ.f 146) ms r:=by
 unfold G6 at h;split at h
 ·rename_i a b;cases hb:aaD a.length 4294967280 with
  |false=>rw [hb] at h;cases h
  |true=>
   rw [hb] at h;simp only [cond_true,aQ] at h;subst h;have hb:=No hb;intro φ w Z vs hz ha hi;obtain ⟨x,y,rfl,rfl,hy⟩:=MJ hg ha;have hy':y=⟨#[b]⟩:=by
    cases y with
    |mk d=>congr 1;apply adF.1;exact hy
   subst hy';have hs:x.size<4294967281:=by rw [abF];omega
   refine xY (abL L.f146 (by kernel_rfl) rfl) (On L hi9 x b w hs) ?_;rintro e w' ⟨rfl,rfl⟩;have h1:1<=(⟨#[b]⟩:ByteArray).size:=IT _;have hle:=Lib.countB_le ⟨#[b]⟩ h1 x.size x (IT _);have hlen:=Lib.splitB_all ⟨#[b]⟩ h1 0 _ x rfl;have ek:=Ol b x;have g1:=bX.alloc w ((abY ⟨#[b]⟩ 0 (aaj x ⟨#[b]⟩) x).map abV).toArray (ρ.t 9);obtain ⟨fH,hc⟩:=aD hI;refine ⟨_,rfl,φ,g1.trans (Z:=aO.plain Z) hz φ,λb' o v hv=>g1.cell (hi b' o v hv),?_⟩;show bw _ _ _ _ _ ⟨c.ga (c.key (ρ.f 146)),false,_⟩;rw [dU];generalize hpc:abY ⟨#[b]⟩ 0 (aaj x ⟨#[b]⟩) x=pcs at *;rw [<-ek,adY];refine ⟨I,pcs.map abV,fH,hc,?_,by rw [DE];exact BO pcs,?_⟩
   ·rw [DE];refine ⟨by simp,.inr ⟨w.heap.size,aaj x ⟨#[b]⟩+1,_,by simp [hlen],aaN _,dm w _,by simp [hlen],by unfold Go.maxLen;rw [abF] at hle;omega,by simp [hlen],?_⟩⟩;simp [abh]
   ·intro aA et;simp [aai] at et;subst et;exact ⟨hz _ (IT _),λoff u hu=>(by have hu:φ w.heap.size off=some u:=hu;rw [R3 hi (IT _)] at hu;cases hu),λhc=>False.elim hc⟩
 ·cases h
end
end Dn
/-
  One function that is handed a variable in two ways. Conditions: none.
-/
namespace Dn
open Go
abbrev Vp (n:Nat)(g:Nat->List MV->Option MV):Nat->List MV->Option MV:=λk ms=>match abv k n with|true=>none|false=>g k ms
structure y7 (k0:Nat) (c c':Ctx):Prop where
 ti:c'.ti=c.ti
 key:c'.key=c.key
 bQ:c'.bQ=c.bQ
 fresh:c'.fresh=c.fresh
 ga:c'.ga=c.ga
 sig: ∀k,k≠k0->c'.sig k=c.sig k
theorem dy.uP {k0:Nat} {c c':Ctx}(h:y7 k0 c c'){Z:Nat->Prop} {φ:Ph}{w:World}{k:Nat}{v:Value}{r:MV}(hs:dy c Z φ w k v r):dy c' Z φ w k v r:=by
 cases r<;>simp only [dy,h.key,h.ga] at hs⊢ <;>first|exact hs|exact hs.ez h.ti|skip
 rename_i ms;cases ms with
 |nil=>simp only [AQ,h.key] at hs⊢;exact hs
 |cons m r=>
  cases m<;>simp only [AQ,h.key,h.ga] at hs⊢ <;>first|exact hs|skip
  obtain ⟨v0,us,h1,h2,h3⟩:=hs;exact ⟨v0,us,h1,h2.ez h.ti,h3⟩
theorem cN.uP {k0:Nat} {c c':Ctx}(h:y7 k0 c c'){Z:Nat->Prop} {φ:Ph}{w:World}{aA:Nat}{ks:List LK}{ls:List MV}(hs:cN c Z φ w aA ks ls):cN c' Z φ w aA ks ls:=by obtain ⟨cs,m,E,arr,T,h1,h2,h3,h4,h5,h6,h7⟩:=hs;refine ⟨cs,m,E,arr,T,h1,h2,h3,h4,by rw [h.key];exact h5,λf o ho=>⟨?_,(h6 f o ho).2⟩,h7⟩;rw [h.key];exact (h6 f o ho).1.ez h.ti
theorem mf.uP {k0:Nat} {c c':Ctx}(h:y7 k0 c c'){Z:Nat->Prop} {φ:Ph}{w:World}{k:Nat}(hk:k≠k0){vs:List Value}{v:Value}{r:MV}(hs:mf c Z φ w k vs v r):mf c' Z φ w k vs v r:=by
 cases r<;>simp only [mf] at hs⊢ <;>first|exact hs.uP h|skip
 obtain ⟨h1,pos,ks,ko,aA,off,h2,h3,h4⟩:=hs;exact ⟨h1.uP h,pos,ks,ko,aA,off,by rw [h.sig k hk];exact h2,h3,h4.uP h⟩
theorem bO.uP {k0:Nat} {c c':Ctx}(h:y7 k0 c c'){Z:Nat->Prop} {φ:Ph}{w:World}{k:Nat}(hk:k≠k0){vs:List Value}{ms:List MV}(hs:bO c' Z φ w k vs ms):bO c Z φ w k vs ms:=by
 unfold bO at hs⊢;rw [h.bQ] at hs;split
 ·rename_i hg;rw [if_pos hg] at hs;rcases hs with ⟨v0,v1,v2,xs,m1,ys,h1,h2,h3,h4,h5,h6⟩|⟨v0,v1,v2,xs,m1,m2,h1,h2,h3,h4,h5,h6⟩|⟨pos,ks,ko,off,ls,aA,h1,h2,h3,h4,h5⟩
  ·rw [h.key,h.ga] at h3 h5;rw [h.key] at h4;exact .inl ⟨v0,v1,v2,xs,m1,ys,h1,h2,h3.ez h.ti.symm,h4,h5.ez h.ti.symm,h6⟩
  ·rw [h.key,h.ga] at h4;rw [h.key] at h5 h6;exact .inr (.inl ⟨v0,v1,v2,xs,m1,m2,h1,h2,h3,h4.ez h.ti.symm,h5,h6⟩)
  ·refine .inr (.inr ⟨pos,ks,ko,off,ls,aA,by rw [<-h.sig k hk];exact h1,h2,h3,by rw [<-h.key];exact h4,?_⟩);obtain ⟨cs,m,E,arr,T,k1,k2,k3,k4,k5,k6,k7⟩:=h5;refine ⟨cs,m,E,arr,T,k1,k2,k3,k4,by rw [<-h.key];exact k5,λf o ho=>⟨?_,(k6 f o ho).2⟩,k7⟩;rw [<-h.key];exact (k6 f o ho).1.ez h.ti.symm
 ·rename_i hg;rw [if_neg hg,h.key] at hs;exact hs
theorem cq.uP {P:Program}{k0:Nat} {c c':Ctx}{f:Nat}{ms:List MV}{r:MV}(h:y7 k0 c c')(hk:c.key f≠k0)(hs:cq P c f ms r):cq P c' f ms r:=by intro φ w Z vs hz ha hi;rw [h.key] at ha;refine (hs φ w Z vs hz (ha.uP h hk) hi).mono ?_;rintro v w' ⟨φ',h1,h2,h3⟩;rw [h.key];exact ⟨φ',h1,h2,h3.uP h hk⟩
theorem cA.alt {P:Program}{k0:Nat} {c c':Ctx}{g:Nat->List MV->Option MV}(h:cA P c g)(hl:y7 k0 c c'):cA P c' (Vp k0 g):=by
 refine ⟨λf ms r hr=> ?_⟩;rw [hl.key] at hr;unfold Vp at hr;cases hk:abv (c.key f) k0 with
 |true=>simp only [hk] at hr;cases hr
 |false=>simp only [hk] at hr;refine (h.all f ms r hr).uP hl (λhe=> ?_);rw [he,Nat.beq_refl] at hk;cases hk
end Dn
/-
  Going through a map, in whatever order; a label at the end of a scope. Conditions: none.
-/
namespace Dn
open Go
structure Rng where
 i1:Nat
 o1:Array Oper
 a1:Oper
 b1:Oper
 x:Operand
 d1:Nat
 t:Nat
 d2:Nat
 k:Nat
 i2:Nat
 o2:Array Oper
 a2:Oper
 r2:List Oper
 cx:Operand
 kx:Nat
 k5:Nat
 i3:Nat
 o3:Array Oper
 a3:Oper
 r3:List Oper
 rest:Code
def Rng.body (q:Rng):Code:= .seq (.region q.i2 q.o2 false) (.seq (.cond q.cx .skip (.exit q.kx)) (.block q.k5 (.seq (.region q.i3 q.o3 false) q.rest)))
def Rng.code (q:Rng):Code:= .seq (.region q.i1 q.o1 false) (.block q.k (.loop q.body))
def isNone {α:Type}:Option α->Bool
 |none=>true
 |some _=>false
section
variable {P:Program}{c:Ctx}{Z Zb Zi:aO} {e e' e3:Env}{st bm jm B:St} {a a':Act} {w w':World}{R:Type}{r:R}{Q:Exit->Act->World->Prop}{o:Oper}{hn:eY}
end
end Dn
/-
  Going through a map, in whatever order: it does what is said. Conditions: none.
-/
namespace Dn
open Go
section
variable {P:Program}{c:Ctx}{Z Zb Zi:aO} {e e' e3:Env}{st bm jm B:St} {a a':Act} {w w':World}{R:Type}{r:R}{Q:Exit->Act->World->Prop}{o:Oper}{hn:eY}
def aO.wd (Z:aO)(g:Nat):aO:={Z with In:=λb=>Z.In b\/b=g}
theorem Lf {g:Nat}{m:Option Nat}{s:Nat}{seen:Array Nat}{k:Nat}(h:bg c Z e st a w)(hg:w.heap[g]? =some (.mapIter m s seen k)): (∀t cs,ah st.fr t= .box cs->e.B t≠g)/\(∀f o,ar st.az f=some o->(e.E f).ownBlock≠some g):=by
 refine ⟨λt cs ht he=> ?_,λf o ho he=> ?_⟩
 ·have hs:=h.slot t;rw [ht] at hs;obtain ⟨ob,h1,h2⟩:=hs.2.obj;rw [he,hg] at h1;cases h1;exact h2.elim
 ·obtain ⟨I,cells,_,_,h3,_⟩:=(h.dV f o ho).row;rcases h3.2 with ⟨h1,_⟩|⟨g',cap,bU,h1,_,h2,_⟩
  ·rw [h1] at he;cases he
  ·rw [h1] at he;simp only [aai,aQ] at he;subst he;rw [hg] at h2;cases h2
theorem oQ.wide {g:Nat}{m:Option Nat}{s:Nat}{seen:Array Nat}{k:Nat}(j:oQ c Zb Zi e B hn a w)(hz:Zb.In g)(hg:w.heap[g]? =some (.mapIter m s seen k)):oQ c Zb (Zi.wd g) e B hn a w:=by obtain ⟨h1,h2⟩:=Lf j.mg hg;exact ⟨j.mg,λb hb=>hb.elim (j.sub b) (λhe=>by rw [he];exact hz),λb hb=> .inl (j.new b hb),j.bI,j.T,j.keys,λt cs ht hz=>hz.elim (j.box t cs ht) (h1 t cs ht),λf o b ho hb hz=>hz.elim (j.dV f o b ho hb) (λhe=>h2 f o ho (by rw [hb,he])),j.Yh,j.Ur,j.ptr,j.Tp⟩
end
end Dn
/-
  A function's body in which a map is gone through, or a label stands. Conditions: none.
-/
namespace Dn
open Go
section
variable {P:Program}{c:Ctx}{R:Type} [vJ R]{r:R}
end
theorem MK {A B:Type}{g:B->A}{p q:Prop}[Decidable p][Decidable q]{X:Option A} {X':Option B}(e:p↔q)(h1:Sm g X X'):Sm g (aY (decide p) X) (if q then X' else none):=by
 by_cases hp:p
 ·rw [if_pos (e.1 hp),decide_eq_true hp];exact h1
 ·rw [if_neg (λh=>hp (e.2 h)),decide_eq_false hp];rfl
theorem Y0 {A B:Type}{g:B->A}{T:Option B}{x:List MV}{K:List MV->Option A}(h:Sm g (K x) T):Sm g (ZO (.clip x) K) T:=h
@[reducible] def acK {α : Type}(f : α -> MV)(l : List α) : MV := .clip (l.map f)
end Dn
/-
  Reasoning about functions on typed values. Conditions: none.
-/
namespace Dn
open Go
section
variable {α R:Type}
theorem dQ {l:List α}{k:Nat}(h:k<l.length)(K:α->Option R):ix l (k:Int) K=K l[k]:=by simp [ix,h]
theorem Ap {l:List α}(h:0<l.length)(K:α->Option R):ix l 0 K=K l[0]:=by simp [ix,h]
@[simp] theorem adh {A : Type}(x : Option A) : bd x (λa => some a) = x := by cases x <;> rfl
end
def cm {A:Type}(x:Option A)(Q:A->Prop):Prop:= ∃a,x=some a/\Q a
section
variable {A B α σ ρ:Type}
theorem cm.mk {a:A}{Q:A->Prop}(h:Q a):cm (some a) Q:=⟨a,rfl,h⟩
theorem cm.of {x:Option A}{a:A}{Q:A->Prop}(e:x=some a)(h:Q a):cm x Q:=⟨a,e,h⟩
theorem cm.bd {x:Option A}{K:A->Option B}{P:A->Prop}{Q:B->Prop}(h:cm x P)(hk: ∀a,P a->cm (K a) Q):cm (bd x K) Q:=by obtain ⟨a,rfl,hp⟩:=h;exact hk a hp
theorem cm.imp {x:Option A}{P Q:A->Prop}(h:cm x P)(KN: ∀a,P a->Q a):cm x Q:=by obtain ⟨a,e,hp⟩:=h;exact ⟨a,e,KN a hp⟩
theorem cm.ix {l:List α}{k:Nat}{K:α->Option A}{Q:A->Prop}(h:k<l.length)(hk:cm (K l[k]) Q):cm (ix l (k:Int) K) Q:=by rw [dQ h];exact hk
theorem cm.eq {x:Option A}{a:A}(h:cm x (· =a)):x=some a:=by obtain ⟨b,e,rfl⟩:=h;exact e
variable {body:σ->Option (Sum σ ρ)}
theorem cm.loop (I:σ->Prop) (μ:σ->Nat){Q:ρ->Prop}{s:σ}(hs:I s)(h: ∀s,I s->cm (body s) λx=>match x with| .inl s'=>I s'/\μ s'<μ s| .inr r=>Q r):cm (Loop body s) Q:=by
 refine RY I μ Q (λs hs=> ?_) hs;obtain ⟨x,e,hx⟩:=h s hs;cases x with
 |inl s'=>exact .inl ⟨s',e,hx⟩
 |inr r=>exact .inr ⟨r,e,hx⟩
theorem cm.count (S:Nat->σ)(n:Nat){Q:ρ->Prop}(P:Nat->Prop){s:σ}(e:s=S 0)(h0:P 0)(h: ∀k,k<n->P k->cm (body (S k)) λx=>match x with| .inl s'=>s'=S (k+1)/\P (k+1)| .inr r=>Q r)(he:P n->cm (body (S n)) λx=>match x with| .inl _=>False| .inr r=>Q r):cm (Loop body s) Q:=by
 subst e;refine RZ S n Q P h0 (λk hk hp=> ?_) (λhp=> ?_)
 ·obtain ⟨x,e,hx⟩:=h k hk hp;cases x with
  |inl s'=>obtain ⟨rfl,hx⟩:=hx;exact .inl ⟨e,hx⟩
  |inr r=>exact .inr ⟨r,e,hx⟩
 ·obtain ⟨x,e,hx⟩:=he hp;cases x with
  |inl s'=>exact hx.elim
  |inr r=>exact ⟨r,e,hx⟩
end
theorem wrap64 {x:Int}(h1: -9223372036854775808<=x)(h2:x<=9223372036854775807):adX .i64 x=x:=cr h1 h2
end Dn
/-
  Functions of the library, on typed values. Conditions: none.
-/
namespace Dn
open Go
def Xp {α:Type}(key:α->Int)(L:List α)(s:Int):Nat:=L.countP (λe=>decide (key e<s))
def adj {α:Type}(key:α->Int)(L:List α)(s:Int):Bool:=L.any λe=>decide (key e=s)
def El {α:Type}(key:α->Int)(L:List α):Prop:=L.Pairwise λa b=>key a<key b
section
variable {α τ:Type}{key:α->Int}
theorem Zv {L:List α}{s:Int}{p:Nat}(hp:p<=L.length)(h1: ∀k (hk:k<L.length),k<p->key L[k]<s)(h2: ∀k (hk:k<L.length),p<=k->s<=key L[k]):Xp key L s=p:=by
 have h3:(L.take p).countP (λe=>decide (key e<s))=(L.take p).length:=by
  rw [List.countP_eq_length];intro a ha;obtain ⟨k,hk,rfl⟩:=abG.1 ha;have LY:k<p:=by rw [AS] at hk;omega
  rw [List.getElem_take];exact decide_eq_true (h1 k (by omega) LY)
 have h4:(L.drop p).countP (λe=>decide (key e<s))=0:=by rw [List.countP_eq_zero];intro a ha;obtain ⟨k,hk,rfl⟩:=abG.1 ha;rw [aag] at hk;rw [List.getElem_drop];have:=h2 (p+k) (by omega) (by omega);simp;omega
 have h5:Xp key L s=(L.take p++L.drop p).countP (λe=>decide (key e<s)):=by rw [ab5];rfl
 rw [h5,List.countP_append,h3,h4,AS];omega
theorem El.lt {L:List α}(hs:El key L){i j:Nat}(hj:j<L.length)(h:i<j):key (L[i]'(by omega))<key L[j]:=List.pairwise_iff_getElem.1 hs i j (by omega) hj h
theorem El.le {L:List α}(hs:El key L){i j:Nat}(hj:j<L.length)(h:i<=j):key (L[i]'(by omega))<=key L[j]:=by
 rcases Nat.lt_or_eq_of_le h with h|h
 ·exact Int.le_of_lt (hs.lt hj h)
 ·subst h;exact Int.le_refl _
theorem El.lb {L:List α}(hs:El key L)(s:Int):(∀k (hk:k<L.length),k<Xp key L s->key L[k]<s)/\(∀k (hk:k<L.length),Xp key L s<=k->s<=key L[k]):=by
 have: ∃p,p<=L.length/\(∀k (hk:k<L.length),k<p->key L[k]<s)/\(∀k (hk:k<L.length),p<=k->s<=key L[k]):=by
  induction L with
  |nil=>exact ⟨0,IT _,λk hk=>by simp at hk,λk hk=>by simp at hk⟩
  |cons a l ih=>
   have oq:=List.pairwise_cons.1 hs;by_cases ha:key a<s
   ·obtain ⟨p,h1,h2,h3⟩:=ih oq.2;refine ⟨p+1,by simp;omega,λk hk hkp=> ?_,λk hk hkp=> ?_⟩
    ·cases k with
     |zero=>exact ha
     |succ k=>exact h2 k (by simpa using hk) (by omega)
    ·cases k with
     |zero=>omega
     |succ k=>exact h3 k (by simpa using hk) (by omega)
   ·refine ⟨0,aaN _,λk hk hkp=>by omega,λk hk _=> ?_⟩;cases k with
    |zero=>simp;omega
    |succ k=>have:=oq.1 (l[k]'(by simpa using hk)) (aaU _);simp only [List.getElem_cons_succ];omega
 obtain ⟨p,h1,h2,h3⟩:=this;rw [Zv h1 h2 h3];exact ⟨h2,h3⟩
theorem El.has {L:List α}(hs:El key L)(s:Int):adj key L s=true↔ ∃h:Xp key L s<L.length,key L[Xp key L s]=s:=by
 obtain ⟨h1,h2⟩:=hs.lb s;unfold adj;rw [adE];constructor
 ·rintro ⟨x,hx,he⟩;obtain ⟨k,hk,rfl⟩:=abG.1 hx;have he:key L[k]=s:=by simpa using he
  have Nw:Xp key L s<=k:=by refine Nat.le_of_not_lt λcz=> ?_;have:=h1 k hk cz;omega
  have hl:Xp key L s<L.length:=by omega
  refine ⟨hl,?_⟩;have:=h2 _ hl (IT _);have:=hs.le hk Nw;omega
 ·rintro ⟨h,he⟩;exact ⟨_,aaU h,decide_eq_true he⟩
end
section
variable {α ρ:Type}
end
end Dn
/-
  Maps as lists of entries: what is there behind a store. Conditions: none.
-/
namespace Dn
open Go
end Dn
/-
  A state in which variables of packages have given data. Conditions: none.
-/
namespace Dn
open Go
def cellsD:Nat->DataW Unit->List Value
 |n+1,.agg ds=>ds.flatMap (cellsD n)
 |_,.lit (.int k v)=>[.int k v]
 |_,_=>[]
def O6 (cs:Array Value):Obj->Obj
 | .cells _ t z=> .cells cs t z
 |o=>o
def Dp (P:Program):List (String×DataW Unit)->Array Obj->Array Obj
 |[],h=>h
 |x::r,h=>match P.globalNamed x.1 with
  |some g=>Dp P r (h.modify g (O6 (cellsD 4 x.2).toArray))
  |none=>Dp P r h
noncomputable def adA (P:Program)(l:List (String×DataW Unit))(os:Os)(args:Array Value):World:={World.holding P os ⟨#[],args,[]⟩ with heap:=Dp P l (World.holding P os ⟨#[],args,[]⟩).heap}
theorem JQ {a b:Bool}(h1:a=true)(h2:b=true):(a&&b)=true:=by rw [h1,h2];rfl
def uC:List Char:=[99,117,116].map adO
theorem adB:(uC== "gc".toList)=false:=by kernel_rfl
theorem V9:(uC== "spec".toList)=false:=by kernel_rfl
theorem ZN:(uC== "cut".toList)=true:=by kernel_rfl
theorem LH:(uC== "carried".toList)=false:=by kernel_rfl
section
variable {P:Program}{L:List (List Char)}{ns:List Nat}
theorem FV (h:P.initOrder=String.ofList (ns.map adO)):P.initOrder.toList=ns.map adO:=by rw [h,String.toList_ofList]
theorem Wd {h s:List Char}(e:wordsSigns P.initOrder.toList=h::s::L)(h1:isSumSigns s=true)(h2:(h== "harness".toList)=true):P.mainIs=some (true,s):=by unfold Program.mainIs;rw [e];simp only [h1,h2,adR,AI,if_false,if_true]
theorem We (e:behindMainWord (wordsSigns P.initOrder.toList)=uC::L):P.make=some .cut:=by unfold Program.make;rw [e];simp only [adB,V9,ZN,Bool.or_false,AI,if_false,Bool.true_or,if_true]
theorem SW (e:behindMainWord (wordsSigns P.initOrder.toList)=uC::L)(h1:(stripLifts liftWords (uC::L)).1=[])(h2:((stripLifts liftWords (uC::L)).2.head? ==some "cut".toList)=true)
 (h3:P.doorFits []=true) (h4:P.laysLater=false) (h5:P.bearsReflect=false):P.mayEnter=true:=by
 unfold Program.mayEnter;rw [e];simp only [h1,h2,h3,h4,h5,List.contains_nil,ac6,acA,Bool.true_and,Bool.and_true,Bool.or_true]
theorem Tf (e:behindMainWord (wordsSigns P.initOrder.toList)=uC::L)(h1:(stripLifts liftWords (uC::L)).1=[]):P.liftsFinal=false:=by
 unfold Program.liftsFinal Program.headLifts;rw [e]
 have h0:((uC::L).head? ==some "carried".toList)=false:=by simp only [List.head?_cons];have:=LH;simpa using this
 simp only [h0,h1,Bool.false_and,ac6];split<;>rfl
theorem Wf {c:OpenClaim}(h:P.make=some .cut)(hc:c.make= .cut):(P.make==some c.make)=true:=by rw [h,hc];rfl
theorem Tg {c:OpenClaim}(h:P.liftsFinal=false)(hc:c.lifted=false):(c.lifted==P.liftsFinal)=true:=by rw [h,hc];rfl
end
end Dn
