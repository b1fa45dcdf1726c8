import Derived.Test.YtbkodohojpchjaaGreatDoorDnB
import Derived.Laws.CopyRow
import Derived.Lib.AppendZerosOnto
import Derived.Lib.Overlaps
import Derived.Laws.Externs
import Derived.Control
/- How code runs. Conditions: none. -/
set_option linter.unusedSimpArgs false
set_option linter.unusedVariables false
set_option linter.constructorNameAsVariable false
open Bool renaming and_eq_true→bN,false_eq_true→IT,not_eq_true'→OF,or_eq_false_iff→adg,and_true→afk,or_eq_true→afw,not_true→agc,eq_iff_iff→agF,false_or→ahG,true_and→ahS,not_eq_false'→ah8
open Nat renaming eq_of_beq_eq_true→sh,beq→No,le_of_ble_eq_true→abP,le_refl→abU,mul_le_mul_right→abY,min_eq_left→ac9,add_mul→adk,le_trans→adr,zero_le→adG,ble→afe,sub_mul→afr,zero_add→afz,add_comm→agE,ble_eq_true_of_le→agS,min_def→ahm,lt_of_lt_of_le→ah9,succ_mul→aiB,add_zero→aiE
open List renaming range→AI,mem_cons→By,length_append→BY,length_take→aaG,all_eq_true→abK,take_append_of_le_length→abM,length_drop→abN,length_cons→abO,size_toArray→abQ,getElem?_append_right→abR,mem_map→abS,take_of_length_le→abT,mem_append→abZ,getElem?_eq_some_iff→ab0,cons_append→ab1,getElem?_eq_getElem→ab6,take_append_drop→acv,nil_append→acC,nodup_cons→acO,forall_mem_cons→acX,drop_eq_nil_of_le→acY,getElem?_eq_none→ada,append_assoc→ade,drop_drop→adf,map_append→adw,getElem?_cons_succ→adX,flatMap_cons→aem,map_cons→afj,mem_of_getElem?→afm,mem_cons_of_mem→afq,replicate→afM,mem_singleton→afP,getElem?_drop→afX,getElem?_append_left→agb,any_eq_true→ago,sublist_cons_self→agz,mem_of_mem_drop→ahd,take_take→ahs,getElem?_range→ahD,getElem?_take→aib,nodup_append→aie,take_add_one→aif,ext_getElem?→aih,getElem?_map→aii,getElem_mem→aij,take_append→ail,take_length→ain,mem_range'→aiq,append_nil→air,range_add→ait,take_left→aiu,drop_left→aiv,range'→aiF
open Option.some renaming injEq→AS,inj→aiH
open Go.Region renaming ready→AT,wanted→aaW,binds→adn,noSelect→afy
open Array renaming replicate→IN,length_toList→abL,getElem?_append→abW,getD_eq_getD_getElem?→ab8,toList_inj→aci,getElem?_eq_some_iff→aco,getElem?_toList→ae6,setIfInBounds_comm→agd,getElem?_replicate→agf,toList_map→agp,getElem?_modify→agT,size_append→aid
open Go.Region.linearise renaming go→aa6
open Go.Builtin renaming zeroCells→abV,copy_→ach,append_→acU,clear_→ae5,firstCells→aia
open Go.Act renaming put_comm→abX
open Prod.mk renaming injEq→ab2
open Go.World renaming block_lt_of_cell?→ab7,setRow→ac5,cell?_of_block→adh
open Go.Value renaming bool→acu,pointer→adv,ownBlock→aeW,cells→aio,int→aix,okWide→aiA
open List.cons renaming injEq→acw
open Go.Addr renaming add_mid→ac3
open Go.Result renaming andThen_ok→adb,ok→aiz
open Go.Oper renaming upon_value→adx,wp→afA,wp_mono→afB,upon→afF,apart_spec→agN
open Go.Sem renaming run_bind→aec,run_pure→aiC
open Go.Instr renaming sliceBounds→ae3,sliceBound→afc,sliceAt→agn,checkKey→agX,slice→ahc,sameNow→ah7
open Go renaming sizeOf→ae7,binOp→agr,part→ais
open Go.Deferred renaming ofValue→ae8
open Option renaming map_some→afx
open List.Sublist renaming append_left→age
open Go.Op renaming equalIn→ags,equal→aic,intCmp→aiy
open Go.Code renaming wp_mono→agA,region→aip
open Go.ByteArray renaming toList_eq→aht
open Int renaming toNat_of_nonneg→ahE
open Go.IntKind renaming wrap_i64→aik
open Go.Extern.SlicesOverlaps renaming overlaps→aim
open Go.Next renaming value→aiw
open Ne renaming symm→aiD
open Go.Value.pointer renaming injEq→aiG
namespace Dn
open Go Go.WideShapes Go.ChangeShapes Go.RowKit
section
variable {H:Type}{enc:TypeId×Value->H}{P:Program} {W W':World}{c:Ctx}
theorem BF (hl:laidOutB P=true)(hb:Below W.heap.size W W'): ∀{ts:List TypeId} {vs:List Value} {ds:List (DataW H)} {ps:List MemPlace},(∀t∈ts,P.readableRec t=true/\t<P.types.size)-> DataW.TrodAll enc P W 0 (λ_=>true) true ts vs ds ps->(∀x∈ps,x.block<W.heap.size)->DataW.TrodAll enc P W' 0 (λb=>decide (b<W.heap.size)) true ts vs ds ps
 |[],[],[],_,_,h,_=>h
 |t::ts,v::vs,d::ds,_,ht,⟨p,q,h1,h2,e⟩,hs=>⟨p,q,Below.trod hl (ht t (by simp)).1 (ht t (by simp)).2 h1 hb (λx hx=>hs x (by rw [e];exact List.mem_append_left _ hx)),BF hl hb (λu hu=>ht u (by simp [hu])) h2 (λx hx=>hs x (by rw [e];exact List.mem_append_right _ hx)),e⟩
def C5 (P:Program):List TypeId->List MV->Prop
 |[],ms=>ms=[]
 |t::ts,ms=> ∃m r,ms=m::r/\(∃n,ME P (MT P n) t m)/\C5 P ts r
theorem LS {base:Nat}{sp:Nat->Bool}{held:Bool}{key:Nat->Nat}{r:Reach}{b0:Nat}: ∀{ts:List TypeId} {vs:List Value} {ds:List (DataW H)} {ps:List MemPlace},(∀t∈ts,∃D,okT P D t=true)-> (∀(j:Nat) t v,ts[j]? =some t->vs[j]? =some v->aiA P W r b0 t v)->DataW.TrodAll enc P W base sp held ts vs ds ps-> ∃ms,bg key (Em W) vs ms/\C5 P ts ms/\ds.length=ts.length
 |[],[],[],_,_,_,_=>⟨[],rfl,rfl,rfl⟩
 |t::ts,v::vs,d::ds,_,ht,hv,⟨p,q,h1,h2,e⟩=>by obtain ⟨D,hD⟩:=ht t (by simp);obtain ⟨m,n,r1,t1⟩:=Zl (key:=key) hD (hv 0 t v rfl rfl) h1;obtain ⟨ms,r2,t2,hl⟩:=LS (key:=key) (λu hu=>ht u (by simp [hu])) (λj u x hu hx=>hv (j+1) u x (by simpa using hu) (by simpa using hx)) h2;exact ⟨m::ms,⟨v,vs,rfl,r1,r2⟩,⟨m,ms,rfl,⟨n,t1⟩,t2⟩,by simp [hl]⟩
theorem VE {fn:Func}{f:FuncId}{s:ChangeSpec}{args:Array Value}{ds gs:List (DataW H)}{before:List MemPlace}{tb:TypeId}{base:Nat}(hf:P.funcs[f]? =some fn)(je:fn.body.isSome=true)(zV:(fn.name== "runtime.NumGoroutine")=false)
 (hl:laidOutB P=true) (acR: ∀t∈fn.params.toList,(∃D,okT P D t=true)/\P.readableRec t=true/\t<P.types.size) (pK:fn.resultTypes= #[tb]) (YX:P.underlying tb=some .bool) (hv:s.vars=[])
 (hfn: ∀ds:List (DataW H),ds.length=fn.params.toList.length->s.fn H ds={results:=[.lit (.bool true)],args:=ds})
 (Nz: ∀(j:Nat) t v,fn.params[j]? =some t->args[j]? =some v->aiA P W .any base t v)
 (hW:DataW.Whole enc P fn.params.toList s.vars false W args.toList ds gs before) (hg:c.dA (c.key f)=false)
 (yv: ∀ms,C5 P fn.params.toList ms->gh P c f ms (.b true)):
 Calls P f args W λe W'=> ∃v,e= .returned v/\s.post enc P fn false true false false W args v W':=by
 have hW':=hW;obtain ⟨p,q,hA,hV,rfl,hfz,hnd⟩:=hW;rw [hv] at hV;obtain ⟨rfl,rfl⟩:=trodVars_none hV;have cI: ∀x∈p,x.block<W.heap.size:=λx hx=>by simpa using hW'.lt x (by simp [hx])
 obtain ⟨ms,r1,t1,LU⟩:=LS (key:=c.key) (λt ht=>(acR t ht).1) (λj t v h1 h2=>Nz j t v (by simpa using h1) (by simpa using h2)) hA;have hc:=yv ms t1 (Em W) W (λb=>W.heap.size<=b) args.toList (λb hb=>hb) (by simp only [dS,hg,IT,if_false];exact r1) (Zh W);have bF:(callFunc f args).run P W= .ok (.enter f args) W:=by
  have Hi: ¬fn.name= "runtime.NumGoroutine" :=by simpa using zV
  cases hb:fn.body with
  |none=>rw [hb] at je;cases je
  |some b=>simp [callFunc,hf,Hi,hb]
 unfold dR at hc;rw [Array.toArray_toList,bF] at hc;refine hc.mono ?_;rintro x W' ⟨v,rfl,φ',ht,iQ,hr⟩;have hvb:v= .bool true:=by obtain ⟨_,hr⟩:=hr;generalize yt:[v]=vs at hr;cases hr;simpa using yt
 subst hvb;have Zm:Below W.heap.size W W':=⟨ht.rest.1,ht.rest.2.1,ht.rest.2.2,ht.size,λk hk=>ht.heap k (by omega) hk⟩
 have agP:=hfn (ds++[]) (by simpa using LU);refine ⟨_,rfl,ds,[],_,[],p,[],hW',?_,?_,?_,Zm.frame _,λh=>by cases h⟩
 ·rw [agP,pK];exact trodAll_mk1 (shut_bool YX _)
 ·rw [agP];simpa using BF hl Zm (λt ht=>(acR t ht).2) hA cI
 ·rw [agP,hv];rfl
end
theorem acS {α:Type}{f:α->MV}{Q:α->Prop}{R:MV->Prop}{xs:List MV}(h: ∀x,R x-> ∃y,x=f y/\Q y)(hx: ∀x∈xs,R x): ∃L:List α,xs=L.map f/\ ∀y∈L,Q y:=by
 induction xs with
 |nil=>exact ⟨[],rfl,by simp⟩
 |cons x xs ih=>obtain ⟨y,rfl,hq⟩:=h x (hx x (by simp));obtain ⟨L,rfl,hL⟩:=ih λz hz=>hx z (by simp [hz]);exact ⟨y::L,rfl,by simp only [By];rintro z (rfl|hz);exact hq;exact hL z hz⟩
theorem Zn {n:Int}(h:(Lit.int .i64 n).wf=true): -9223372036854775808<=n/\n<=9223372036854775807:=by simp only [Lit.wf,bN,decide_eq_true_eq] at h;exact h
end Dn
/-
  A program's type table, looked through. Conditions: none.
-/
namespace Dn
open Go
theorem Zo {a b:Kd}(h:kdB a b=true):a=b:=by cases a<;>cases b<;>simp [kdB,kB] at h<;>first|rfl|(subst h;rfl)
def lT:List Kd->Kd->Bool
 |[k],k'=>kdB k k'
 |_,_=>false
theorem ek {l:List Kd}{k:Kd}(h:lT l k=true):l=[k]:=by
 cases l with
 |nil=>simp [lT] at h
 |cons a l=>cases l with
  |nil=>simp only [lT] at h;rw [Zo h]
  |cons=>simp [lT] at h
def Fy:List Nat->List Nat->Bool
 |[],[]=>true
 |a::l,b::m=>No a b&&Fy l m
 |_,_=>false
theorem HK {l m:List Nat}(h:Fy l m=true):l=m:=by
 induction l generalizing m with
 |nil=>cases m<;>simp [Fy] at h;rfl
 |cons a l ih=>
  cases m with
  |nil=>simp [Fy] at h
  |cons b m=>simp only [Fy,bN] at h;rw [sh h.1,ih h.2]
def xy {α:Type}:List α->Bool
 |[]=>true
 |_=>false
theorem qp {α:Type}{l:List α}(h:xy l=true):l=[]:=by cases l<;>simp [xy] at h;rfl
def NL (ti:Nat->Option TI)(t:Nat):Bool:=match ti t with|some J=>xy J.ct&&afe 1 J.size|none=>false
theorem LV {ti:Nat->Option TI}{t:Nat}(h:NL ti t=true): ∃J,ti t=some J/\J.ct=[]/\0<J.size:=by
 unfold NL at h;cases hJ:ti t with
 |none=>simp [hJ] at h
 |some J=>simp only [hJ,bN] at h;exact ⟨J,rfl,qp h.1,abP h.2⟩
def HL:List Value->Nat->Bool
 |[],n=>No n 0
 | .int .u8 k::r,n+1=>decide (k=0)&&HL r n
 |_,_=>false
theorem PG {l:List Value}{n:Nat}(h:HL l n=true):l=afM n (.int .u8 0):=by
 induction l generalizing n with
 |nil=>have:=sh h;subst this;rfl
 |cons v l ih=>
  cases n with
  |zero=>cases v<;>simp [HL] at h
  |succ n=>
   unfold HL at h;split at h
   ·rename_i h1;simp at h1
   ·rename_i k _ _ h1 h2;simp only [acw] at h1;obtain ⟨rfl,rfl⟩:=h1;cases h2;simp only [bN,decide_eq_true_eq] at h;rw [h.1,ih h.2];rfl
   ·cases h
def Eo:List aE->aE->Bool
 |[.nil],.nil=>true
 |[.p (.b false)],.p (.b false)=>true
 |[.p (.i k n)],.p (.i k' m)=>kB k k'&&decide (n=m)
 |[.p (.s [])],.p (.s [])=>true
 |_,_=>false
theorem AQ {l:List aE}{x:aE}(h:Eo l x=true):l=[x]:=by
 unfold Eo at h;split at h<;>first|rfl|skip
 ·simp [kB] at h;rw [h.1,h.2]
 ·cases h
def Zp:List aE->Bool
 |[.hs x]=>decide (x=kM.zero)
 |_=>false
theorem Zq {l:List aE}(h:Zp l=true):l=[.hs kM.zero]:=by
 unfold Zp at h;split at h
 ·rw [of_decide_eq_true h]
 ·cases h
def Zr (ti:Nat->Option TI)(P:Program)(I:TI)(z:Option Value):TypeDesc->Bool
 | .struct fs=>I.st&&xy I.ct&&afe 1 I.size&&No (Gb I.lay) I.size&&Fy (fs.toList.map (·.offset)) I.yS&&Fy (fs.toList.map (·.type)) I.U1&& (fs.toList.all λf=>NL ti f.type)&&(match z with|some (.agg cs)=>uH I.zero cs.toList&&No cs.size I.size|_=>false)
 | .tuple ts=>Fy I.ct ts.toList&&!xy I.ct&&xy I.lay&&!I.st
 | .slice el=>!I.st&&xy I.ct&&No I.size 1&&No I.elem el&&NL ti el&&(match z with|some (.slice none 0 0)=>true|_=>false)&&Eo I.zero .nil&&lT I.lay .l
 | .array n el=>!I.st&&xy I.ct&&No I.size 32&&No n 32&&No I.elem el&&(match P.underlying el with|some (.int .u8)=>true|_=>false)&&(match P.info? el with|some i=>No i.size 1|none=>false)&& lT I.lay .h&&Zp I.zero&&(match z with|some (.agg cs)=>HL cs.toList 32|_=>false)
 | .bool=>!I.st&&xy I.ct&&No I.size 1&&lT I.lay .b&&Eo I.zero (.p (.b false))&&(match z with|some (.bool false)=>true|_=>false)
 | .int k=>!I.st&&xy I.ct&&No I.size 1&&lT I.lay (.i k)&&Eo I.zero (.p (.i k 0))&&(match z with|some (.int k' n)=>kB k' k&&decide (n=0)|_=>false)
 | .string=>!I.st&&xy I.ct&&No I.size 1&&lT I.lay .s&&Eo I.zero (.p (.s []))&&(match z with|some (.string b)=>xy b.data.toList|_=>false)
 |_=>!I.st&&xy I.ct&&No I.size 1&&lT I.lay .raw&&(match z with|some v=>v.oneCell'&&uH I.zero [v]|none=>false)
theorem Zs {ti:Nat->Option TI}{P:Program}{I:TI}{z:Option Value}{d:TypeDesc}(h:Zr ti P I z d=true):rT ti P I z d:=by
 cases d<;>simp only [Zr,bN,OF] at h<;>simp only [rT];case struct fs=>
  obtain ⟨⟨⟨⟨⟨⟨⟨h1,h2⟩,h3⟩,h4⟩,h5⟩,h6⟩,h7⟩,h8⟩:=h;refine ⟨h1,qp h2,⟨abP h3,sh h4⟩,HK h5,HK h6,λk f hk=> ?_,?_⟩
  ·exact LV (abK.1 h7 f (by
    have:fs.toList[k]? =some f:=by simpa using hk
    exact afm this))
  ·split at h8
   ·rename_i cs;simp only [bN] at h8;exact ⟨cs,rfl,h8.1,sh h8.2⟩
   ·cases h8
 case tuple ts=>obtain ⟨⟨⟨h1,h2⟩,h3⟩,h4⟩:=h;exact ⟨HK h1,λhe=>(by rw [he] at h2;simp [xy] at h2),qp h3,h4⟩
 case slice el=>
  obtain ⟨⟨⟨⟨⟨⟨⟨h1,h2⟩,h3⟩,h4⟩,h5⟩,h6⟩,h7⟩,h8⟩:=h;refine ⟨h1,qp h2,sh h3,sh h4,LV h5,?_,AQ h7,.l,ek h8,rfl⟩;split at h6
  ·rfl
  ·cases h6
 case array n el=>
  obtain ⟨⟨⟨⟨⟨⟨⟨⟨⟨h1,h2⟩,h3⟩,h4⟩,h5⟩,h6⟩,h7⟩,h8⟩,h9⟩,B9⟩:=h;refine ⟨h1,qp h2,sh h3,sh h4,sh h5,?_,ek h8,Zq h9,?_⟩
  ·split at h6
   ·rename_i hu;split at h7
    ·rename_i i hi;exact ⟨i,hu,hi,sh h7⟩
    ·cases h7
   ·cases h6
  ·split at B9
   ·rename_i cs;have:=PG B9;congr 1;congr 1;apply aci.1;rw [this];rfl
   ·cases B9
 case bool=>
  obtain ⟨⟨⟨⟨⟨h1,h2⟩,h3⟩,h4⟩,h5⟩,h6⟩:=h;refine ⟨h1,qp h2,sh h3,ek h4,AQ h5,?_⟩;split at h6
  ·rfl
  ·cases h6
 case int k=>
  obtain ⟨⟨⟨⟨⟨h1,h2⟩,h3⟩,h4⟩,h5⟩,h6⟩:=h;refine ⟨h1,qp h2,sh h3,ek h4,AQ h5,?_⟩;split at h6
  ·simp only [kB,bN,decide_eq_true_eq] at h6;rw [h6.1,h6.2]
  ·cases h6
 case string=>
  obtain ⟨⟨⟨⟨⟨h1,h2⟩,h3⟩,h4⟩,h5⟩,h6⟩:=h;refine ⟨h1,qp h2,sh h3,ek h4,AQ h5,?_⟩;split at h6
  ·rename_i b;exact ⟨b,rfl,qp h6⟩
  ·cases h6
 all_goals
  obtain ⟨⟨⟨⟨h1,h2⟩,h3⟩,h4⟩,h5⟩:=h;refine ⟨h1,qp h2,sh h3,ek h4,?_⟩;split at h5
  ·rename_i v;simp only [bN] at h5;exact ⟨v,rfl,h5.1,h5.2⟩
  ·cases h5
def agQ (ti:Nat->Option TI)(P:Program)(t:Nat)(I:TI):Bool:=match P.underlying t,P.info? t with
 |some d,some i=>(!xy I.ct||(No i.size I.size&&No i.bytes I.bytes))&&Zr ti P I i.zero d
 |_,_=>false
theorem acT {ti:Nat->Option TI}{P:Program}{t:Nat}{I:TI}(h:agQ ti P t I=true):oh ti P t I:=by
 unfold agQ at h;split at h
 ·rename_i d i hu hi;simp only [bN,afw,OF] at h;refine ⟨d,i,hu,hi,λhc=> ?_,Zs h.2⟩;rcases h.1 with h1|h1
  ·rw [hc] at h1;simp [xy] at h1
  ·exact ⟨sh h1.1,sh h1.2⟩
 ·cases h
def yz:List (Nat×TI)->Nat->Option TI
 |[],_=>none
 |(k,s)::r,t=>bif No k t then some s else yz r t
def PH (P:Program)(tab:List (Nat×TI)):Bool:=tab.all λp=>agQ (yz tab) P p.1 p.2
theorem LW {l:List (Nat×TI)}{t:Nat}{I:TI}(h:yz l t=some I):(t,I)∈l:=by
 induction l with
 |nil=>simp [yz] at h
 |cons p l ih=>
  obtain ⟨k,s⟩:=p;simp only [yz,fm] at h;by_cases hk:k=t
  ·subst hk;simp at h;subst h;simp
  ·simp only [hk,decide_false,cond_false] at h;exact afq _ (ih h)
theorem NM {P:Program}{tab:List (Nat×TI)}(h:PH P tab=true):ia P (yz tab):=λt I hI=>acT (abK.1 h (t,I) (LW hI))
end Dn
/-
  Comparing values of plain types. Conditions: none.
-/
namespace Dn
open Go
def cks:List Kd->List Kd
 |[]=>[]
 | .h::r=>afM 32 (.i .u8)++cks r
 |k::r=>k::cks r
def NN:Kd->Value->Bool
 | .b,.bool _=>true
 | .i k,.int k' _=>decide (k'=k)
 | .s,.string _=>true
 |_,_=>false
def jS:List Kd->List Value->Prop
 |[],vs=>vs=[]
 |k::ks,vs=> ∃v r,vs=v::r/\NN k v=true/\jS ks r
def Zt:Value->Value->Bool
 | .bool a,.bool b=>decide (a=b)
 | .int _ a,.int _ b=>decide (a=b)
 | .string a,.string b=>decide (a.data.toList=b.data.toList)
 |_,_=>false
def ln:List Value->List Value->Bool
 |[],[]=>true
 |x::xs,y::ys=>Zt x y&&ln xs ys
 |_,_=>false
theorem uS {xs ys us vs:List Value}(h:xs.length=ys.length):ln (xs++us) (ys++vs)=(ln xs ys&&ln us vs):=by
 induction xs generalizing ys with
 |nil=>cases ys with|nil=>simp [ln]|cons=>simp at h
 |cons x xs ih=>cases ys with|nil=>simp at h|cons y ys=>simp only [ab1,ln,ih (by simpa using h),Bool.and_assoc]
theorem jS.length {ks:List Kd}: ∀{vs:List Value},jS ks vs->vs.length=ks.length:=by
 induction ks with
 |nil=>intro vs h;cases h;rfl
 |cons k ks ih=>intro vs h;obtain ⟨v,r,rfl,_,h2⟩:=h;simp [ih h2]
theorem jS.append {ks js:List Kd}: ∀{vs us:List Value},jS ks vs->jS js us->jS (ks++js) (vs++us):=by
 induction ks with
 |nil=>intro vs us h h';cases h;simpa using h'
 |cons k ks ih=>intro vs us h h';obtain ⟨v,r,rfl,h1,h2⟩:=h;exact ⟨v,r++us,rfl,h1,ih h2 h'⟩
theorem jS.split {ks js:List Kd}: ∀{vs:List Value},jS (ks++js) vs->jS ks (vs.take ks.length)/\jS js (vs.drop ks.length):=by
 induction ks with
 |nil=>intro vs h;exact ⟨by simp [jS],by simpa using h⟩
 |cons k ks ih=>intro vs h;obtain ⟨v,r,rfl,h1,h2⟩:=h;obtain ⟨h3,h4⟩:=ih h2;exact ⟨⟨v,_,rfl,h1,h3⟩,by simpa using h4⟩
theorem HM (x:kM):jS (afM 32 (.i .u8)) (bq x):=by
 have: ∀(l:List UInt8),jS (afM l.length (.i .u8)) (l.map λb=>aix .u8 (b.toNat:Int)):=by
  intro l;induction l with
  |nil=>rfl
  |cons b l ih=>exact ⟨_,_,rfl,by simp [NN],ih⟩
 have h:=this x.l;rw [x.h] at h;exact h
theorem LX (x y:kM):ln (bq x) (bq y)=decide (x=y):=by
 have: ∀(l m:List UInt8),l.length=m.length->ln (l.map λb=>aix .u8 (b.toNat:Int)) (m.map λb=>aix .u8 (b.toNat:Int))=decide (l=m):=by
  intro l;induction l with
  |nil=>intro m h;cases m with|nil=>rfl|cons=>simp at h
  |cons b l ih=>
   intro m h;cases m with
   |nil=>simp at h
   |cons b' m=>
    simp only [afj,ln,Zt,ih m (by simpa using h),acw];have:((b.toNat:Int)=(b'.toNat:Int))↔b=b':=by
     constructor
     ·intro he;apply UInt8.toNat_inj.1;omega
     ·intro he;rw [he]
    simp [this]
 rw [bq,bq,this x.l y.l (by rw [x.h,y.h])];by_cases h:x=y
 ·subst h;simp
 ·have:x.l≠y.l:=λhe=>h (kM.ext' he);simp [h,this]
section
variable {e:Env}
theorem LY {lay:List Kd}: ∀{ls:List aE} {vs:List Value},av e vs ls->eY lay ls=true->jS (cks lay) vs:=by
 induction lay with
 |nil=>
  intro ls vs h hf;cases ls with
  |nil=>cases h;rfl
  |cons=>simp [eY] at hf
 |cons k lay ih=>
  intro ls vs h hf;cases ls with
  |nil=>simp [eY] at hf
  |cons l ls=>
   simp only [eY] at hf;cases h1:nV k l with
   |false=>simp [h1] at hf
   |true=>
    simp only [h1,cond_true] at hf;obtain ⟨v,u,rfl,g1,g2⟩:=h;have hr:=ih g2 hf;have one: ∀m:MV,∀kd:Kd,l= .p m->(∀w:List Value,gY e.key e.φ w m-> ∃x,w=[x]/\NN kd x=true)->jS (kd::cks lay) (v++u):=by intro m kd hl hm;subst hl;obtain ⟨x,rfl,hx⟩:=hm v g1.2;exact ⟨x,u,rfl,hx,hr⟩
    cases k<;>cases l<;>simp only [nV] at h1<;>try (cases h1;done)
    ·rename_i m;cases m<;>simp only [nV] at h1<;>try (cases h1;done)
     exact one _ _ rfl (λw hw=>by cases hw;exact ⟨_,rfl,rfl⟩)
    ·rename_i k m;cases m<;>simp only [nV] at h1<;>try (cases h1;done)
     exact one _ _ rfl (λw hw=>by cases hw;exact ⟨_,rfl,h1⟩)
    ·rename_i m;cases m<;>simp only [nV] at h1<;>try (cases h1;done)
     exact one _ _ rfl (λw hw=>by cases hw;exact ⟨_,rfl,rfl⟩)
    ·rename_i x;have g1:v=bq x:=g1;subst g1;exact (HM x).append hr
theorem KK {l l':aE} {v v':List Value}{b:Bool}(h:aM e v l) (h':aM e v' l')(hb:D7 l l'=some b):ln v v'=b/\v.length=v'.length:=by
 unfold D7 at hb;split at hb
 ·obtain ⟨_,h⟩:=h;obtain ⟨_,h'⟩:=h';cases h;cases h';simp at hb;exact ⟨by simp [ln,Zt,<-hb],rfl⟩
 ·obtain ⟨_,h⟩:=h;obtain ⟨_,h'⟩:=h';cases h;cases h';rename_i k x k' y _ _;cases hk:decide (k=k') with
  |false=>simp [hk] at hb
  |true=>simp [hk] at hb;exact ⟨by simp [ln,Zt,<-hb],rfl⟩
 ·obtain ⟨_,h⟩:=h;obtain ⟨_,h'⟩:=h';cases h;cases h';simp at hb;exact ⟨by simp [ln,Zt,<-hb],rfl⟩
 ·rename_i x y;have h:v=bq x:=h;have h':v'=bq y:=h';subst h;subst h';simp at hb;exact ⟨by rw [LX,<-hb],by rw [cX,cX]⟩
 ·cases hb
theorem Zu {ls:List aE}: ∀{yy:List aE} {vs KC:List Value} {b:Bool},av e vs ls->av e KC yy->jO ls yy=some b->ln vs KC=b:=by
 induction ls with
 |nil=>
  intro yy vs KC b h h' hb;cases yy with
  |nil=>cases h;cases h';simp [jO] at hb;subst hb;rfl
  |cons l' yy=>simp [jO] at hb
 |cons l ls ih=>
  intro yy vs KC b h h' hb;cases yy with
  |nil=>simp [jO] at hb
  |cons l' yy=>
   obtain ⟨v,u,rfl,h1,h2⟩:=h;obtain ⟨v',u',rfl,GK,Nk⟩:=h';have two: ∀x y,D7 l l'=some x->jO ls yy=some y->b=(x&&y)->ln (v++u) (v'++u')=b:=by intro x y hx hy Q7;obtain ⟨g1,g2⟩:=KK h1 GK hx;rw [uS g2,g1,ih h2 Nk hy,Q7]
   cases ls with
   |nil=>
    cases yy with
    |nil=>have hb:D7 l l'=some b:=hb;exact two b true hb rfl (by simp)
    |cons p q=>
     simp only [jO] at hb;split at hb
     ·rename_i x y hx hy;exact two x y hx hy (by simpa using hb.symm)
     ·cases hb
   |cons p q=>
    simp only [jO] at hb;split at hb
    ·rename_i x y hx hy;exact two x y hx hy (by simpa using hb.symm)
    ·cases hb
end
def vA (F:TypeId->Option (List Kd))(P:Program):List Field->Nat->Nat->Option (List Kd)
 |[],o,n=>bif No o n then some [] else none
 |f::fs,o,n=>match F f.type with
  |some ks=>bif No f.offset o&&No ks.length (P.cellsOf f.type)&&!(f.name== "_") then (match vA F P fs (o+ks.length) n with|some r=>some (ks++r)|none=>none) else none
  |none=>none
def PJ:Nat->List Kd->List Kd
 |0,_=>[]
 |n+1,ks=>ks++PJ n ks
def nF (P:Program):Nat->TypeId->Option (List Kd)
 |0,_=>none
 |d+1,t=>match P.underlying t with
  |some .bool=>some [.b]
  |some (.int k)=>some [.i k]
  |some .string=>some [.s]
  |some (.array n e)=>match nF P d e with
   |some ks=>bif No ks.length (P.cellsOf e)&&(match P.info? e with|some _=>true|none=>false) then some (PJ n ks) else none
   |none=>none
  |some (.struct fs)=>bif P.stoodInHeld t then none else vA (nF P d) P fs.toList 0 (P.cellsOf t)
  |_=>none
def KL:TypeDesc->Bool
 | .struct _=>true
 | .array _ _=>true
 |_=>false
theorem HN {F:TypeId->Option (List Kd)}{P:Program}: ∀(fs:List Field) (o n:Nat) (ks:List Kd),vA F P fs o n=some ks->o+ks.length=n:=by
 intro fs;induction fs with
 |nil=>
  intro o n ks hk;simp only [vA] at hk;cases hb:No o n with
  |false=>simp [hb] at hk
  |true=>simp [hb] at hk;subst hk;simpa using sh hb
 |cons f fs ihf=>
  intro o n ks hk;simp only [vA] at hk;cases hf:F f.type with
  |none=>simp [hf] at hk
  |some js=>
   simp only [hf] at hk
   cases hc:No f.offset o&&No js.length (P.cellsOf f.type)&&!(f.name== "_") with
   |false=>simp [hc] at hk
   |true=>
    simp only [hc,cond_true] at hk;cases hr:vA F P fs (o+js.length) n with
    |none=>simp [hr] at hk
    |some rs=>simp only [hr,AS] at hk;subst hk;have:=ihf _ _ _ hr;simp only [BY];omega
def uv (P:Program)(t:TypeId)(v:Value)(cs:List Value):Prop:=match P.underlying t with
 |some (.struct _)|some (.array _ _)=>v= .agg cs.toArray
 |_=>cs=[v]
theorem PK (n:Nat)(ks:List Kd):(PJ n ks).length=n *ks.length:=by
 induction n with
 |zero=>simp [PJ]
 |succ n ih=>simp only [PJ,BY,ih,aiB];omega
section
variable {P:Program}{w:World}
theorem AR {t:TypeId}{xs:Array Value}{off:Nat}{n:Nat}{d:TypeDesc}(hu:P.underlying t=some d)(hn:P.cellsOf t=n)(jd:KL d=false->n=1)(hl:off+n<=xs.size): ∃v,(ais t xs off).run P w= .ok v w/\uv P t v ((xs.toList.drop off).take n):=by
 obtain ⟨i,hi⟩:=info_of_underlying hu;have pJ:i.size=n:=by rw [<-hn];simp [Program.cellsOf,hi]
 cases hd:KL d with
 |true=>
  refine ⟨.agg (xs.extract off (off+n)),?_,?_⟩
  ·cases d<;>simp [KL] at hd<;>simp [ais,isAgg,run_underlying hu,ae7,typeInfo,hi,pJ]
  ·have he:(xs.extract off (off+n))=((xs.toList.drop off).take n).toArray:=by apply aci.1;rw [Array.toList_extract];simp [List.extract]
   unfold uv;cases d<;>simp [KL] at hd<;>simp only [hu]<;>rw [he]
 |false=>
  have KB:=jd hd;subst KB;have cI:off<xs.size:=by omega
  refine ⟨xs[off],?_,?_⟩
  ·cases d<;>simp [KL] at hd<;>simp [ais,isAgg,run_underlying hu,cI]
  ·have he:(xs.toList.drop off).take 1=[xs[off]]:=by rw [List.take_one,List.head?_drop];simp [cI]
   unfold uv;cases d<;>simp [KL] at hd<;>simp only [hu]<;>exact he
theorem VF {F:TypeId->Option (List Kd)}{dd:Nat}{xs ys:Array Value}: ∀(fs:List Field) (o n:Nat) (ks:List Kd),vA F P fs o n=some ks->xs.size=n->ys.size=n->jS ks (xs.toList.drop o)->jS ks (ys.toList.drop o)-> (∀f∈fs,∀js,F f.type=some js->(∃d,P.underlying f.type=some d/\(KL d=false->js.length=1))/\ ∀(x y:Value) (us vs:List Value),uv P f.type x us->uv P f.type y vs->jS js us->jS js vs->(ags dd f.type x y).run P w= .ok (ln us vs) w)-> (Op.eqFields dd xs ys fs).run P w= .ok (ln (xs.toList.drop o) (ys.toList.drop o)) w:=by
 intro fs;induction fs with
 |nil=>
  intro o n ks hk hx hy _ _ _;simp only [vA] at hk;cases hb:No o n with
  |false=>simp [hb] at hk
  |true=>have hb:=sh hb;have h1:xs.toList.drop o=[]:=acY (by simp [hx,hb]);have h2:ys.toList.drop o=[]:=acY (by simp [hy,hb]);rw [h1,h2];simp [Op.eqFields,ln]
 |cons f fs ih=>
  intro o n ks hk hx hy fx fy hF;simp only [vA] at hk;cases hf:F f.type with
  |none=>simp [hf] at hk
  |some js=>
   simp only [hf] at hk
   cases hc:No f.offset o&&No js.length (P.cellsOf f.type)&&!(f.name== "_") with
   |false=>simp [hc] at hk
   |true=>
    simp only [hc,cond_true] at hk;simp only [bN,OF] at hc;obtain ⟨⟨h1,h2⟩,h3⟩:=hc;have h1:=sh h1;have h2:=sh h2
    have h3:f.name≠ "_" :=by intro he;rw [he] at h3;simp at h3
    cases hr:vA F P fs (o+js.length) n with
    |none=>simp [hr] at hk
    |some rs=>
     simp only [hr,AS] at hk;subst hk;obtain ⟨fx1,fx2⟩:=fx.split;obtain ⟨fy1,fy2⟩:=fy.split;rw [adf] at fx2 fy2;have lx:=fx.length;have ly:=fy.length;simp only [abN,BY,abL] at lx ly;obtain ⟨⟨d,hu,jd⟩,jK⟩:=hF f (by simp) js hf;by_cases hz:o+js.length<=xs.size/\o+js.length<=ys.size
     ·obtain ⟨x,px,wx⟩:=AR (w:=w) (xs:=xs) (off:=f.offset) hu h2.symm jd (by rw [h1];exact hz.1);obtain ⟨y,py,wy⟩:=AR (w:=w) (xs:=ys) (off:=f.offset) hu h2.symm jd (by rw [h1];exact hz.2);rw [h1] at wx wy;have he:=jK x y _ _ wx wy fx1 fy1;have uT:=ih (o+js.length) n rs hr hx hy fx2 fy2 (λg hg=>hF g (by simp [hg]));simp only [Op.eqFields,h3,ne_eq,not_false_eq_true,if_true,aec,px,py,he,adb];have HD:ln (xs.toList.drop o) (ys.toList.drop o)=(ln ((xs.toList.drop o).take js.length) ((ys.toList.drop o).take js.length)&&ln (xs.toList.drop (o+js.length)) (ys.toList.drop (o+js.length))):=by rw [<-adf,<-adf,<-uS (by rw [fx1.length,fy1.length]),acv,acv]
      rw [HD];cases ln ((xs.toList.drop o).take js.length) ((ys.toList.drop o).take js.length)
      ·simp
      ·simpa using uT
     ·exfalso;have:=HN _ _ _ _ hr;omega
theorem Zv {e:TypeId}{dd:Nat}{xs ys:Array Value}{js:List Kd}(Kl:js.length=P.cellsOf e)(hd: ∃d,P.underlying e=some d/\(KL d=false->js.length=1))(jK: ∀(x y:Value)(us vs:List Value),uv P e x us->uv P e y vs->jS js us->jS js vs->(ags dd e x y).run P w= .ok (ln us vs) w): ∀(m i:Nat),xs.size=(i+m) *js.length->ys.size=(i+m) *js.length->jS (PJ m js) (xs.toList.drop (i *js.length))->jS (PJ m js) (ys.toList.drop (i *js.length))-> (Op.eqItems dd e (P.cellsOf e) xs ys (aiF i m)).run P w= .ok (ln (xs.toList.drop (i *js.length)) (ys.toList.drop (i *js.length))) w:=by
 intro m;induction m with
 |zero=>intro i hx hy _ _;have h1:xs.toList.drop (i *js.length)=[]:=acY (by simp [hx]);have h2:ys.toList.drop (i *js.length)=[]:=acY (by simp [hy]);rw [h1,h2];simp [Op.eqItems,ln]
 |succ m ih=>
  intro i hx hy fx fy;simp only [PJ] at fx fy;obtain ⟨fx1,fx2⟩:=fx.split;obtain ⟨fy1,fy2⟩:=fy.split;have hmul:i *js.length+js.length=(i+1) *js.length:=by rw [aiB]
  rw [adf,hmul] at fx2 fy2;obtain ⟨d,hu,jd⟩:=hd;have hle:(i+1) *js.length<=(i+(m+1)) *js.length:=abY _ (by omega);obtain ⟨x,px,wx⟩:=AR (w:=w) (xs:=xs) (off:=i *js.length) hu Kl.symm jd (by omega);obtain ⟨y,py,wy⟩:=AR (w:=w) (xs:=ys) (off:=i *js.length) hu Kl.symm jd (by omega);have he:=jK x y _ _ wx wy fx1 fy1;have uT:=ih (i+1) (by rw [hx];congr 1;omega) (by rw [hy];congr 1;omega) fx2 fy2;rw [List.range'_succ];simp only [Op.eqItems,aec,<-Kl,px,py,he,adb];have HD:ln (xs.toList.drop (i *js.length)) (ys.toList.drop (i *js.length))=(ln ((xs.toList.drop (i *js.length)).take js.length) ((ys.toList.drop (i *js.length)).take js.length)&&ln (xs.toList.drop ((i+1) *js.length)) (ys.toList.drop ((i+1) *js.length))):=by rw [<-hmul,<-adf,<-adf,<-uS (by rw [fx1.length,fy1.length]),acv,acv]
  rw [HD];cases ln ((xs.toList.drop (i *js.length)).take js.length) ((ys.toList.drop (i *js.length)).take js.length)
  ·simp
  ·rw [<-Kl] at uT;simpa using uT
theorem LZ: ∀(d:Nat) (t:TypeId) (ks:List Kd),nF P d t=some ks-> ∃k,P.underlying t=some k/\(KL k=false->ks.length=1):=by
 intro d t ks h;cases d with
 |zero=>simp [nF] at h
 |succ d=>
  simp only [nF] at h;cases hu:P.underlying t with
  |none=>simp [hu] at h
  |some k=>
   refine ⟨k,rfl,λha=> ?_⟩;cases k<;>simp only [hu] at h<;>first
    |(simp only [AS] at h;subst h;rfl)
    |(cases h;done)
    |(simp [KL] at ha;done)
theorem Fz: ∀(d:Nat) (t:TypeId) (ks:List Kd),nF P d t=some ks-> ∀(m:Nat) (x y:Value) (us vs:List Value),uv P t x us->uv P t y vs->jS ks us->jS ks vs-> (ags (m+d) t x y).run P w= .ok (ln us vs) w:=by
 intro d;induction d with
 |zero=>intro t ks h;simp [nF] at h
 |succ d ih=>
  intro t ks h m x y us vs hx hy fx fy;simp only [nF] at h;have hmd:m+(d+1)=(m+d)+1:=rfl;rw [hmd];cases hu:P.underlying t with
  |none=>simp [hu] at h
  |some k=>
   cases k<;>simp only [hu] at h<;>try (cases h;done)
   case bool=>simp only [AS] at h;subst h;simp only [uv,hu] at hx hy;subst hx;subst hy;obtain ⟨v,r,h1,h2,h3⟩:=fx;obtain ⟨v',r',GK,Nk,h3'⟩:=fy;simp at h1 GK;obtain ⟨rfl,_⟩:=h1;obtain ⟨rfl,_⟩:=GK;cases x<;>simp [NN] at h2;cases y<;>simp [NN] at Nk;rename_i a b;rw [run_equalIn_bool' w _ t a b hu];simp [ln,Zt];cases a<;>cases b<;>rfl
   case int k=>simp only [AS] at h;subst h;simp only [uv,hu] at hx hy;subst hx;subst hy;obtain ⟨v,r,h1,h2,h3⟩:=fx;obtain ⟨v',r',GK,Nk,h3'⟩:=fy;simp at h1 GK;obtain ⟨rfl,_⟩:=h1;obtain ⟨rfl,_⟩:=GK;cases x<;>simp [NN] at h2;cases y<;>simp [NN] at Nk;subst h2;subst Nk;rw [run_equalIn_int w _ t _ _ _ _ hu];simp only [ln,Zt,afk];congr 1
   case string=>simp only [AS] at h;subst h;simp only [uv,hu] at hx hy;subst hx;subst hy;obtain ⟨v,r,h1,h2,h3⟩:=fx;obtain ⟨v',r',GK,Nk,h3'⟩:=fy;simp at h1 GK;obtain ⟨rfl,_⟩:=h1;obtain ⟨rfl,_⟩:=GK;cases x<;>simp [NN] at h2;cases y<;>simp [NN] at Nk;rw [run_equalIn_string w _ t _ _ hu];simp only [ln,Zt,afk,toList_data];congr 1;exact Bool.beq_eq_decide_eq _ _
   case array n e=>
    cases hke:nF P d e with
    |none=>simp [hke] at h
    |some js=>
     simp only [hke] at h;cases hc:No js.length (P.cellsOf e)&&(match P.info? e with|some _=>true|none=>false) with
     |false=>simp [hc] at h
     |true=>
      simp only [hc,cond_true,AS] at h;subst h;simp only [bN] at hc;have Kl:=sh hc.1;obtain ⟨i,hi⟩: ∃i,P.info? e=some i:=by
       cases hi:P.info? e with
       |none=>rw [hi] at hc;simp at hc
       |some i=>exact ⟨i,rfl⟩
      simp only [uv,hu] at hx hy;subst hx;subst hy;rw [run_equalIn_array w (m+d) us.toArray vs.toArray hu hi,List.range_eq_range'];have l1:=fx.length;have l2:=fy.length;rw [PK] at l1 l2;have:=Zv (w:=w) (xs:=us.toArray) (ys:=vs.toArray) (js:=js) (dd:=m+d) Kl (LZ d e js hke) (λx y us vs a b c d'=>ih e js hke m x y us vs a b c d') n 0 (by simpa using l1) (by simpa using l2) (by simpa using fx) (by simpa using fy);simpa using this
   case struct fs=>
    cases dK:P.stoodInHeld t with
    |true=>simp [dK] at h
    |false=>
     simp only [dK,cond_false] at h;simp only [uv,hu] at hx hy;subst hx;subst hy;have Y1:P.fieldsOf t=fs:=by simp [Program.fieldsOf,hu]
     rw [run_equalIn_struct w (m+d) t us.toArray vs.toArray (by rw [Y1];exact hu) dK,Y1];have hl:=HN _ _ _ _ h;have:=VF (w:=w) (dd:=m+d) (xs:=us.toArray) (ys:=vs.toArray) fs.toList 0 (P.cellsOf t) ks h (by simp [fx.length];omega) (by simp [fy.length];omega) (by simpa using fx) (by simpa using fy) (λf hf js hjs=>⟨LZ d f.type js hjs,λx y us vs a b c d'=>ih f.type js hjs m x y us vs a b c d'⟩);simpa using this
end
theorem TW {l m:List Kd}(h:F9 l m=true):l=m:=by
 induction l generalizing m with
 |nil=>cases m<;>simp [F9] at h;rfl
 |cons a l ih=>
  cases m with
  |nil=>simp [F9] at h
  |cons b m=>simp only [F9,bN] at h;rw [Zo h.1,ih h.2]
def R4:List Kd->Bool
 |[]=>true
 | .l::_=>false
 | .raw::_=>false
 |_::r=>R4 r
def eqB (P:Program)(t:Nat)(I:TI):Bool:=!R4 I.lay||!xy I.ct||((match nF P 20 t with|some ks=>F9 ks (cks I.lay)|none=>false)&&!P.eqGuardType P.depth t&& (match P.underlying t with|some (.struct _)=>I.st|some (.array _ _)=>!I.st&&lT I.lay .h|some .bool=>!I.st&&lT I.lay .b|some (.int k)=>!I.st&&lT I.lay (.i k)|some .string=>!I.st&&lT I.lay .s|_=>false))
def agR (P:Program)(tab:List (Nat×TI)):Bool:=tab.all λp=>eqB P p.1 p.2
theorem VG {lay:List Kd}: ∀{ls:List aE},eY lay ls=true->R4 lay=true:=by
 induction lay with
 |nil=>intro ls _;rfl
 |cons k lay ih=>
  intro ls h;cases ls with
  |nil=>simp [eY] at h
  |cons l ls=>
   simp only [eY] at h;cases h1:nV k l with
   |false=>simp [h1] at h
   |true=>simp only [h1,cond_true] at h;have:=ih h;cases k<;>first|exact this|(cases l<;>simp [nV] at h1)
theorem VH {t:TypeId}{x y:Value}(h:(∃b,x= .bool b)\/ ∃cs,x= .agg cs)(op:BinOp): (op= .eql->binOp op t x y=(do pure (.bool (<-aic t x y))))/\(op= .neq->binOp op t x y=(do pure (.bool (!(<-aic t x y))))):=by rcases h with ⟨b,rfl⟩|⟨cs,rfl⟩<;>refine ⟨?_,?_⟩<;>rintro rfl<;>cases y<;>rfl
theorem VI {P:Program}{tab:List (Nat×TI)}(h:agR P tab=true):RD P (yz tab):=by
 intro t I hI hc e w vx vy sx sy b rx ry fx fy shx shy hb n1 n2;have hr:=abK.1 h (t,I) (LW hI);simp only [eqB,VG fx,agc,ahG] at hr;rw [hc] at hr;simp only [xy,agc,ahG,bN,OF] at hr;obtain ⟨⟨hk,hg⟩,hd⟩:=hr;cases Vi:nF P 20 t with
 |none=>simp [Vi] at hk
 |some ks=>
  simp only [Vi] at hk;have hk:=TW hk;subst hk;have cells: ∀(v:Value) (s:Slot),ab e v s->eY I.lay (aJ s)=true->mX I.st s=true->(∃us,uv P t v us/\av e us (aJ s))/\((∃b,v= .bool b)\/(∃cs,v= .agg cs)\/(∃k n,s= .sc (.p (.i k n)))\/ ∃l,s= .sc (.p (.s l))):=by
   intro v s hv hf hs;cases s<;>simp only [mX] at hs<;>try (cases hs;done)
   ·rename_i l;have dK:I.st=false:=by simpa using hs
    cases hu:P.underlying t with
    |none=>simp [hu] at hd
    |some d=>
     simp only [hu] at hd;cases d<;>simp only [dK,Bool.not_false,ahS] at hd<;>try (cases hd;done)
     ·have hl:=ek hd;rw [hl] at hf;simp only [aJ,eY] at hf;cases l<;>simp [nV] at hf;rename_i m;cases m<;>simp [nV] at hf;have:=Ff hv;exact ⟨⟨[v],by simp [uv,hu],[v],[],rfl,hv,rfl⟩,.inl ⟨_,this⟩⟩
     ·have hl:=ek hd;rw [hl] at hf;simp only [aJ,eY] at hf;cases l<;>simp [nV] at hf;rename_i m;cases m<;>simp [nV] at hf;exact ⟨⟨[v],by simp [uv,hu],[v],[],rfl,hv,rfl⟩,.inr (.inr (.inl ⟨_,_,rfl⟩))⟩
     ·have hl:=ek hd;rw [hl] at hf;simp only [aJ,eY] at hf;cases l<;>simp [nV] at hf;rename_i m;cases m<;>simp [nV] at hf;exact ⟨⟨[v],by simp [uv,hu],[v],[],rfl,hv,rfl⟩,.inr (.inr (.inr ⟨_,rfl⟩))⟩
     ·have hl:=ek hd;rw [hl] at hf;simp only [aJ,eY] at hf;cases l<;>simp [nV] at hf;rename_i x;have hv:v= .agg (bq x).toArray:=hv;exact ⟨⟨bq x,by simp [uv,hu,hv],bq x,[],by simp,rfl,rfl⟩,.inr (.inl ⟨_,hv⟩)⟩
   ·rename_i cs;cases hu:P.underlying t with
    |none=>simp [hu] at hd
    |some d=>
     simp only [hu] at hd;cases d<;>simp only [hs,agc,Bool.false_and] at hd<;>try (cases hd;done)
     obtain ⟨arr,hv,pI⟩:=hv;exact ⟨⟨arr.toList,by simp [uv,hu,hv],pI⟩,.inr (.inl ⟨_,hv⟩)⟩
  obtain ⟨⟨us,wx,lx⟩,kx⟩:=cells vx sx rx fx shx;obtain ⟨⟨vs,wy,ly⟩,ky⟩:=cells vy sy ry fy shy;have jK:(aic t vx vy).run P w= .ok b w:=by have:=Fz (P:=P) (w:=w) 20 t _ Vi 9980 vx vy us vs wx wy (LY lx fx) (LY ly fy);rw [Zu lx ly hb] at this;exact this
  refine ⟨jK,λx y op=> ?_⟩;have hxk:(∃b,vx= .bool b)\/ ∃cs,vx= .agg cs:=by
   rcases kx with h1|h1|⟨k,n,h1⟩|⟨l,h1⟩
   ·exact .inl h1
   ·exact .inr h1
   ·exfalso;subst h1;cases hu:P.underlying t with
    |none=>simp [hu] at hd
    |some d=>
     simp only [aJ] at fx fy hb;cases Zx:I.lay with
     |nil=>rw [Zx] at fx;simp [eY] at fx
     |cons k0 r0=>
      rw [Zx] at fx fy;simp only [eY] at fx;cases k0<;>simp [nV] at fx;obtain ⟨hk0,Py⟩:=fx;have Py:r0=[]:=by cases r0<;>simp [eY] at Py;rfl
      subst Py;cases sy<;>simp only [mX] at shx shy<;>try (cases shy;done)
      ·rename_i l;simp only [aJ,eY] at fy;cases l<;>simp [nV] at fy;rename_i m;cases m<;>simp [nV] at fy;exact n1 _ _ _ _ rfl rfl
      ·rw [shy] at shx;cases shx
   ·exfalso;subst h1;simp only [aJ] at fx fy hb;cases Zx:I.lay with
    |nil=>rw [Zx] at fx;simp [eY] at fx
    |cons k0 r0=>
     rw [Zx] at fx fy;simp only [eY] at fx;cases k0<;>simp [nV] at fx;have Py:r0=[]:=by cases r0<;>simp [eY] at fx;rfl
     subst Py;cases sy<;>simp only [mX] at shx shy<;>try (cases shy;done)
     ·rename_i l;simp only [aJ,eY] at fy;cases l<;>simp [nV] at fy;rename_i m;cases m<;>simp [nV] at fy;exact n2 _ _ rfl rfl
     ·rw [shy] at shx;cases shx
  refine ⟨?_,VH hxk op⟩;have hg':P.eqGuardType P.depth t=false:=hg;rcases hxk with ⟨bb,rfl⟩|⟨cs,rfl⟩
  ·cases op<;>rfl
  ·cases vy<;>cases op<;>first|rfl|(simp [eqGuard,hg'])
end Dn
/-
  A program's types of maps, looked through. Conditions: none.
-/
namespace Dn
open Go
theorem NO {lay:List Kd}: ∀{ks:List MV},dt lay ks=true->jS (cks lay) (ks.flatMap DX):=by
 induction lay with
 |nil=>intro ks h;cases ks with|nil=>rfl|cons=>simp [dt] at h
 |cons k lay ih=>
  intro ks h;cases ks with
  |nil=>simp [dt] at h
  |cons m ks=>
   simp only [dt,bN] at h;have h2:=ih h.2;have h1:=h.1;cases k<;>cases m<;>simp only [Ed] at h1<;>try (cases h1;done)
   ·exact ⟨_,_,rfl,rfl,h2⟩
   ·exact ⟨_,_,rfl,h1,h2⟩
   ·exact ⟨_,_,rfl,rfl,h2⟩
   ·exact (HM _).append h2
theorem acV {lay:List Kd}: ∀{a b:List MV},dt lay a=true->dt lay b=true->ln (a.flatMap DX) (b.flatMap DX)=jG b a:=by
 induction lay with
 |nil=>intro a b ha hb;cases a<;>cases b<;>simp [dt] at ha hb;rfl
 |cons k lay ih=>
  intro a b ha hb;cases a with
  |nil=>simp [dt] at ha
  |cons x a=>
   cases b with
   |nil=>simp [dt] at hb
   |cons y b=>
    simp only [dt,bN] at ha hb;have ih:=ih ha.2 hb.2;have h1:=ha.1;have h2:=hb.1;cases k<;>cases x<;>simp only [Ed] at h1<;>try (cases h1;done)
    all_goals cases y<;>simp only [Ed] at h2<;>try (cases h2;done)
    ·rename_i p q;simp only [aem,DX,ab1,acC,ln,Zt,jG,Kt,ih];congr 1;rw [decide_eq_decide];exact eq_comm
    ·rename_i k1 p k2 q;have e1:=of_decide_eq_true h1;have e2:=of_decide_eq_true h2;subst e1;subst e2;simp only [aem,DX,ab1,acC,ln,Zt,jG,Kt,ih,decide_true,ahS];congr 1;rw [decide_eq_decide];exact eq_comm
    ·rename_i p q;simp only [aem,DX,ab1,acC,ln,Zt,jG,Kt,ih];congr 1;rw [decide_eq_decide];simp [eq_comm]
    ·rename_i p q;simp only [aem,DX,jG,Kt];rw [uS (by rw [cX,cX]),LX,ih];congr 1;rw [decide_eq_decide];exact eq_comm
def Ep:TypeDesc->Bool
 | .bool| .int _| .string=>true
 |_=>false
def ajZ (P:Program)(n:Nat)(fs:List Field):Bool:=fs.all λf=>(match P.underlying f.type with|some d=>Ep d|none=>false)&&afe (f.offset+1) n
def afn (P:Program)(kt:Nat)(I:TI):Bool:=match P.underlying kt with
 |some .bool=>!I.st&&lT I.lay .b
 |some (.int k)=>!I.st&&lT I.lay (.i k)
 |some .string=>!I.st&&lT I.lay .s
 |some (.struct fs)=>I.st&&(match nF P 20 kt with|some ks=>F9 ks (cks I.lay)|none=>false)&&ajZ P (cks I.lay).length fs.toList
 |_=>false
def afo (b:Bool):Option Value->Bool
 |some (.bool false)=>b
 |some (.int .i64 n)=>!b&&decide (n=0)
 |_=>false
def aj0 (P:Program)(ti:Nat->Option TI)(t kt:Nat)(b:Bool):Bool:=match P.underlying t with
 |some (.map kt' el)=>No kt' kt&&(match P.info? el with|some i=>afo b i.zero|none=>false)&&(match ti kt with|some I=>xy I.ct&&afn P kt I|none=>false)
 |_=>false
def HO:List (Nat×(Nat×Bool))->Nat->Option (Nat×Bool)
 |[],_=>none
 |(k,s)::r,t=>bif No k t then some s else HO r t
theorem VJ {l:List (Nat×(Nat×Bool))}{t:Nat}{I:Nat×Bool}(h:HO l t=some I):(t,I)∈l:=by
 induction l with
 |nil=>simp [HO] at h
 |cons p l ih=>
  obtain ⟨k,s⟩:=p;simp only [HO,fm] at h;by_cases hk:k=t
  ·subst hk;simp at h;subst h;simp
  ·simp only [hk,decide_false,cond_false] at h;exact afq _ (ih h)
def acW (P:Program)(ti:Nat->Option TI)(l:List (Nat×(Nat×Bool))):Bool:=l.all λp=>aj0 P ti p.1 p.2.1 p.2.2
theorem AU {k:Kd}{ks:List MV}(h:dt [k] ks=true): ∃m,ks=[m]/\Ed k m=true:=by
 cases ks with
 |nil=>simp [dt] at h
 |cons m r=>
  cases r with
  |cons=>simp [dt] at h
  |nil=>exact ⟨m,rfl,by simpa [dt] using h⟩
theorem kv {P:Program}{t:TypeId}{d:TypeDesc}(hu:P.underlying t=some d)(hd:Ep d=true)(em:Bool)(n:Nat)(v:Value)(w:World):(agX em (n+1) t v).run P w= .ok () w:=by rw [agX];simp only [aec,run_underlying hu,Result.andThen];cases d<;>simp [Ep] at hd<;>cases v<;>rfl
theorem HP {P:Program}{t:TypeId}{d:TypeDesc}(hu:P.underlying t=some d)(hd:Ep d=true){xs:Array Value}{off:Nat}(h:off<xs.size)(w:World):(ais t xs off).run P w= .ok xs[off] w:=by cases d<;>simp [Ep] at hd<;>simp [ais,isAgg,run_underlying hu,h]
theorem R5 {P:Program}{c:Ctx}{l:List (Nat×(Nat×Bool))}(h:acW P c.ti l=true)(hm: ∀t p,c.mt t=some p->HO l t=some p):Ek P c:=by
 intro t s hs;unfold xe at hs;cases TT:c.mt t with
 |none=>simp [TT] at hs
 |some p=>
  obtain ⟨kt,b⟩:=p;simp only [TT] at hs;cases hI:c.tv kt with
  |none=>simp [hI] at hs
  |some I=>
   simp only [hI] at hs;cases hit:F8 ⟨I.st,I.lay,b⟩ with
   |true=>simp [hit] at hs
   |false=>
   simp only [hit,cond_false,AS] at hs;subst hs;obtain ⟨Lt,OL⟩:=bj hI;have hb:=abK.1 h _ (VJ (hm t _ TT));simp only [aj0] at hb;split at hb
   ·rename_i kt' el hu;simp only [bN] at hb;obtain ⟨⟨sw,rM⟩,hb3⟩:=hb;have sw:=sh sw;subst sw;split at rM
    ·rename_i inf aos;rw [Lt] at hb3;simp only [bN] at hb3;have hk:=hb3.2;have hz: ∀w:World,(zeroValue el).run P w= .ok (Bg b (jH b)) w:=by
      intro w;have:inf.zero=some (Bg b (jH b)):=by
       generalize inf.zero=z at rM;unfold afo at rM;split at rM
       ·subst rM;rfl
       ·simp only [bN,OF] at rM;obtain ⟨h1,h2⟩:=rM;subst h1;rw [of_decide_eq_true h2];rfl
       ·cases rM
      simp [zeroValue,typeInfo,aos,this]
     unfold afn at hk;refine ⟨kt',el,hu,hz,?_⟩;split at hk
     ·rename_i hd;simp only [bN,OF] at hk;have hl:=ek hk.2;refine ⟨λem ks w hf=>kv hd rfl em 9999 _ w,_,hd,.inl λa b' ha CR=> ?_⟩;rw [hl] at ha CR;obtain ⟨x,rfl,hx⟩:=AU ha;obtain ⟨y,rfl,hy⟩:=AU CR;cases x<;>simp [Ed] at hx;cases y<;>simp [Ed] at hy;rename_i p q;simp only [hk.1,fS,ah7,jG,Kt,afk];congr 1;rw [agF];simp only [beq_iff_eq,decide_eq_true_eq];exact eq_comm
     ·rename_i k hd;simp only [bN,OF] at hk;have hl:=ek hk.2;refine ⟨λem ks w hf=>kv hd rfl em 9999 _ w,_,hd,.inl λa b' ha CR=> ?_⟩;rw [hl] at ha CR;obtain ⟨x,rfl,hx⟩:=AU ha;obtain ⟨y,rfl,hy⟩:=AU CR;cases x<;>simp [Ed] at hx;cases y<;>simp [Ed] at hy;subst hx;subst hy;rename_i p q;simp only [hk.1,fS,ah7,jG,Kt,afk,if_true,decide_true,ahS];congr 1;rw [agF];simp only [beq_iff_eq,decide_eq_true_eq];exact eq_comm
     ·rename_i hd;simp only [bN,OF] at hk;have hl:=ek hk.2;refine ⟨λem ks w hf=>kv hd rfl em 9999 _ w,_,hd,.inl λa b' ha CR=> ?_⟩;rw [hl] at ha CR;obtain ⟨x,rfl,hx⟩:=AU ha;obtain ⟨y,rfl,hy⟩:=AU CR;cases x<;>simp [Ed] at hx;cases y<;>simp [Ed] at hy;rename_i p q;simp only [hk.1,fS,ah7,jG,Kt,afk];congr 1;rw [beq_toListBytes,aht,aht,agF];simp only [beq_iff_eq,decide_eq_true_eq,List.toList_toArray];exact eq_comm
     ·rename_i fs hd;simp only [bN] at hk;obtain ⟨⟨dK,hkk⟩,Y1⟩:=hk;split at hkk
      ·rename_i ks Vi;have hkk:=TW hkk;subst hkk;have hkv: ∀q,fS true q= .agg (q.flatMap DX).toArray:=by intro q;rfl
       refine ⟨λem q w hf=> ?_,_,hd,.inr λx y hx hy=>⟨?_,λw=> ?_⟩⟩
       ·have hlen:(q.flatMap DX).length=(cks I.lay).length:=(NO hf).length;rw [dK,hkv,show (10000:Nat)=9999+1 from rfl,agX];simp only [aec,run_underlying hd,adb];rw [<-Array.forIn_toList];have each: ∀f∈fs.toList,(∃d,P.underlying f.type=some d/\Ep d=true)/\f.offset<(q.flatMap DX).toArray.size:=by
         intro f hf;have:=abK.1 Y1 f hf;simp only [bN] at this;obtain ⟨h1,h2⟩:=this;split at h1
         ·rename_i d hd;exact ⟨⟨d,hd,h1⟩,by have:=abP h2;simp only [abQ];omega⟩
         ·cases h1
        clear Y1;generalize fs.toList=L at each;generalize (q.flatMap DX).toArray=xs at each;induction L with
        |nil=>simp
        |cons f L ih=>
         obtain ⟨⟨d,h1,h2⟩,h3⟩:=each f (by simp);have sw:=kv h1 h2 em 9998 xs[f.offset] w;have rM:=HP (P:=P) h1 h2 h3 w
         by_cases hn:f.name= "_"
         ·simp only [List.forIn_cons,aec,hn,ne_eq,not_true_eq_false,if_false,adb,aiC];exact ih (λy hy=>each y (by simp [hy]))
         ·simp only [List.forIn_cons,aec,hn,ne_eq,not_false_eq_true,if_true,adb,sw,rM,aiC];exact ih (λy hy=>each y (by simp [hy]))
       ·rw [dK,hkv,hkv];rfl
       ·rw [dK,hkv,hkv];have:=Fz (P:=P) (w:=w) 20 kt' _ Vi 9980 (.agg (x.flatMap DX).toArray) (.agg (y.flatMap DX).toArray) (x.flatMap DX) (y.flatMap DX) (by simp [uv,hd]) (by simp [uv,hd]) (NO hx) (NO hy);rw [acV hx hy] at this;exact this
      ·cases hkk
     ·cases hk
    ·cases rM
   ·cases hb
end Dn
/-
  Functions that are handed a variable do what their abstract run says. Conditions: none.
-/
namespace Dn
open Go
section
variable {P:Program}{c:Ctx}{Z:bC} {e e':Env}{st bY:St} {a a':Act} {w w':World}{R:Type}{r:R}
theorem VK {rs:List ResultVar}(hT:ia P c.ti): ∀{e:Env} {st:St} {K:List MV->St->Option R},bS c Z e st a w->U5 c st rs K=some r-> ∃e' bY ms vs,bS c Z e' bY a w/\Ext Z.In e e'/\(rs.mapM (ic a.tmps)).run P w= .ok vs w/\bg e'.key e'.φ vs ms/\K ms bY=some r:=by
 induction rs with
 |nil=>intro e st K h hK;exact ⟨e,st,[],[],h,.refl _ _,by simp,rfl,hK⟩
 |cons x rs ih=>
  intro e st K h hK;have go: ∀(s:Slot) (v:Value),ab e v s->(ic a.tmps x).run P w= .ok v w->(mW st s λm st=>U5 c st rs λms st=>K (m::ms) st)=some r-> ∃e' bY ms vs,bS c Z e' bY a w/\Ext Z.In e e'/\((x::rs).mapM (ic a.tmps)).run P w= .ok vs w/\bg e'.key e'.φ vs ms/\K ms bY=some r:=by
   intro s v hs bF hK;obtain ⟨e1,eJ,m,h1,h2,h3,h4,hK⟩:=ol h hs hK;obtain ⟨e2,eg,ms,vs,q1,q2,q3,q4,hK⟩:=ih h1 hK;refine ⟨e2,eg,m::ms,v::vs,q1,h2.trans q2,?_,⟨v,vs,rfl,?_,q4⟩,hK⟩
   ·simp [List.mapM_cons,bF,q3]
   ·have:=h4.mono q2.on.φ;rw [<-q2.on.key] at this;exact this
  simp only [U5] at hK;cases x with
  |tmp t=>
   simp only at hK;have hs:=h.slot t;by_cases hb: ∃cs,aq st.fr t= .box cs
   ·obtain ⟨cs,hb⟩:=hb;rw [hb] at hK;simp [mW] at hK
   ·refine go (aq st.fr t) (a.tmps.getD t undef) ?_ rfl hK;generalize aq st.fr t=s at hs hb;cases s<;>first|exact hs|exact absurd ⟨_,rfl⟩ hb
  |cell b t=>
   simp only at hK;have hs:=h.slot b;split at hK
   ·rename_i I cs hI hb;obtain ⟨Lt,OL⟩:=bj hI;rw [hb] at hs;obtain ⟨hv,CV⟩:=hs;cases zT:eT cs||zt b with
    |true=>simp [zT] at hK
    |false=>
    obtain ⟨uJ,hpb⟩:=adg.1 zT;simp only [zT,cond_false] at hK;have hv:=hv.1 hpb;rw [sP uJ] at hv;obtain ⟨arr,T,cz,pI⟩:=CV.cells uJ;have hm:w.rangeAt (e.B b) 0 arr.toList:=by intro j v hj;rw [afz,cell_of cz];simpa using hj
    obtain ⟨v,s,h1,h2,h3,h4⟩:=jc (P:=P) (st:=st) (s:= .skip) (hT t I Lt) OL pI hm hK;refine go s v h2 ?_ h4;simpa [ic,hv,asAddr,Instr.loadAt,Instr.sureAddr] using h1 w hm
   ·simp at hK
theorem HQ {key:Nat->Nat} {φ:Ph}{v:Value}{m:MV}(h:di key φ v (.cell m)):False:=by have:=h.1;simp [MV.one] at this
theorem aj2 (off pos:Nat):zt (1000000+off *1000+pos)=true:=agS (by omega)
theorem Zy {f pos:Nat}{ks:List LK}{fn:Func}{bV:List (List Kd)}{ms:List MV}{m:MV}(hG:Good P c)(hD:TU P c)(hf:P.funcs[f]? =some fn)(zV:(fn.name== "runtime.NumGoroutine")=false)
 (hn:c.n=fn.ntmps) (hnp:fn.ntmps<=1000000) (pJ:fn.params.size+bV.length<=fn.ntmps) (hg:c.dA (c.key f)=true) (xw:c.sig (c.key f)=some (pos,ks)) (hb:Lo c bV pos ks fn ms=some m):gh P c f ms m:=by
 intro φ w Z vs hz dL iQ;unfold Lo at hb;cases je:fn.body with
 |none=>simp [je] at hb
 |some b=>
 simp only [je] at hb;split at hb;rotate_left
 ·simp at hb
 rename_i b' off ls CR zT;cases CR;cases mP:!iL c ks||!afe pos 999 with
 |true=>simp [mP] at hb
 |false=>
 simp only [mP,cond_false] at hb;simp only [adg,ah8] at mP;obtain ⟨iJ,eD⟩:=mP;have eD:=abP eD;simp only [dS,hg,if_true] at dL;have hC:afd c Z φ w (c.key f) vs ms:=by
  rcases dL with ⟨v0,v1,v2,xs,m1,ys,_,rfl,_,h4,_⟩|⟨v0,v1,v2,xs,m1,m2,_,rfl,_,_,h4,h5⟩|h
  ·exfalso;rcases pos with _|_|_|pos<;>simp at zT;subst zT;exact HQ h4
  ·exfalso;rcases pos with _|_|_|pos<;>simp at zT
   ·subst zT;exact HQ h4
   ·subst zT;exact HQ h5
  ·exact h
 obtain ⟨pos',ks',Rn,yy,a8,yu,hvp,agU,wu,rL⟩:=hC;rw [xw] at yu;simp only [AS,ab2] at yu;obtain ⟨rfl,rfl⟩:=yu;rw [zT] at agU;simp only [AS,MV.cell.injEq,MV.func.injEq] at agU;obtain ⟨rfl,rfl⟩:=agU;obtain ⟨cs,mm,E,arr,T,zS,cz,hzb,ou,pI,gd,eU⟩:=rL;let e:Env:=⟨c.key,φ,E,λ_=>a8,mm⟩
 have bF:(callFunc f vs.toArray).run P w= .ok (.enter f vs.toArray) w:=by
  have Hi: ¬fn.name= "runtime.NumGoroutine" :=by simpa using zV
  simp [callFunc,hf,Hi,je]
 unfold dR;rw [bF];refine calls_of_wp hf je ?_;have wu:bg e.key e.φ vs (ms.set pos (.rp [])):=wu;obtain ⟨fr,rest,mQ,uu,hb,rfl,l1,a2,k1,s1⟩:=Fx wu hb;obtain ⟨pT,hb,l2,k2,s2⟩:=LQ a2 hb;simp only [xg] at hb;obtain ⟨fU,aj3,AG,g1,hb⟩:=km hb;cases aj3 with
 |cons=>simp [gN] at hb
 |nil=>
 simp only [gN] at hb;have jK:cs=fU/\mm=AG.aP:=by unfold LC at zS;rw [g1] at zS;simp only [gN,AS,ab2] at zS;exact ⟨zS.1.symm,zS.2.symm⟩
 obtain ⟨rfl,hmm⟩:=jK;rw [<-hmm] at hb;have htn:(mQ++uu).toArray.size=fn.params.size+bV.length:=by simp [l1,l2]
 let a:Act:={tmps:=(mQ++uu).toArray++IN (fn.ntmps-(mQ++uu).toArray.size) undef,defers:=[]}
 have KE: ∀(t:Nat) (v:Value),(mQ++uu)[t]? =some v->a.tmps.getD t undef=v:=by intro t v ht;have cI:t<(mQ++uu).length:=(ab0.1 ht).1;rw [ab8];show (((mQ++uu).toArray++IN _ undef)[t]?).getD undef=v;rw [Array.getElem?_append_left (by simpa using cI)];simp only [List.getElem?_toArray];rw [ht];rfl
 have HJ: ∀t,dq (aq (fr++pT) t)=false/\(∀cs,aq (fr++pT) t≠ .box cs)/\ab e (a.tmps.getD t undef) (aq (fr++pT) t):=by
  intro t;rw [zE];by_cases h1:t∈aN fr
  ·simp only [h1,if_true];obtain ⟨g1,g2,v,g3,g4⟩:=s1 _ (C4 h1);refine ⟨g1,?_,?_⟩
   ·intro cs hc;simp only [hc,cV] at g2;cases g2
   ·rw [KE t v ?_];exact g4;have cI:t<mQ.length:=(ab0.1 g3).1;rw [agb cI];exact g3
  ·simp only [h1,if_false];by_cases h2:t∈aN pT
   ·obtain ⟨g1,g2,v,g3,g4⟩:=s2 _ (C4 h2);refine ⟨g1,g2,?_⟩;rw [KE t v ?_];exact g4;have hk:=h2;rw [k2,aiq] at hk;obtain ⟨i,hi,he⟩:=hk;have zM:fn.params.size=mQ.length:=by rw [l1];simp
    rw [abR (by omega),<-zM];exact g3
   ·rw [su _ _ h2];exact ⟨rfl,λcs hc=>(by cases hc),by simp [ab]⟩
 obtain ⟨q,hq⟩: ∃q,q=1000000+off *1000+pos:=⟨_,rfl⟩
 have RY:zt q=true:=by rw [hq];exact aj2 off pos
 have hpo:posOf q=pos:=by rw [hq];unfold posOf;omega
 have hof:OU q=off:=by rw [hq];unfold OU;omega
 rw [<-hq] at hb;let Zc:bC:={bC.plain Z with cA:=[pos],T:=λ_=> .pointer (some ⟨a8,off,none⟩)}
 have aj4:a.tmps.getD pos undef= .pointer (some ⟨a8,off,none⟩):=KE pos _ hvp;have Pw: ∀t,aq ((q,Slot.box cs)::(fr++pT)) t=if t=q then .box cs else aq (fr++pT) t:=by
  intro t;simp only [aq,fm];by_cases VL:t=q
  ·subst VL;simp
  ·have: ¬q=t:=λh=>VL h.symm;simp [VL,this]
 have TX:aN (fr++pT)=aiF 0 (fn.params.toList.length+bV.length):=by
  have:aN (fr++pT)=aN fr++aN pT:=by simp [aN]
  rw [this,k1,k2];have:=List.range'_append_1 (s:=0) (m:=fn.params.toList.length) (n:=bV.length);simpa using this
 have afp: ∀t ds,aq ((q,Slot.box cs)::(fr++pT)) t= .box ds->t=q:=by
  intro t ds ht;rw [Pw] at ht;by_cases VL:t=q
  ·exact VL
  ·rw [if_neg VL] at ht;exact absurd ht ((HJ t).2.1 ds)
 have oO:bS c Zc e ⟨[pos],[],(q,.box cs)::(fr++pT),mm⟩ a w:=by
  refine ⟨⟨rfl,rfl,rfl,λt ht=> ?_⟩,?_,rfl,rfl,?_,?_,?_,λf o ho=> ?_,λt t' cs fU h1 h2 cR=> ?_,λt ds f o h1 ho=> ?_,λf f' o o' k h1 h2 h3 h4=>eU f f' o o' k h1 h2 h3 h4,iQ,hz⟩
  ·have:t=pos:=by simpa [Zc] using ht
   rw [this];exact aj4
  ·show ((mQ++uu).toArray++IN (fn.ntmps-(mQ++uu).toArray.size) undef).size=c.n;rw [aid,Array.size_replicate,htn,hn];omega
  ·show (aN ((q,Slot.box cs)::(fr++pT))).Nodup;show (q::aN (fr++pT)).Nodup;rw [TX];refine acO.2 ⟨λhm=> ?_,List.nodup_range'⟩;rw [aiq] at hm;obtain ⟨i,hi,he⟩:=hm;have:fn.params.toList.length=fn.params.size:=by simp
   omega
  ·intro t;show bW Zc e w t _ (aq ((q,Slot.box cs)::(fr++pT)) t);rw [Pw];by_cases VL:t=q
   ·rw [if_pos VL,VL];exact ⟨⟨λhp=>(by rw [RY] at hp;cases hp),λ_=>⟨by rw [hpo];simp [Zc],by rw [hof]⟩⟩,⟨.inr hzb,⟨_,cz,rfl,pI⟩,ou⟩⟩
   ·rw [if_neg VL];obtain ⟨g1,g2,g3⟩:=HJ t;generalize aq (fr++pT) t=s at g1 g2 g3;cases s<;>first|exact g3|exact absurd rfl (g2 _)
  ·intro t;show cC _ (aq ((q,Slot.box cs)::(fr++pT)) t);rw [Pw];by_cases VL:t=q
   ·rw [if_pos VL];trivial
   ·rw [if_neg VL];exact wo (HJ t).1
  ·obtain ⟨I,cells,q1,q2,q3,q4,q5⟩:=(gd f o ho).1.row;exact ⟨I,cells,q1,q2,q3,q4,λb hb=>⟨.inr (q5 b hb).1,(q5 b hb).2.1,λhc=>by simp [Zc,bC.fz,bC.plain] at hc⟩⟩
  ·exact absurd ((afp t _ h1).trans (afp t' _ h2).symm) cR
  ·exact (gd f o ho).2
 refine TV hG hD b oO hb ?_;intro n e' bY a' w' h' t' hK;cases hle:afe n 1 with
 |false=>simp [hle] at hK
 |true=>
  simp only [hle,cond_true] at hK;obtain ⟨e2,eg,ns,us,q1,q2,q3,q4,hK⟩:=VK (P:=P) hG.ti h' hK;split at hK;rotate_left
  ·simp at hK
  rename_i yT BB;cases Tu:eT yT with
  |true=>simp [Tu] at hK
  |false=>
  simp only [Tu,cond_false] at hK;obtain ⟨outs,ps,ht,hK⟩:=B7 hK;simp only [AS] at hK;have pK:(results fn a'.tmps).run P w'= .ok (if h:us.toArray.size=1 then us.toArray[0] else .tuple us.toArray) w':=by
   have hm:(fn.results.mapM (ic a'.tmps)).run P w'= .ok us.toArray w':=by rw [Array.mapM_eq_mapM_toList];simp [q3]
   have Tu:results fn a'.tmps=(do let vs<-fn.results.mapM (ic a'.tmps);pure (if h:vs.size=1 then vs[0] else .tuple vs)):=by unfold results;congr 1
   rw [Tu];simp [hm]
  have aj5:=q1.slot q;rw [BB] at aj5;obtain ⟨_,hT⟩:=aj5.1.2 RY;have hB:e2.B q=a8:=by have hT:adv (some ⟨a8,off,none⟩)= .pointer (some ⟨e2.B q,OU q,none⟩):=hT;simp only [aiG,AS,Addr.mk.injEq] at hT;exact hT.1.symm
  have aj6:bx eg.cA q=false:=by
   rw [q1.defers.2.1];cases hh:bx Zc.cA q with
   |false=>rfl
   |true=>
    have:=(bu _ _).1 hh;have:q=pos:=by simpa [Zc] using this
    omega
  have hco:=(Hv q1 BB Tu iJ ht).wide (C1 q1 BB aj6 ht);have ON:e2.key=c.key:=q1.key;have PE: ∃φ',Trans Z φ w φ' w'/\oS φ' w'/\BC c Z φ' w' (c.key f) (mQ++uu) (if h:us.toArray.size=1 then us.toArray[0] else .tuple us.toArray) m:=by
   refine ⟨e2.φ,t'.trans q2.tr,q1.kZ,?_⟩;rw [ON] at q4;subst hK;refine ⟨?_,pos,ks,a8,off,xw,hvp,by rw [<-hB];exact hco⟩;by_cases YP: ∃m',ns=[m']
   ·obtain ⟨m',rfl⟩:=YP;obtain ⟨v,u,rfl,g1,g2⟩:=q4;have g2:u=[]:=g2;subst g2;simp only [abQ,List.length_singleton,dite_true];cases m'<;>first|exact g1|exact absurd g1.1 (by simp [MV.one])
   ·have hm:aiZ ns= .b8 ns:=by
     cases ns with
     |nil=>rfl
     |cons x l=>
      cases l with
      |nil=>exact absurd ⟨x,rfl⟩ YP
      |cons=>rfl
    have cR:us.toArray.size≠1:=by intro h1;have:=q4.length;rw [abQ] at h1;rw [h1] at this;obtain ⟨m1,h2⟩:=List.length_eq_one_iff.1 this.symm;exact YP ⟨m1,h2⟩
    rw [hm,dif_neg cR];exact Nt.args (by simpa using q4)
  match n,hle with
  |0,_=>exact ⟨h'.defers.1,_,pK,_,rfl,PE⟩
  |1,_=>exact ⟨h'.defers.1,_,pK,_,rfl,PE⟩
  |n+2,hle=>simp [afe] at hle
end
end Dn
/-
  Operations whose order is open. Conditions: none.
-/
namespace Dn
open Go
section
variable {P:Program}{c:Ctx}{ops:Array Oper}{N:Act->World->Prop}
def oY (N:Act->World->Prop):Exit->Act->World->Prop
 | .normal,a,w=>N a w
 |_,_,_=>False
def pX (c:Ctx)(oi:Oper)(ops:Array Oper)(i:Nat):Bool:=match ops[i]? with|some o=>Ky c o||sK oi o|none=>true
def yY (P:Program)(c:Ctx)(ops:Array Oper)(N:Act->World->Prop) (φ:Ph):Nat->Array Bool->Act->World->Prop
 |0,listed,a,w=>AT .any ops listed=[]/\N a w
 |fuel+1,listed,a,w=>(AT .any ops listed=[]->N a w)/\ ∀i∈AT .any ops listed,wpOp P ops (oY N) i (λa' w'=>((∀oi,pX c oi ops i=true->eL c oi w w')/\oS φ w')/\yY P c ops N φ fuel (listed.setIfInBounds i true) a' w') a w
theorem VM {φ φ':Ph}(hp:gZ φ φ'): ∀(fuel:Nat) (listed:Array Bool) (a:Act) (w:World),yY P c ops N φ' fuel listed a w->yY P c ops N φ fuel listed a w:=by
 intro fuel;induction fuel with
 |zero=>intro listed a w h;exact h
 |succ fuel ih=>intro listed a w h;exact ⟨h.1,λi hi=>wpOp_mono (λa w h=>⟨⟨h.1.1,λb o v hv=>h.1.2 b o v (hp b o v hv)⟩,ih _ _ _ h.2⟩) (h.2 i hi)⟩
theorem PL {φ:Ph}: ∀(fuel:Nat) (listed:Array Bool) (a:Act) (w:World),yY P c ops N φ fuel listed a w->wpAny P .any ops (oY N) fuel listed a w:=by
 intro fuel;induction fuel with
 |zero=>intro listed a w h;exact h
 |succ fuel ih=>intro listed a w h;exact ⟨h.1,λi hi=>wpOp_mono (λa w h=>ih _ _ _ h.2) (h.2 i hi)⟩
theorem R6 {oi oj p:Oper} {w w':World}(h1:sK oi p=true)(h2:sK oj p=true)(h:eL c oi w w'):eL c oj w w':=by
 unfold sK at h1 h2;split at h1
 ·rename_i t t' g1 g2;split at h2
  ·rename_i u u' g3 g4;rw [g2] at g4;cases g4;have e1:=sh h1;have e2:=sh h2;subst e1;subst e2;simpa [eL,RW,g1,g3] using h
  ·cases h2
 ·cases h1
theorem agV {j:Nat}{oi oj:Oper}{v:Value}(hj:ops[j]? =some oj)(wh:oi.apart ops oj=true)(hsi: ∀cs b,oi.op≠ .select cs b)(hsj: ∀cs b,oj.op≠ .select cs b){K:Act->World->Prop}{a:Act}{w:World}(h:wpOp P ops (oY N) j K (a.put oi.dst v) w): wpOp P ops (oY N) j (λa' w'=>(execOp a'.eval oi=execOp a.eval oi/\aaW oi (yielded ops a'.tmps)=aaW oi (yielded ops a.tmps))/\K (a'.put oi.dst v) w') a w:=by
 obtain ⟨h1,h2,h3⟩:=agN wh;have keep: ∀(a:Act) (u:Value),execOp (a.put oj.dst u).eval oi=execOp a.eval oi/\aaW oi (yielded ops (a.put oj.dst u).tmps)=aaW oi (yielded ops a.tmps):=λa u=>⟨execOp_put oi hsi a oj.dst u h3,wanted_put oi a oj.dst u h3⟩
 unfold wpOp at *;simp only [hj] at *;rw [wanted_put oj a oi.dst v h1] at h;split
 ·rename_i hw;simp only [hw,if_true] at h;rcases h with h|⟨aj7,Zz⟩;case inr=>obtain ⟨_,_,hf⟩:=Zz;exact hf.elim
  refine .inl ?_;unfold afA at *;rw [execOp_put oj hsj a oi.dst v h1] at h;generalize (execOp a.eval oj).run P w=r at *;cases r with
  |ok n w'=>
   cases n<;>simp only [afF] at h⊢;case value u=>exact ⟨keep a u,by rw [<-abX a v u h2];exact h⟩
   case skip=>exact ⟨keep a _,by rw [<-abX a v undef h2];exact h⟩
   case defer d=>refine ⟨keep _ _,?_⟩;rw [<-abX _ v undef h2,<-Act.put_defers];exact h
   case enter f args=>
    refine Calls.mono h λx AK he=> ?_;cases x with
    |returned u=>exact ⟨keep a u,by rw [<-abX a v u h2];exact he⟩
    |panicked c=>exact he
    |outgrown=>exact he
   case row row args=>exact Rows.mono h λu AK he=>⟨keep a u,by rw [<-abX a v u h2];exact he⟩
  |halt x w'=>cases x<;>simp only [afF] at h⊢;case panic u=>exact h
 ·rename_i hw;simp only [hw] at h;exact ⟨keep a _,by rw [<-abX a v undef h2];exact h⟩
def TY (P:Program)(c:Ctx)(ops:Array Oper) (φ:Ph)(o:Oper)(v:Value)(a:Act)(w:World):Prop:=(aaW o (yielded ops a.tmps)=true/\ ∀w',(jP c o=true->(still c o=false->eL c o w w')/\oS φ w')->(execOp a.eval o).run P w'= .ok (.value v) w')\/ (aaW o (yielded ops a.tmps)=false/\v=undef)
theorem xz {φ:Ph}{i:Nat}{oi:Oper}{v:Value}{D:List Nat}(hD: ∀j oj,j∈D->j≠i->ops[j]? =some oj-> ∃e∈oj.after,adn .any e=true/\e.on∈D)(hi:ops[i]? =some oi)(KM: ∀(j:Nat)(o:Oper) cs b,ops[j]? =some o->o.op≠ .select cs b): ∀(fuel:Nat) (listed:Array Bool) (a:Act) (w:World),(∀j oj,ops[j]? =some oj->j∉D->j≠i->listed.getD j true=false->oi.apart ops oj=true/\(jP c oi=true->still c oi=false->pX c oi ops j=true))->(∀d∈D,listed.getD d false=false)-> i∈AT .any ops listed->TY P c ops φ oi v a w->oS φ w-> yY P c ops N φ fuel (listed.setIfInBounds i true) (a.put oi.dst v) w->yY P c ops N φ (fuel+1) listed a w:=by
 have self: ∀(fuel:Nat) (listed:Array Bool) (a:Act) (w:World),TY P c ops φ oi v a w->oS φ w->yY P c ops N φ fuel (listed.setIfInBounds i true) (a.put oi.dst v) w-> wpOp P ops (oY N) i (λa' w'=>((∀oi,pX c oi ops i=true->eL c oi w w')/\oS φ w')/\yY P c ops N φ fuel (listed.setIfInBounds i true) a' w') a w:=by
  intro fuel listed a w hy hm H;unfold wpOp;simp only [hi];rcases hy with ⟨hw,hv⟩|⟨hw,rfl⟩
  ·simp only [hw,if_true,afA,hv w (λ_=>⟨λ_=>(db.refl w).for,hm⟩),afF];exact .inl ⟨⟨λ_ _=>(db.refl w).for,hm⟩,H⟩
  ·simp only [hw,IT,if_false];exact ⟨⟨λ_ _=>(db.refl w).for,hm⟩,H⟩
 intro fuel;induction fuel with
 |zero=>
  intro listed a w _ _ hr hy hm H;refine ⟨λh=>(by rw [h] at hr;cases hr),λj hj=> ?_⟩;by_cases XG:j=i
  ·subst XG;exact self 0 listed a w hy hm H
  ·have:=ready_mono hj XG;rw [H.1] at this;cases this
 |succ fuel ih=>
  intro listed a w ou Gh hr hy hm H;refine ⟨λh=>(by rw [h] at hr;cases hr),λj hj=> ?_⟩;by_cases XG:j=i
  ·subst XG;exact self (fuel+1) listed a w hy hm H
  ·have h1:=H.2 j (ready_mono hj XG);obtain ⟨PM,oj,R7,sR⟩:=mem_ready.1 hj;have hjD:j∉D:=by intro hjd;obtain ⟨e,he,hb,rS⟩:=hD j oj hjd XG R7;have h1:=sR e he hb;rw [Gh e.on rS] at h1;cases h1
   obtain ⟨wh,Q6⟩:=ou j oj R7 hjD XG PM;have h2:=agV R7 wh (λcs b=>KM i oi cs b hi) (λcs b=>KM j oj cs b R7) h1;have aj8: ∀d∈D,(listed.setIfInBounds j true).getD d false=false:=by intro d hd;rw [getD_set_ne false (λhe=>hjD (by rw [he];exact hd))];exact Gh d hd
   have agW: ∀k ok,ops[k]? =some ok->k∉D->k≠i->(listed.setIfInBounds j true).getD k true=false->oi.apart ops ok=true/\(jP c oi=true->still c oi=false->pX c oi ops k=true):=λk ok hk hkD hki Y9=>by
    refine ou k ok hk hkD hki ?_;by_cases hjk:j=k
    ·subst hjk;exact PM
    ·rw [getD_set_ne true hjk] at Y9;exact Y9
   refine wpOp_mono (λa' w' h3=>⟨h3.2.1,ih (listed.setIfInBounds j true) a' w' agW aj8 (ready_mono hr (aiD XG)) ?_ h3.2.1.2 ?_⟩) h2
   ·obtain ⟨⟨he,hwn⟩,⟨hg,_⟩,_⟩:=h3;rcases hy with ⟨hw,hv⟩|⟨hw,rfl⟩
    ·refine .inl ⟨by rw [hwn];exact hw,λAK TB=> ?_⟩;rw [he];exact hv AK (λhl=>⟨λhs=>(hg oi (Q6 hl hs)).trans ((TB hl).1 hs),(TB hl).2⟩)
    ·exact .inr ⟨by rw [hwn];exact hw,rfl⟩
   ·rw [agd _ _ XG];exact h3.2.2
variable {Z:bC}{R:Type}{K:St->Option R}{r:R}
theorem VN (op:Op):Rq op=op.operands.toList:=by
 cases op<;>first|rfl|simp [Rq,Op.operands,Call.operands]
 all_goals first|rfl|(rename_i c;cases c.callee<;>simp)
theorem ZA (l:List Operand):O2 l=l.filterMap λ| .tmp t=>some t|_=>none:=by
 induction l with
 |nil=>rfl
 |cons x l ih=>cases x<;>simp [O2,ih]
theorem L0 (o:Oper):Na ops.toList o=o.looksAt ops:=by
 unfold Na Oper.looksAt;rw [VN,ZA];congr 1;cases o.guard with
 |none=>rfl
 |some g=>obtain ⟨g,wnt⟩:=g;simp only [ae6];cases ops[g]? <;>rfl
theorem AV {x y:Oper}(h:G8 ops.toList x y=true):x.apart ops y=true:=by
 unfold G8 at h;unfold Oper.apart;rw [L0,L0] at h;have hn: ∀(l:List Nat) (d:Nat),bx l d=l.contains d:=by intro l d;have:=bu l d;cases h1:bx l d<;>cases h2:l.contains d<;>simp_all
 cases hx:x.dst<;>cases hy:y.dst<;>simp_all [bne,fm]
theorem pY (e:Edge):G9 e=adn .any e:=by unfold G9 adn;cases e.ground<;>rfl
structure XH (ops:Array Oper) (listed:Array Bool) (pre:List Nat):Prop where
 size:listed.size=ops.size
 mem: ∀i,i<ops.size->(listed.getD i true=true↔i∈pre)
theorem XH.set {listed:Array Bool}{pre:List Nat}{x:Nat}(h:XH ops listed pre)(hx:x<ops.size):XH ops (listed.setIfInBounds x true) (x::pre):=by
 refine ⟨by simpa using h.size,λi hi=> ?_⟩;by_cases PN:x=i
 ·subst PN;have:x<listed.size:=by rw [h.size];exact hx
  simp [this]
 ·rw [getD_set_ne true PN,h.mem i hi];simp only [By];exact ⟨.inr,λhh=>hh.resolve_left (λhe=>PN he.symm)⟩
theorem XH.oZ {listed:Array Bool}{pre:List Nat}{i:Nat}(h:XH ops listed pre)(hi:i<ops.size):listed.getD i true=false↔i∉pre:=by rw [<-h.mem i hi];cases listed.getD i true<;>simp
theorem XH.done {listed:Array Bool}{pre:List Nat}{i:Nat}(h:XH ops listed pre)(hi:i<ops.size):listed.getD i false=true↔i∈pre:=by
 rw [<-h.mem i hi];have hl:i<listed.size:=by rw [h.size];exact hi
 simp [hl]
theorem lU: ∀(rest pre:List Nat),qK c ops.toList pre rest=true-> ∀z∈rest,z∉pre:=by
 intro rest;induction rest with
 |nil=>intro pre _ z hz;cases hz
 |cons y rest ihr=>
  intro pre hd z hz;simp only [qK] at hd;cases hy:ops.toList[y]? with
  |none=>simp [hy] at hd
  |some oy=>
   simp only [hy,bN,OF] at hd;rcases By.1 hz with rfl|hz
   ·rw [<-bu,hd.1.1.1.2];simp
   ·exact λhzp=>ihr (y::pre) hd.2 z hz (by simp [hzp])
theorem vB {o:Oper}{x:Nat}: ∀(rest D0:List Nat),qJ c ops.toList o D0 rest=true->(∀y,y∈D0->y≠x-> ∃p,ops[y]? =some p/\ ∃e∈p.after,adn .any e=true/\e.on∈D0)-> ∃D:List Nat,(∀y∈D0,y∈D)/\(∀y∈D,y∈D0\/y∈rest)/\(∀j oj,j∈D->j≠x->ops[j]? =some oj-> ∃e∈oj.after,adn .any e=true/\e.on∈D)/\ (∀y∈rest,y∉D-> ∃p,ops[y]? =some p/\o.apart ops p=true/\(jP c o=true->still c o=false->(Ky c p||sK o p)=true)):=by
 intro rest;induction rest with
 |nil=>intro D0 _ h0;refine ⟨D0,λy hy=>hy,λy hy=> .inl hy,λj oj hj cR ho=> ?_,λy hy=>by cases hy⟩;obtain ⟨p,hp,he⟩:=h0 j hj cR;rw [ho] at hp;cases hp;exact he
 |cons y rest ih=>
  intro D0 h h0;simp only [qJ] at h;cases hy:ops.toList[y]? with
  |none=>simp [hy] at h
  |some p=>
   simp only [hy] at h;have hy':ops[y]? =some p:=by simpa using hy
   cases he:xf p (bx D0) with
   |true=>
    simp only [he,cond_true] at h;obtain ⟨D,D1,D2,D3,D4⟩:=ih (y::D0) h (by
     intro z hz cR;rcases By.1 hz with rfl|hz
     ·unfold xf at he;obtain ⟨ed,VO,hb⟩:=ago.1 he;simp only [bN,pY] at hb;exact ⟨p,hy',ed,by simpa using VO,hb.1,by simp [(bu _ _).1 hb.2]⟩
     ·obtain ⟨q,hq,ed,h1,h2,h3⟩:=h0 z hz cR;exact ⟨q,hq,ed,h1,h2,by simp [h3]⟩)
    refine ⟨D,λz hz=>D1 z (by simp [hz]),λz hz=> ?_,D3,λz hz hzD=> ?_⟩
    ·rcases D2 z hz with h1|h1
     ·rcases By.1 h1 with h1|h1
      ·exact .inr (by simp [h1])
      ·exact .inl h1
     ·exact .inr (by simp [h1])
    ·rcases By.1 hz with rfl|hz
     ·exact absurd (D1 z (by simp)) hzD
     ·exact D4 z hz hzD
   |false=>
    simp only [he,cond_false,bN,afw,OF] at h;obtain ⟨⟨h1,h2⟩,h3⟩:=h;obtain ⟨D,D1,D2,D3,D4⟩:=ih D0 h3 h0;refine ⟨D,D1,λz hz=>(D2 z hz).imp id (λh=>by simp [h]),D3,λz hz hzD=> ?_⟩;rcases By.1 hz with rfl|hz
    ·refine ⟨p,hy',AV h1,λhl hs=> ?_⟩;rcases h2 with ((h2|h2)|h2)|h2
     ·rw [hl] at h2;cases h2
     ·simp [h2]
     ·rw [hs] at h2;cases h2
     ·simp [h2]
    ·exact D4 z hz hzD
def bC.outs (Z:bC)(bs:List Nat):bC:={Z with In:=λb=>Z.In b/\b∉bs,Pr:=λb=>Z.Pr b/\b∉bs}
theorem bS.zW {Z Z':bC}{e:Env}{st:St}{a:Act}{w:World}(h:bS c Z e st a w)(hI: ∀b,Z.In b->Z'.In b)(hP: ∀b,Z.Pr b->Z'.Pr b)(h1:Z'.cA=Z.cA)(h2:Z'.cy=Z.cy)(h3:Z'.T=Z.T)(h4:Z'.cov=Z.cov):bS c Z' e st a w:=by
 refine ⟨by rw [h1,h2,h3];exact h.defers,h.size,h.m,h.key,h.nodup,λt=> ?_,h.root,λf o ho=> ?_,h.bb,h.bf,h.ff,h.kZ,λb hb=>hI b (h.ch b hb)⟩
 ·have hs:=h.slot t;generalize aq st.fr t=s at hs;cases s<;>simp only [bW] at hs⊢ <;>first|exact hs|skip
  exact ⟨⟨hs.1.1,λhp=>by rw [h1,h3];exact hs.1.2 hp⟩,⟨by rcases hs.2.ch with ⟨x,y⟩|x;exact .inl ⟨by rw [h1];exact x,hP _ y⟩;exact .inr (hI _ x),hs.2.obj,hs.2.free⟩⟩
 ·obtain ⟨I,cells,g1,g2,g3,g4,g5⟩:=(h.iK f o ho).row;refine ⟨I,cells,g1,g2,g3,g4,λa8 hb=> ?_⟩;obtain ⟨k1,k2,k3⟩:=g5 a8 hb;refine ⟨?_,k2,λhc hz j hj=>k3 (by have hc:f∈Z'.cy:=hc;rw [h2] at hc;exact hc) hz j hj⟩;rcases k1 with ⟨x,y⟩|x
  ·exact .inl ⟨by rw [h2];exact x,hP _ y⟩
  ·exact .inr (hI _ x)
theorem bS.narrow {e:Env}{st:St}{a:Act} {w w':World}{bs:List Nat}(h:bS c (Z.outs bs) e st a w)(g:db w w')(hs:w.heap.size<w'.heap.size):bS c (Z.outs (w.heap.size::bs)) e st a w':=by
 have h':=h.grow g;have rX: ∀b,b<w.heap.size->(Z.outs bs).In b->(Z.outs (w.heap.size::bs)).In b:=λb hb hi=>⟨hi.1,by simp only [By,not_or];exact ⟨by omega,hi.2⟩⟩
 have Hp: ∀b,b<w.heap.size->(Z.outs bs).Pr b->(Z.outs (w.heap.size::bs)).Pr b:=λb hb hi=>⟨hi.1,by simp only [By,not_or];exact ⟨by omega,hi.2⟩⟩
 refine ⟨h'.defers,h'.size,h'.m,h'.key,h'.nodup,λt=> ?_,h'.root,λf o ho=> ?_,h'.bb,h'.bf,h'.ff,h'.kZ,λb hb=> ?_⟩
 ·have hs:=h.slot t;have yu:=h'.slot t;generalize aq st.fr t=s at hs yu;cases s<;>simp only [bW] at hs yu⊢ <;>first|exact yu|skip
  obtain ⟨o2,k1,_⟩:=hs.2.obj;have hl:=aZ k1;exact ⟨yu.1,⟨by rcases yu.2.ch with ⟨x,y⟩|x;exact .inl ⟨x,Hp _ hl y⟩;exact .inr (rX _ hl x),yu.2.obj,yu.2.free⟩⟩
 ·obtain ⟨I,cells,g1,g2,g3,g4,g5⟩:=(h'.iK f o ho).row;refine ⟨I,cells,g1,g2,g3,g4,λa8 hb=> ?_⟩;obtain ⟨k1,k2,k3⟩:=g5 a8 hb;refine ⟨?_,k2,k3⟩;have hl:a8<w.heap.size:=by
   obtain ⟨I',Ym,l1,l2,l3,l4,l5⟩:=(h.iK f o ho).row;rcases l3.2 with ⟨hv,_⟩|⟨gg,cap,cY,hv,_,hg,_⟩
   ·rw [hv] at hb;simp [aeW] at hb
   ·rw [hv] at hb;simp only [aeW,AS] at hb;have:=aZ hg;omega
  rcases k1 with ⟨x,y⟩|x
  ·exact .inl ⟨x,Hp _ hl y⟩
  ·exact .inr (rX _ hl x)
 ·refine ⟨(h.ch b (by omega)).1,?_⟩;simp only [By,not_or];exact ⟨by omega,(h.ch b (by omega)).2⟩
def vOf (b:Nat):Value:= .pointer (some ⟨b,0,none⟩)
def wv (ops:Array Oper)(i:Nat):Option Nat:=match ops[i]? with
 |some o=>o.dst
 |none=>none
def vC (ops:Array Oper):List (Nat×Nat)->Act->Act
 |[],a=>a
 |p::r,a=>(vC ops r a).put (wv ops p.1) (vOf p.2)
structure acZ (c:Ctx) (Z:bC) (ops:Array Oper) (e:Env) (w:World) (p:Nat×Nat):Prop where
 row: ∃o t I d arr T,ops[p.1]? =some o/\Ga o=true/\o.op= .alloc t/\c.tv t=some I/\o.dst=some d/\w.heap[p.2]? =some (.cells arr T (0,0))/\ ∀e':Env,av e' arr.toList I.zero
 free: ∀off,e.φ p.2 off=none
 ch:Z.In p.2
theorem AW {o:Oper}(h:Ga o=true): ∃t d,o.op= .alloc t/\o.dst=some d/\o.guard=none/\ ∀e∈o.after,adn .any e=false:=by
 unfold Ga at h;split at h
 ·rename_i t d h1 h2 h3;refine ⟨t,d,h1,h2,h3,λe he=> ?_⟩;have:=abK.1 h e (by simpa using he);simpa [pY] using this
 ·cases h
theorem Ca {t:TypeId}{I:TI}(hI:c.tv t=some I)(hT:ia P c.ti): ∃i z,P.info? t=some i/\i.zero=some z/\ ∀e:Env,av e z.cells.toList I.zero:=by
 obtain ⟨lQ,hc⟩:=bj hI;obtain ⟨d,i,h1,h2,h3,h4⟩:=hT t I lQ;suffices hz: ∃z,i.zero=some z/\ ∀e:Env,av e z.cells.toList I.zero by obtain ⟨z,h5,h6⟩:=hz;exact ⟨i,z,h2,h5,h6⟩
 cases d<;>simp only [rT] at h4;case struct fs=>obtain ⟨_,_,_,_,_,_,cs,hz,hl,_⟩:=h4;exact ⟨_,hz,λe=>by simpa [aio] using lR hl⟩
 case tuple ts=>exact absurd hc h4.2.1
 case slice el=>obtain ⟨_,_,_,_,_,hz,hl,_⟩:=h4;exact ⟨_,hz,λe=>by rw [hl];exact ⟨[.slice none 0 0],[],rfl,rfl,rfl⟩⟩
 case array n el=>obtain ⟨_,_,_,_,_,_,_,hl,hz⟩:=h4;exact ⟨_,hz,λe=>by rw [hl];exact ⟨bq kM.zero,[],by simp [aio],rfl,rfl⟩⟩
 case bool=>obtain ⟨_,_,_,_,hl,hz⟩:=h4;exact ⟨_,hz,λe=>by rw [hl];exact ⟨[.bool false],[],rfl,⟨rfl,.b _⟩,rfl⟩⟩
 case int k=>obtain ⟨_,_,_,_,hl,hz⟩:=h4;exact ⟨_,hz,λe=>by rw [hl];exact ⟨[.int k 0],[],rfl,⟨rfl,.i _ _⟩,rfl⟩⟩
 case string=>obtain ⟨_,_,_,_,hl,b,hz,hb⟩:=h4;refine ⟨_,hz,λe=>by rw [hl];refine ⟨[.string b],[],rfl,⟨rfl,?_⟩,rfl⟩;rw [<-hb];exact .s b⟩
 all_goals
  obtain ⟨_,_,_,_,v,hz,hv,hl⟩:=h4;refine ⟨v,hz,λe=> ?_⟩;have:v.cells.toList=[v]:=by cases v<;>simp_all [aio,Value.oneCell']
  rw [this];exact lR hl
theorem FA {o:Oper}(hs: ∀cs b,o.op≠ .select cs b)(a:Act): ∀(pd:List (Nat×Nat)),(∀p∈pd,∀d,wv ops p.1=some d->d∉o.looksAt ops)-> execOp (vC ops pd a).eval o=execOp a.eval o/\aaW o (yielded ops (vC ops pd a).tmps)=aaW o (yielded ops a.tmps)
 |[],_=>⟨rfl,rfl⟩
 |p::r,h=>by obtain ⟨h1,h2⟩:=FA hs a r (λq hq=>h q (by simp [hq]));have hp:=h p (by simp);exact ⟨(execOp_put o hs _ _ _ hp).trans h1,(wanted_put o _ _ _ hp).trans h2⟩
theorem C6 (a:Act)(y:Option Nat)(v:Value): ∀(pd:List (Nat×Nat)),(∀p∈pd,∀d,wv ops p.1=some d->y≠some d)->(vC ops pd a).put y v=vC ops pd (a.put y v)
 |[],_=>rfl
 |p::r,h=>by simp only [vC];rw [abX _ _ _ (λd hd=>h p (by simp) d hd),C6 a y v r (λq hq=>h q (by simp [hq]))]
theorem ac0 {j:Nat}{oj:Oper}{x:Option Nat}{v:Value}(hj:ops[j]? =some oj)(h1: ∀d,x=some d->d∉oj.looksAt ops)(h2: ∀d,x=some d->oj.dst≠some d)(hsj: ∀cs b,oj.op≠ .select cs b){K:Act->World->Prop}{a:Act}{w:World}(h:wpOp P ops (oY N) j K a w): wpOp P ops (oY N) j (λa' w'=> ∃a'',a'=a''.put x v/\K a'' w') (a.put x v) w:=by
 unfold wpOp at *;simp only [hj] at *;rw [wanted_put oj a x v h1];split
 ·rename_i hw;simp only [hw,if_true] at h;rcases h with h|⟨aj7,Zz⟩;case inr=>obtain ⟨_,_,hf⟩:=Zz;exact hf.elim
  refine .inl ?_;unfold afA at *;rw [execOp_put oj hsj a x v h1];generalize (execOp a.eval oj).run P w=r at *;cases r with
  |ok n w'=>
   cases n<;>simp only [afF] at h⊢;case value u=>exact ⟨_,abX a v u h2,h⟩
   case skip=>exact ⟨_,abX a v undef h2,h⟩
   case defer d=>refine ⟨{a.put oj.dst undef with defers:=d::(a.put oj.dst undef).defers},?_,by simpa [Act.put_defers] using h⟩;have:=abX a v undef h2;cases x<;>cases hd:oj.dst<;>simp_all [Act.put]
   case enter f args=>
    refine Calls.mono h λy AK he=> ?_;cases y with
    |returned u=>exact ⟨_,abX a v u h2,he⟩
    |panicked c=>exact he
    |outgrown=>exact he
   case row row args=>exact Rows.mono h λu AK he=>⟨_,abX a v u h2,he⟩
  |halt y w'=>cases y<;>simp only [afF] at h⊢;case panic u=>exact h
 ·rename_i hw;simp only [hw] at h;exact ⟨_,abX a v undef h2,h⟩
theorem TZ {j:Nat}{oj:Oper}(hj:ops[j]? =some oj)(hsj: ∀cs b,oj.op≠ .select cs b){K:Act->World->Prop}{a:Act}{w:World}(h:wpOp P ops (oY N) j K a w): ∀(pd:List (Nat×Nat)),(∀p∈pd,∀d,wv ops p.1=some d->d∉oj.looksAt ops/\oj.dst≠some d)->wpOp P ops (oY N) j (λa' w'=> ∃a'',a'=vC ops pd a''/\K a'' w') (vC ops pd a) w
 |[],_=>wpOp_mono (λa' w' hk=>⟨a',rfl,hk⟩) h
 |p::r,hp=>by have h1:=TZ hj hsj h r (λq hq=>hp q (by simp [hq]));have h2:=ac0 (v:=vOf p.2) hj (λd hd=>(hp p (by simp) d hd).1) (λd hd=>(hp p (by simp) d hd).2) hsj h1;refine wpOp_mono ?_ h2;rintro a' w' ⟨a1,rfl,a2,rfl,hk⟩;exact ⟨a2,rfl,hk⟩
theorem Er: ∀{l m:List Nat},l.Nodup->(∀x∈l,x∈m)->l.length<=m.length
 |[],m,_,_=>adG _
 |x::l,m,hn,hs=>by have hn:=acO.1 hn;have h1:l.length<=(m.erase x).length:=Er hn.2 λy hy=>(List.mem_erase_of_ne (λhe=>hn.1 (by rw [<-he];exact hy))).2 (hs y (by simp [hy]));have h2:=List.length_erase_of_mem (hs x (by simp));have h3:0<m.length:=List.length_pos_of_mem (hs x (by simp));simp only [abO];omega
theorem PO {x b:Nat}{o:Oper}(hdo:wv ops x=o.dst)(a:Act)(pr:List (Nat×Nat)): ∀(pl:List (Nat×Nat)),(∀p∈pl++pr,∀dd,wv ops p.1=some dd->o.dst≠some dd)->vC ops (pl++(x,b)::pr) a=vC ops (pl++pr) (a.put o.dst (vOf b))
 |[],h=>by simp only [acC,vC,hdo];exact C6 a o.dst (vOf b) pr (λp hp=>h p (by simp [hp]))
 |q::pl,h=>by simp only [ab1,vC];rw [PO hdo a pr pl (λp hp=>h p (by simp only [ab1,By];exact .inr hp))]
theorem XH.congr {listed:Array Bool} {l l':List Nat}(h:XH ops listed l)(he: ∀i,i∈l↔i∈l'):XH ops listed l':=⟨h.size,λi hi=>by rw [h.mem i hi,he]⟩
theorem PP {o:Oper}: ∀(rest D:List Nat),qJ c ops.toList o D rest=true-> ∀y∈rest,∀p,ops[y]? =some p->Ga p=true->o.apart ops p=true:=by
 intro rest;induction rest with
 |nil=>intro D _ y hy;cases hy
 |cons z rest ih=>
  intro D h y hy p hp Gg;simp only [qJ] at h;cases hz:ops.toList[z]? with
  |none=>simp [hz] at h
  |some q=>
   simp only [hz] at h;cases he:xf q (bx D) with
   |true=>
    simp only [he,cond_true] at h;rcases By.1 hy with rfl|hy
    ·exfalso;have hz':ops[y]? =some q:=by simpa using hz
     rw [hz'] at hp;cases hp;obtain ⟨_,_,_,_,_,cR⟩:=AW Gg;unfold xf at he;obtain ⟨ed,VO,hb⟩:=ago.1 he;simp only [bN,pY] at hb;rw [cR ed (by simpa using VO)] at hb;exact absurd hb.1 (by simp)
    ·exact ih _ h y hy p hp Gg
   |false=>
    simp only [he,cond_false,bN] at h;rcases By.1 hy with rfl|hy
    ·have hz':ops[y]? =some q:=by simpa using hz
     rw [hz'] at hp;cases hp;exact AV h.1.1
    ·exact ih _ h.2 y hy p hp Gg
theorem HR {o p:Oper}{y:Nat}(hp:ops[y]? =some p)(h:p.apart ops o=true\/o.apart ops p=true): ∀d,wv ops y=some d->d∉o.looksAt ops/\o.dst≠some d:=by
 intro d hd;have hd:p.dst=some d:=by simpa [wv,hp] using hd
 rcases h with h|h
 ·obtain ⟨h1,h2,h3⟩:=agN h;exact ⟨h1 d hd,h2 d hd⟩
 ·obtain ⟨h1,h2,h3⟩:=agN h;exact ⟨h3 d hd,λhe=>h2 d he hd⟩
theorem acZ.later {Z:bC}{bs:List Nat} {e e':Env} {w w':World}{p:Nat×Nat}(h:acZ c Z ops e w p)(hb:p.2∈bs)(t:Trans (Z.outs bs).In e.φ w e'.φ w'):acZ c Z ops e' w' p:=by obtain ⟨o,ty,I,d,arr,T,h1,h2,h3,h4,h5,h6,h7⟩:=h.row;have hn: ¬(Z.outs bs).In p.2:=λhh=>hh.2 hb;exact ⟨⟨o,ty,I,d,arr,T,h1,h2,h3,h4,h5,by rw [t.heap _ hn (aZ h6)];exact h6,h7⟩,λoff=>by rw [t.free _ off hn];exact h.free off,h.ch⟩
theorem Trans.wide {Z Z':Nat->Prop} {φ φ':Ph} {w w':World}(t:Trans Z φ w φ' w')(h: ∀b,Z b->Z' b):Trans Z' φ w φ' w':=⟨t.ph,λb hb hl=>t.heap b (λhz=>hb (h b hz)) hl,λb o hb=>t.free b o (λhz=>hb (h b hz)),t.size,t.rest⟩
theorem ac1 (hG:Good P c)(KM: ∀(j:Nat)(o:Oper) cs b,ops[j]? =some o->o.op≠ .select cs b) {φ0:Ph}{w0:World}(hN: ∀a' w',Out c Z K r φ0 w0 a' w'->N a' w'): ∀(m:Nat) (rest pre:List Nat) (pd:List (Nat×Nat)) (l:List Oper) (listed:Array Bool) (e:Env) (st:St) (a:Act) (w:World),2 *rest.length-pd.length<=m->bS c (Z.outs (pd.map (·.2))) e st a w->Bf c ops.toList l st K=some r->Trans Z.In φ0 w0 e.φ w->qo ops.toList rest=some l-> qK c ops.toList pre rest=true->XH ops listed (pd.map (·.1)++pre)->(∀i,i<ops.size->i∈pre\/i∈rest)->(∀i∈pre,i<ops.size)->(∀p∈pd,p.1∈rest)->(pd.map (·.1)).Nodup->(pd.map (·.2)).Nodup->(∀p∈pd,acZ c Z ops e w p)-> pd.length<=rest.length->yY P c ops N e.φ (rest.length-pd.length) listed (vC ops pd a) w:=by
 intro m;induction m with
 |zero=>
  intro rest pre pd l listed e st a w hm h hK ht hp hd hL sR ZB Hp KB Hi Xz hle;cases rest with
  |cons x rest=>simp only [abO] at hm hle;omega
  |nil=>
   cases pd with
   |cons p pd=>simp at hle
   |nil=>
    cases hp;have h':bS c Z e st a w:=h.zW (λb hb=>hb.1) (λb hb=>hb.1) rfl rfl rfl rfl;refine ⟨?_,hN a w ⟨e,st,h',ht,hK⟩⟩;cases hr:AT .any ops listed with
    |nil=>rfl
    |cons i is=>
     have hi:i∈AT .any ops listed:=by rw [hr];simp
     obtain ⟨h1,o,ho,_⟩:=mem_ready.1 hi;have cI:i<ops.size:=(aco.1 ho).1;exact absurd (by simpa using (sR i cI).resolve_right (by simp)) ((hL.oZ cI).1 h1)
 |succ m ihm=>
  intro rest pre pd l listed e st a w hm h hK ht hp hd hL sR ZB Hp KB Hi Xz hle;cases rest with
  |nil=>
   cases pd with
   |cons p pd=>simp at hle
   |nil=>exact ihm [] pre [] l listed e st a w (by simp) h hK ht hp hd hL sR ZB Hp KB Hi Xz hle
  |cons x rest=>
   simp only [qo] at hp;cases hox:ops.toList[x]? with
   |none=>simp [hox] at hp
   |some o=>
    cases hpk:qo ops.toList rest with
    |none=>simp [hox,hpk] at hp
    |some l'=>
     simp only [hox,hpk,AS] at hp;subst hp;have hx:ops[x]? =some o:=by simpa using hox
     have R8:x<ops.size:=(aco.1 hx).1;have hd0:=hd;simp only [qK,hox] at hd;simp only [bN,OF] at hd;obtain ⟨⟨⟨⟨d1,d2⟩,d3⟩,d4⟩,d5⟩:=hd;have zX:x∉pre:=by rw [<-bu,d2];simp
     have HS:x∉rest:=by rw [<-bu,d3];simp
     have T0: ∀i,i<ops.size->i∈x::pre\/i∈rest:=by
      intro i hi;rcases sR i hi with h1|h1
      ·exact .inl (by simp [h1])
      ·rcases By.1 h1 with h1|h1
       ·exact .inl (by simp [h1])
       ·exact .inr h1
     have afs: ∀i∈x::pre,i<ops.size:=by
      intro i hi;rcases By.1 hi with rfl|hi
      ·exact R8
      ·exact ZB i hi
     have agY:=hK;simp only [Bf] at hK;have ZC: ∀p∈pd,∃q,ops[p.1]? =some q/\Ga q=true:=λp hp=>by obtain ⟨q,_,_,_,_,_,h1,h2,_⟩:=(Xz p hp).row;exact ⟨q,h1,h2⟩
     unfold Ts at hK;obtain ⟨bY,go,h',hK,hw⟩:=Pz h hK;have aft: ∀cs b,o.op≠ .select cs b:=λcs b=>KM x o cs b hx;by_cases hxp:x∈pd.map (·.1)
     ·
      obtain ⟨⟨x',b⟩,hpx,hxe⟩:=abS.1 hxp;have hxe:x'=x:=hxe;subst hxe;obtain ⟨o',t,I,d,arr,T,k1,k2,k3,k4,k5,k6,k7⟩:=(Xz _ hpx).row;rw [hx] at k1;cases k1;obtain ⟨_,_,_,_,hgn,cR⟩:=AW k2;have hgo:go=true:=by rw [<-hw];simp [aaW,hgn]
      subst hgo;have KA:(gQ o&&!fC c o)=false:=by simp [gQ,k3]
      simp only [KA,cond_false] at d4;obtain ⟨pl,pr,rfl⟩:=List.append_of_mem hpx;have hbn:b∉(pl++pr).map (·.2):=by have:((pl++(x',b)::pr).map (·.2)).Nodup:=Hi;simp only [adw,afj,aie,acO,By] at this;simp only [adw,abZ,not_or];exact ⟨λhm=>this.2.2 b hm b (by simp) rfl,this.2.1.1⟩
      have hxn:x'∉(pl++pr).map (·.1):=by have:((pl++(x',b)::pr).map (·.1)).Nodup:=KB;simp only [adw,afj,aie,acO,By] at this;simp only [adw,abZ,not_or];exact ⟨λhm=>this.2.2 x' hm x' (by simp) rfl,this.2.1.1⟩
      have PQ: ∀p∈pl++pr,p∈pl++(x',b)::pr:=λp hp=>by
       simp only [abZ,By] at hp⊢;rcases hp with hp|hp
       ·exact .inl hp
       ·exact .inr (.inr hp)
      have oO:bS c (Z.outs ((pl++pr).map (·.2))) e bY a w:=by
       refine h'.zW (λu hu=>⟨hu.1,λhm=>hu.2 ?_⟩) (λu hu=>⟨hu.1,λhm=>hu.2 ?_⟩) rfl rfl rfl rfl<;>
       ·obtain ⟨p,hp,rfl⟩:=abS.1 hm;exact abS.2 ⟨p,PQ p hp,rfl⟩
      have ac2:b∈(pl++(x',b)::pr).map (·.2):=by simp
      have jC:rk (Z.outs ((pl++pr).map (·.2))) e w bY (vOf b) (.box I.zero):=by
       refine ⟨b,by rw [sP (k7 e).zH];rfl,⟨⟨(Xz _ hpx).ch,hbn⟩,⟨_,k6,rfl,k7 e⟩,(Xz _ hpx).free⟩,λt' fU B2 DY=> ?_,λf o' B1 DY=> ?_⟩
       ·have hs:=h'.slot t';rw [B2] at hs;rcases hs.2.ch with ⟨_,u⟩|u
        ·exact u.2 (by rw [DY];exact ac2)
        ·exact u.2 (by rw [DY];exact ac2)
       ·obtain ⟨I',cells,g1,g2,g3,g4,g5⟩:=(h'.iK f o' B1).row;rcases (g5 b DY).1 with ⟨_,u⟩|u
        ·exact u.2 ac2
        ·exact u.2 ac2
      simp only [cond_true,opK,k3,k4] at hK;obtain ⟨e2,eg,j1,j2,j3⟩:=cW oO jC hK;have agZ:vC ops (pl++(x',b)::pr) a=vC ops (pl++pr) (a.put o.dst (vOf b)):=by
       have wh: ∀p∈pl++pr,∀dd,wv ops p.1=some dd->o.dst≠some dd:=by
        intro p hp dd hdd;obtain ⟨q,hq,Gg⟩:=ZC p (PQ p hp);have R9:p.1∈rest:=by
         rcases By.1 (Hp p (PQ p hp)) with he|he
         ·exact absurd (abS.2 ⟨p,hp,he⟩) hxn
         ·exact he
        have:=abK.1 d4 p.1 R9;have hq':ops.toList[p.1]? =some q:=by simpa using hq
        simp only [hq',Gg,cond_true,bN] at this;exact (HR hq (.inl (AV this.1)) dd hdd).2
       exact PO (by simp [wv,hx]) a pr pl wh
      rw [agZ,<-j3];have hlen:(x'::rest).length-(pl++(x',b)::pr).length=rest.length-(pl++pr).length:=by simp only [abO,BY];omega
      rw [hlen];refine ihm rest (x'::pre) (pl++pr) l' listed e2 eg _ w ?_ j1 j2 (by rw [j3];exact ht) hpk d5 ?_ T0 afs ?_ ?_ ?_ ?_ ?_
      ·simp only [abO,BY] at hm⊢;omega
      ·refine hL.congr (λi=> ?_);simp only [adw,afj,abZ,By];constructor
       ·rintro ((h1|h1|h1)|h1)
        ·exact .inl (.inl h1)
        ·exact .inr (.inl h1)
        ·exact .inl (.inr h1)
        ·exact .inr (.inr h1)
       ·rintro ((h1|h1)|h1|h1)
        ·exact .inl (.inl h1)
        ·exact .inl (.inr (.inr h1))
        ·exact .inl (.inr (.inl h1))
        ·exact .inr h1
      ·intro p hp;rcases By.1 (Hp p (PQ p hp)) with he|he
       ·exact absurd (abS.2 ⟨p,hp,he⟩) hxn
       ·exact he
      ·have:((pl++(x',b)::pr).map (·.1)).Nodup:=KB;refine List.Nodup.sublist ?_ this;exact List.Sublist.map _ (age (agz _ _) pl)
      ·have:((pl++(x',b)::pr).map (·.2)).Nodup:=Hi;refine List.Nodup.sublist ?_ this;exact List.Sublist.map _ (age (agz _ _) pl)
      ·intro p hp;obtain ⟨q1,q2,q3⟩:=Xz p (PQ p hp);exact ⟨q1,λoff=>by rw [j3];exact q2 off,q3⟩
      ·simp only [abO,BY] at hle⊢;omega
     ·have R9: ∀p∈pd,p.1∈rest:=λp hp=>by
       rcases By.1 (Hp p hp) with he|he
       ·exact absurd (abS.2 ⟨p,hp,he⟩) hxp
       ·exact he
      have hlr:pd.length<=rest.length:=by have h1:(pd.map (·.1)).length<=rest.length:=Er KB (λi hi=>by obtain ⟨p,hp,rfl⟩:=abS.1 hi;exact R9 p hp);simpa using h1
      have akb:(x::rest).length-pd.length=(rest.length-pd.length)+1:=by simp only [abO];omega
      rw [akb];have Y9:x∉pd.map (·.1)++pre:=by simp only [abZ,not_or];exact ⟨hxp,zX⟩
      have sX:x∈AT .any ops listed:=by refine mem_ready.2 ⟨(hL.oZ R8).2 Y9,o,hx,λed VO hb=> ?_⟩;have:=abK.1 d1 ed (by simpa using VO);simp only [pY,hb,agc,ahG] at this;have hm:=(bu _ _).1 this;exact (hL.done (ZB _ hm)).2 (by simp [hm])
      have next: ∀(e':Env) (eg:St) (a':Act) (w':World),bS c (Z.outs (pd.map (·.2))) e' eg a' w'->Trans (Z.outs (pd.map (·.2))).In e.φ w e'.φ w'->Bf c ops.toList l' eg K=some r->yY P c ops N e.φ (rest.length-pd.length) (listed.setIfInBounds x true) (vC ops pd a') w':=by
       intro e' eg a' w' h1 t1 rU;refine VM t1.ph _ _ _ _ ?_;refine ihm rest (x::pre) pd l' _ e' eg a' w' ?_ h1 rU (ht.trans (t1.wide λb hb=>hb.1)) hpk d5 ((hL.set R8).congr λi=> ?_) T0 afs R9 KB Hi (λp hp=>(Xz p hp).later (abS.2 ⟨p,hp,rfl⟩) t1) hlr
       ·simp only [abO] at hm;omega
       ·simp only [By,abZ];constructor
        ·rintro (h1|h1|h1)
         ·exact .inr (.inl h1)
         ·exact .inl h1
         ·exact .inr (.inr h1)
        ·rintro (h1|h1|h1)
         ·exact .inr (.inl h1)
         ·exact .inl h1
         ·exact .inr (.inr h1)
      cases KA:gQ o&&!fC c o with
      |true=>
       simp only [KA,cond_true] at d4;have wh: ∀p∈pd,∀dd,wv ops p.1=some dd->dd∉o.looksAt ops/\o.dst≠some dd:=by intro p hp;obtain ⟨q,hq,Gg⟩:=ZC p hp;exact HR hq (.inr (PP rest [x] d4 p.1 (R9 p hp) q hq Gg))
       obtain ⟨hex,hwn⟩:=FA aft a pd (λp hp d hd=>(wh p hp d hd).1);obtain ⟨D,D1,D2,D3,D4⟩:=vB rest [x] d4 (λy hy cR=>absurd (by simpa using hy) cR);have ou: ∀j oj,ops[j]? =some oj->j∉D->j≠x->listed.getD j true=false->o.apart ops oj=true/\(jP c o=true->still c o=false->pX c o ops j=true):=by
        intro j oj R7 hjD hjx PM;have PR:j<ops.size:=(aco.1 R7).1;have hjr:j∈rest:=by
         rcases T0 j PR with h1|h1
         ·rcases By.1 h1 with h1|h1
          ·exact absurd h1 hjx
          ·exact absurd (by simp [h1]) ((hL.oZ PR).1 PM)
         ·exact h1
        obtain ⟨p,Ve,Lx,hp3⟩:=D4 j hjr hjD;rw [R7] at Ve;cases Ve;exact ⟨Lx,λhl hs=>by simp [pX,R7,hp3 hl hs]⟩
       have Gh: ∀d∈D,listed.getD d false=false:=by
        have aou: ∀p∈pd,p.1∉D:=by intro p hp hpD;obtain ⟨q,hq,Gg⟩:=ZC p hp;obtain ⟨ed,VO,hb,_⟩:=D3 p.1 q hpD (λhe=>hxp (abS.2 ⟨p,hp,he⟩)) hq;obtain ⟨_,_,_,_,_,cR⟩:=AW Gg;rw [cR ed VO] at hb;cases hb
        intro d hd;have hdn:d∉pd.map (·.1)++pre:=by
         simp only [abZ,not_or];constructor
         ·intro hm;obtain ⟨p,hp,rfl⟩:=abS.1 hm;exact aou p hp hd
         ·rcases D2 d hd with h1|h1
          ·have h1:d=x:=by simpa using h1
           rw [h1];exact zX
          ·exact λhp=>lU rest (x::pre) d5 d h1 (by simp [hp])
        by_cases LU:d<ops.size
        ·cases hg:listed.getD d false with
         |false=>rfl
         |true=>exact absurd ((hL.done LU).1 hg) hdn
        ·have hl: ¬d<listed.size:=by rw [hL.size];exact LU
         simp [hl]
       cases go with
       |true=>simp only [cond_true] at hK;obtain ⟨v,hv,e2,eg,k1,k2,k3⟩:=(RX (Q:=oY N) hG h' hK).aoa (by simp only [bN] at KA;exact KA.1) (by simp only [bN,OF] at KA;exact KA.2);refine xz D3 hx KM (rest.length-pd.length) listed _ w ou Gh sX (.inl ⟨by rw [hwn];exact hw,λw' hg=>by rw [hex];exact hv w' hg⟩) h.kZ ?_;rw [C6 a o.dst v pd (λp hp d hd=>(wh p hp d hd).2)];exact next e2 eg _ w k1 k2 k3
       |false=>simp only [cond_false] at hK;obtain ⟨e2,eg,k1,k2,k3⟩:=cW (v:=undef) (s:= .skip) h' ⟨rfl,trivial⟩ hK;refine xz D3 hx KM (rest.length-pd.length) listed _ w ou Gh sX (.inr ⟨by rw [hwn];exact hw,rfl⟩) h.kZ ?_;rw [C6 a o.dst undef pd (λp hp d hd=>(wh p hp d hd).2)];exact next e2 eg _ w k1 (by rw [k3];exact .refl _ _ _) k2
      |false=>
       simp only [KA,cond_false] at d4;have wh: ∀p∈pd,∀dd,wv ops p.1=some dd->dd∉o.looksAt ops/\o.dst≠some dd:=by
        intro p hp;obtain ⟨q,hq,Gg⟩:=ZC p hp;have:=abK.1 d4 p.1 (R9 p hp);have hq':ops.toList[p.1]? =some q:=by simpa using hq
        simp only [hq',Gg,cond_true,bN] at this;exact HR hq (.inl (AV this.1))
       refine ⟨λPy=>(by rw [Py] at sX;cases sX),λi hi=> ?_⟩;obtain ⟨aov,oi,VP,Sa⟩:=mem_ready.1 hi;have VQ:i<ops.size:=(aco.1 VP).1;have rX:=(hL.oZ VQ).1 aov;simp only [abZ,not_or] at rX;by_cases PN:i=x
       ·subst PN;rw [hx] at VP;cases VP;have oO:wpOp P ops (oY N) i (λa' w'=>(∀oi,pX c oi ops i=true->eL c oi w w')/\ ∃e2 eg,bS c (Z.outs (pd.map (·.2))) e2 eg a' w'/\Trans (Z.outs (pd.map (·.2))).In e.φ w e2.φ w'/\Bf c ops.toList l' eg K=some r) a w:=by
         unfold wpOp;simp only [hx];rw [hw];cases go with
         |true=>
          simp only [cond_true] at hK;simp only [if_true];left;have hd:=RX (Q:=oY N) hG h' hK;cases Q6:Ky c o with
          |true=>simp only [Ky,afw] at Q6;refine afB ?_ (hd.aob Q6);rintro a' w' ⟨hg,e2,eg,k1,k2,k3⟩;exact ⟨λ_ _=>hg.for,e2,eg,k1,k2,k3⟩
          |false=>
           by_cases hme: ∃oi,sK oi o=true
           ·obtain ⟨oi0,hme⟩:=hme;refine afB ?_ (ajG (Q:=oY N) hG h' hK hme);rintro a' w' ⟨hg,e2,eg,k1,k2,k3⟩;refine ⟨λoi hh=> ?_,e2,eg,k1,k2,k3⟩;have VP:sK oi o=true:=by simpa [pX,hx,Q6] using hh
            exact R6 hme VP hg
           ·refine afB ?_ hd.wp;rintro a' w' ⟨e2,eg,k1,k2,k3⟩;exact ⟨λoi hh=>absurd ⟨oi,by simpa [pX,hx,Q6] using hh⟩ hme,e2,eg,k1,k2,k3⟩
         |false=>simp only [cond_false] at hK;simp only [IT,if_false];obtain ⟨e2,eg,k1,k2,k3⟩:=cW (v:=undef) (s:= .skip) h' ⟨rfl,trivial⟩ hK;exact ⟨λ_ _=>(db.refl w).for,e2,eg,k1,by rw [k3];exact .refl _ _ _,k2⟩
        refine wpOp_mono ?_ (TZ hx aft oO pd wh);rintro a' w' ⟨a2,rfl,hg,e2,eg,k1,k2,k3⟩;exact ⟨⟨hg,λb o v hv=>k1.kZ b o v (k2.ph b o v hv)⟩,next e2 eg a2 w' k1 k2 k3⟩
       ·have hir:i∈rest:=by
         rcases T0 i VQ with h1|h1
         ·rcases By.1 h1 with h1|h1
          ·exact absurd h1 PN
          ·exact absurd h1 rX.2
         ·exact h1
        have Sb:=abK.1 d4 i hir;have ag0:ops.toList[i]? =some oi:=by simpa using VP
        simp only [ag0] at Sb;cases Gg:Ga oi with
        |false=>
         exfalso;simp only [Gg,cond_false] at Sb;unfold xf at Sb;obtain ⟨ed,VO,hb⟩:=ago.1 Sb;simp only [bN,pY,afw,OF] at hb;obtain ⟨sw,rM⟩:=hb;have L2:=Sa ed (by simpa using VO) sw;have Ej:ed.on∉pd.map (·.1)++pre:=by
          rcases rM with rM|⟨rM,hb3⟩
          ·rw [sh rM];exact Y9
          ·simp only [abZ,not_or];refine ⟨λhm=> ?_,λhp=>lU rest (x::pre) d5 _ ((bu _ _).1 rM) (by simp [hp])⟩;obtain ⟨p,hp,he⟩:=abS.1 hm;obtain ⟨q,hq,hqa⟩:=ZC p hp;have hq':ops.toList[ed.on]? =some q:=by rw [<-he];simpa using hq
           simp [af6,hq',hqa] at hb3
         by_cases rS:ed.on<ops.size
         ·exact Ej ((hL.done rS).1 L2)
         ·have:listed.getD ed.on false=false:=by
           have hl: ¬ed.on<listed.size:=by rw [hL.size];exact rS
           simp [hl]
          rw [this] at L2;cases L2
        |true=>
         obtain ⟨t,d,q1,q2,q3,q4⟩:=AW Gg;have hI: ∃I,c.tv t=some I:=by
          simp only [Gg,cond_true,bN,af5,q1] at Sb;cases htv:c.tv t with
          |none=>rw [htv] at Sb;exact absurd Sb.2 (by simp)
          |some I=>exact ⟨I,rfl⟩
         obtain ⟨I,hI⟩:=hI;obtain ⟨inf,z,hz1,Yf,hz3⟩:=Ca hI hG.ti;have hg:db w (w.alloc (.cells z.cells t)):= .alloc w _ _;unfold wpOp;simp only [VP];have hwn:aaW oi (yielded ops (vC ops pd a).tmps)=true:=by simp [aaW,q3]
         simp only [hwn,if_true];left;have bF:(execOp (vC ops pd a).eval oi).run P w= .ok (.value (vOf w.heap.size)) (w.alloc (.cells z.cells t)):=by simp [execOp,q1,Instr.alloc,zeroValue,typeInfo,hz1,Yf,newVar,newRow,newObj,Sem.run,vOf]
         unfold afA;rw [bF];simp only [afF];refine ⟨⟨λ_ _=>hg.for,(h.grow hg).kZ⟩,?_⟩;have pJ:w.heap.size<(w.alloc (.cells z.cells t)).heap.size:=by simp
         have aow: ∀p∈pd,p.2<w.heap.size:=λp hp=>by obtain ⟨_,_,_,_,_,_,_,_,_,_,_,k6,_⟩:=(Xz p hp).row;exact aZ k6
         have agZ:(vC ops pd a).put oi.dst (vOf w.heap.size)=vC ops ((i,w.heap.size)::pd) a:=by simp [vC,wv,VP]
         rw [agZ];have cI:pd.length<rest.length:=by
          have h1:(i::pd.map (·.1)).length<=rest.length:=by
           refine Er (acO.2 ⟨rX.1,KB⟩) ?_;intro j hj;rcases By.1 hj with rfl|hj
           ·exact hir
           ·obtain ⟨p,hp,rfl⟩:=abS.1 hj;exact R9 p hp
          simp only [abO,List.length_map] at h1;omega
         have BB:rest.length-pd.length=(x::rest).length-((i,w.heap.size)::pd).length:=by simp only [abO];omega
         rw [BB];refine ihm (x::rest) pre ((i,w.heap.size)::pd) (o::l') _ e st a _ ?_ (h.narrow hg pJ) ?_ (ht.trans (hg.trans (λb hb=>(h.ch b hb).1) _)) ?_ hd0 ?_ sR ZB ?_ ?_ ?_ ?_ ?_
         ·simp only [abO] at hm⊢;omega
         ·exact agY
         ·simp [qo,hox,hpk]
         ·refine (hL.set VQ).congr (λj=> ?_);simp
         ·intro p hp;rcases By.1 hp with rfl|hp
          ·exact afq _ hir
          ·exact Hp p hp
         ·exact acO.2 ⟨rX.1,KB⟩
         ·refine acO.2 ⟨λhm=> ?_,Hi⟩;obtain ⟨p,hp,he⟩:=abS.1 hm;have:=aow p hp;have he:p.2=w.heap.size:=he;omega
         ·intro p hp;rcases By.1 hp with rfl|hp
          ·refine ⟨⟨oi,t,I,d,z.cells,t,VP,Gg,q1,hI,q2,iy w _,hz3⟩,λoff=> ?_,(h.ch _ (abU _)).1⟩;cases hp:e.φ w.heap.size off with
           |none=>rfl
           |some v=>have:=ab7 w _ (h.kZ _ _ _ hp);simp at this
          ·obtain ⟨⟨o1,t1,I1,d1,aox,T1,k1,k2,k3,k4,k5,k6,k7⟩,q5,q6⟩:=Xz p hp;exact ⟨⟨o1,t1,I1,d1,aox,T1,k1,k2,k3,k4,k5,by rw [hg.rK _ (aZ k6)];exact k6,k7⟩,q5,q6⟩
         ·simp only [abO];omega
theorem PS (hG:Good P c){ops:Array Oper}{l:List Oper}{ord:List Nat}(hd:sL c ops ord=true)(hp:qo ops.toList ord=some l){Z:bC}{e:Env}{st:St}{a:Act}{w:World}{R:Type}{K:St->Option R}{r:R}(h:bS c Z e st a w)(hK:Bf c ops.toList l st K=some r): wpAny P .any ops (oY λa' w'=>Out c Z K r e.φ w a' w') ops.size (IN ops.size false) a {w with drawn:=w.drawn+1}:=by
 simp only [sL,bN] at hd;obtain ⟨⟨⟨YP,hl0⟩,sR⟩,hd⟩:=hd;have KM: ∀(j:Nat) (o:Oper) cs b,ops[j]? =some o->o.op≠ .select cs b:=by intro j o cs b ho he;have:=abK.1 YP o (afm (by simpa using ho:ops.toList[j]? =some o));simp [he] at this
 have afu:db w {w with drawn:=w.drawn+1}:=⟨abU _,λ_ _=>rfl,rfl,rfl,rfl⟩
 ·refine PL (c:=c) (φ:=e.φ) _ _ _ _ ?_;have hlen:ord.length=ops.size:=by have:=sh hl0;simpa using this
  rw [<-hlen];have h0:bS c (Z.outs []) e st a {w with drawn:=w.drawn+1}:=(h.grow afu).zW (λb hb=>⟨hb,by simp⟩) (λb hb=>⟨hb,by simp⟩) rfl rfl rfl rfl;refine ac1 hG KM (λa' w' h=>h) (2 *ord.length) ord [] [] l _ e st a _ (by simp) h0 hK (afu.trans h.ch e.φ) hp hd ⟨by simp [hlen],λi hi=> ?_⟩ (λi hi=> .inr ((bu _ _).1 (abK.1 sR i (by simpa using hi)))) (by simp) (by simp) (by simp) (by simp) (by simp) (by simp);simp [hlen,hi]
end
end Dn
/-
  What is asked of slices.DeleteFunc, and of the function that it is handed. Conditions: none.
-/
namespace Dn
open Go
theorem FB {S:Type}{step:S->MV->Option (Bool×S)}: ∀{xs zs:List MV} {s:S},nm step s (xs++zs)=(match nm step s xs with|some (ys,s1)=>(match nm step s1 zs with|some (us,s2)=>some (ys++us,s2)|none=>none)|none=>none):=by
 intro xs;induction xs with
 |nil=>intro zs s;simp only [acC,nm];cases nm step s zs<;>rfl
 |cons x xs ih=>
  intro zs s;simp only [ab1,nm];cases step s x with
  |none=>rfl
  |some p=>
   obtain ⟨b,s1⟩:=p;simp only [ih];cases nm step s1 xs with
   |none=>rfl
   |some q=>
    obtain ⟨ys,s2⟩:=q;dsimp only;cases nm step s2 zs with
    |none=>rfl
    |some q2=>cases b<;>rfl
theorem T3 {S:Type}{step:S->MV->Option (Bool×S)}{xs:List MV} {s s':S}{ys:List MV}(h:nm step s xs=some (ys,s')){k:Nat}(hk:k<xs.length): ∃yk sk b sk',nm step s (xs.take k)=some (yk,sk)/\step sk xs[k]=some (b,sk')/\nm step s (xs.take (k+1))=some (bif b then yk else yk++[xs[k]],sk'):=by
 have e:xs=xs.take k++xs[k]::xs.drop (k+1):=by simp
 rw [e,FB] at h;cases h1:nm step s (xs.take k) with
 |none=>simp [h1] at h
 |some p=>
  obtain ⟨yk,sk⟩:=p;simp only [h1,nm] at h;cases h2:step sk xs[k] with
  |none=>simp [h2] at h
  |some q=>
   obtain ⟨b,sk'⟩:=q;refine ⟨yk,sk,b,sk',rfl,h2,?_⟩;have e2:xs.take (k+1)=xs.take k++[xs[k]]:=by rw [aif,ab6 hk];rfl
   rw [e2,FB,h1];simp only [nm,h2];cases b<;>simp
theorem ZD {S:Type}{step:S->MV->Option (Bool×S)}: ∀{xs:List MV} {s s':S} {ys:List MV},nm step s xs=some (ys,s')->ys.length<=xs.length:=by
 intro xs;induction xs with
 |nil=>intro s s' ys h;simp [nm] at h;simp [h.1]
 |cons x xs ih=>
  intro s s' ys h;simp only [nm] at h;cases h1:step s x with
  |none=>simp [h1] at h
  |some p=>
   obtain ⟨b,s1⟩:=p;simp only [h1] at h;cases h2:nm step s1 xs with
   |none=>simp [h2] at h
   |some q=>obtain ⟨zs,s2⟩:=q;simp only [h2,AS,ab2] at h;have:=ih h2;rw [<-h.1];cases b<;>simp<;>omega
structure xA (P:Program) (c:Ctx) (g:Nat) (lb:Array Value) {S:Type} (Inv:S->(Nat->Prop)->Ph->World->Prop) (step:S->MV->Option (Bool×S)):Prop where
 call: ∀{s Z φ W v x b s'},Inv s Z φ W->(∀b,W.heap.size<=b->Z b)->oS φ W->di c.key φ v x->step s x=some (b,s')-> dR P g (#[v]++lb) W λr W'=>r= .bool b/\ ∃φ',Trans Z φ W φ' W'/\oS φ' W'/\Inv s' Z φ' W'
 frame: ∀{s Z φ W W'},Inv s Z φ W->W.heap.size<=W'.heap.size->(∀b,Z b->b<W.heap.size->W'.heap[b]? =W.heap[b]?)->Inv s (λb=>Z b/\b<W.heap.size) φ W'
 mono: ∀{s Z Z' φ W},Inv s Z φ W->(∀b,Z b->Z' b)->Inv s Z' φ W
structure Bk (c:Ctx) (ob:Option Nat) {S:Type} (Inv:S->(Nat->Prop)->Ph->World->Prop) (Z0:Nat->Prop) (φ0:Ph) (w0:World) (s:S) (Z:Nat->Prop) (φ:Ph) (W:World):Prop where
 inv:Inv s Z φ W
 new: ∀b,W.heap.size<=b->Z b
 sub: ∀b,Z b->Z0 b\/w0.heap.size<=b
 kZ:oS φ W
 tr:Trans (λb=>(Z0 b\/w0.heap.size<=b)\/ob=some b) φ0 w0 φ W
 free: ∀b off,ob=some b->φ b off=none
structure NP (P:Program) (c:Ctx) (h el:Nat):Prop where
 run: ∀{S:Type} {Inv:S->(Nat->Prop)->Ph->World->Prop} {step:S->MV->Option (Bool×S)} {g:Nat} {lb:Array Value},xA P c g lb Inv step-> ∀{v0:Value} {xs ys:List MV} {w:World} {Z0:Nat->Prop} {φ0:Ph} {s0 s':S},(∀x∈xs,∃ms,x= .agg ms)->cu c (bC.plain λb=>v0.ownBlock=some b) (na c.key φ0) w v0 ⟨el,false,xs⟩->(∀b,v0.ownBlock=some b-> ¬Z0 b)-> Inv s0 Z0 φ0 w->(∀b,w.heap.size<=b->Z0 b)->oS φ0 w->nm step s0 xs=some (ys,s')-> dR P h #[v0,.func (.func g) #[] lb] w λv W=> ∃Z φ,Bk c v0.ownBlock Inv Z0 φ0 w s' Z φ W/\cu c (bC.plain λb=>v0.ownBlock=some b) (na c.key φ) W v ⟨el,false,ys⟩/\ ∀b,v.ownBlock=some b->v0.ownBlock=some b
def xB (P:Program)(c:Ctx):Prop:= ∀h,c.M3 h=true->NP P c h (c.nU (c.key h))
end Dn
/-
  Regions with a call of slices.DeleteFunc. Conditions: none.
-/
namespace Dn
open Go
section
variable {P:Program}{c:Ctx}{Z:bC} {Z':Nat->Prop} {e e':Env}{st bY:St}{a:Act} {w w':World}{R:Type}{K:St->Option R}{r:R}{Q:Exit->Act->World->Prop}{o:Oper}{root:Nat}{cs:List aE}{ks:List LK}{ls outs:List MV}{ps:List (Nat×Nat)} {φ':Ph}
theorem VR (h:bS c Z e st a w)(hf:aq st.fr root= .box cs)(hm:eT cs=false)(hr:bx st.cA root=false)(ht:TC st [] ks cs ls ps)(hZ: ∀b,Z' b↔w.heap.size<=b\/gone e root ps b){X:Nat->Prop}(hXb: ∀t fU,aq st.fr t= .box fU-> ¬X (e.B t))(hXf: ∀f o b,aI st.aP f=some o->(e.E f).ownBlock=some b-> ¬X b)(wj:Trans (λb=>Z' b\/X b) e.φ w φ' w')(hi:oS φ' w')(hc:gf c Z' φ' w' (e.B root) ks outs)(hK:Lk st root ks ps outs K=some r): ∃e' bY,bS c Z e' bY a w'/\e'.φ=φ'/\(∀b,X b-> ¬Z' b->(∀t fU,aq bY.fr t= .box fU->e'.B t≠b)/\ ∀f o,aI bY.aP f=some o->(e'.E f).ownBlock≠some b)/\K bY=some r:=by
 unfold Lk at hK;obtain ⟨yT,rest,AG,g1,hK⟩:=km hK;cases rest with
 |cons=>simp [gN] at hK
 |nil=>
 simp only [gN,Ps] at hK;cases mP:Lj (bt ks) (kP (eB ps) st.aP)||meets (bt ks) st.cy with
 |true=>simp [mP] at hK
 |false=>
 simp only [mP,cond_false,TP,mB,xg] at hK;obtain ⟨RU,HC⟩:=adg.1 mP;have RU:=Hz RU;have HC:=HA HC;obtain ⟨ur,m3,E,arr,T,zS,cz,hzb,ou,pI,gd,eU⟩:=hc;have jK:ur=yT/\m3=AG.aP:=by unfold LC at zS;rw [g1] at zS;simp only [gN,AS,ab2] at zS;exact ⟨zS.1.symm,zS.2.symm⟩
 obtain ⟨rfl,rfl⟩:=jK;have dn:=zR g1;have eZ: ∀f o,aI AG.aP f=some o->f∈bt ks:=λf o ho=>(C0 g1 f o ho).resolve_left (by simp [aI]);have hs:=h.slot root;rw [hf] at hs;have rX: ∀b,Z' b->Z.In b:=by
  intro b hb;rcases (hZ b).1 hb with hb|hb
  ·exact h.ch b hb
  ·exact C1 h hf hr ht b hb
 have Pv: ∀t fU,aq st.fr t= .box fU->t≠root-> ¬Z' (e.B t):=by
  intro t fU YX cR hz;rcases (hZ _).1 hz with hz|hz|⟨x,g,hp,hz⟩
  ·have:=xt h YX;omega
  ·exact h.bb t root fU cs YX hf cR hz
  ·obtain ⟨o,ho,_⟩:=ht.aP x g hp;exact h.bf t fU g o YX ho hz
 have hold: ∀f o,aI (kP (eB ps) st.aP) f=some o->aI st.aP f=some o/\f∉eB ps:=by
  intro f o ho;rw [Hw] at ho;cases hn:bx (eB ps) f with
  |true=>simp [hn] at ho
  |false=>simp only [hn,IT,if_false] at ho;exact ⟨ho,λhm=>by rw [(bu _ _).2 hm] at hn;cases hn⟩
 have Fs: ∀f o b,aI (kP (eB ps) st.aP) f=some o->(e.E f).ownBlock=some b-> ¬Z' b:=by
  intro f o b ho hb hz;obtain ⟨B1,hnf⟩:=hold f o ho;rcases (hZ _).1 hz with hz|hz|⟨x,g,hp,hz⟩
  ·have:=xu h B1 hb;omega
  ·exact h.bf root cs f o hf B1 (by rw [hb,hz])
  ·obtain ⟨o2,cB,_⟩:=ht.aP x g hp;have:=h.ff f g o o2 b B1 cB hb hz;subst this;exact hnf (Fp.2 ⟨x,hp⟩)
 have ag1: ∀t fU,aq st.fr t= .box fU->t≠root-> ¬(Z' (e.B t)\/X (e.B t)):=λt fU h1 h2 h3=>h3.elim (Pv t fU h1 h2) (hXb t fU h1);have ZE: ∀f o b,aI (kP (eB ps) st.aP) f=some o->(e.E f).ownBlock=some b-> ¬(Z' b\/X b):=λf o b h1 h2 h3=>h3.elim (Fs f o b h1 h2) (hXf f o b (hold f o h1).1 h2);let E2:Nat->Value:=λf=>if bx (bt ks) f=true then E f else e.E f
 have v7: ∀f,f∈bt ks->E2 f=E f:=λf hf=>by show (if _ then _ else _)=_;rw [if_pos ((bu _ _).2 hf)]
 have OO: ∀f,f∉bt ks->E2 f=e.E f:=λf hf=>by show (if _ then _ else _)=_;rw [if_neg (λhq=>hf ((bu _ _).1 hq))]
 have oN: ∀f o,aI (AG.aP++kP (eB ps) st.aP) f=some o->(f∈bt ks/\aI AG.aP f=some o)\/(f∉bt ks/\aI (kP (eB ps) st.aP) f=some o):=by
  intro f o ho;rw [LM] at ho;cases hq:aI AG.aP f with
  |some o2=>simp only [hq,AS] at ho;exact .inl ⟨eZ f o2 hq,by rw [ho]⟩
  |none=>simp only [hq] at ho;refine .inr ⟨λhm=> ?_,ho⟩;rw [RU f hm] at ho;cases ho
 let e2:Env:=⟨e.key,φ',E2,e.B,AG.aP++kP (eB ps) st.aP⟩
 have rS:ki (λg=>True/\g∉bt ks) (λ_=>True) e e2:=by
  refine ⟨rfl,wj.ph,λ_ _=>rfl,λf o' B1 hS=> ?_⟩;rcases oN f o' B1 with ⟨h1,_⟩|⟨h1,h2⟩
  ·exact absurd h1 hS.2
  ·exact ⟨o',by rw [h.m];exact (hold f o' h2).1,OO f h1,rfl⟩
 have YY:av e2 arr.toList ur:=by
  have agB:ki (λf=>f∈bt ks) (λ_=>True) ⟨c.key,φ',E,λ_=>e.B root,AG.aP⟩ ⟨c.key,φ',E2,λ_=>e.B root,AG.aP++kP (eB ps) st.aP⟩:=by
   refine ⟨rfl,.refl _,λ_ _=>rfl,λf o' B1 hS=> ?_⟩;rcases oN f o' B1 with ⟨h1,h2⟩|⟨h1,_⟩
   ·exact ⟨o',h2,v7 f h1,rfl⟩
   ·exact absurd hS h1
  have h1:=pI.on agB dn;have agC:ki (λ_=>True) (λ_=>False) ⟨c.key,φ',E2,λ_=>e.B root,AG.aP++kP (eB ps) st.aP⟩ e2:=⟨h.key,.refl _,λ_ h=>h.elim,λf o ho _=>⟨o,ho,rfl,rfl⟩⟩
  exact h1.on agC (λ_ _ _ _=>trivial)
 have hm3:eT ur=false:=YY.zH;have Pw: ∀t,aq (cj (nq (bt ks) st.fr) root (.box ur)) t=if t=root then .box ur else CY (bt ks) (aq st.fr t):=λt=>by rw [bL,Hx]
 have vz: ∀t ds,aq (cj (nq (bt ks) st.fr) root (.box ur)) t= .box ds-> ∃ds0,aq st.fr t= .box ds0:=by
  intro t ds hb;rw [Pw] at hb;by_cases wj:t=root
  ·exact ⟨cs,by rw [wj];exact hf⟩
  ·rw [if_neg wj] at hb;obtain ⟨d0,h1,_⟩:=uM _ hb;exact ⟨d0,h1⟩
 refine ⟨e2,⟨st.cA,st.cy,cj (nq (bt ks) st.fr) root (.box ur),AG.aP++kP (eB ps) st.aP⟩,⟨h.defers,h.size,rfl,h.key,?_,?_,?_,?_,?_,?_,?_,hi,λb hb=>h.ch b (adr wj.size hb)⟩,rfl,λb hb hnz=>⟨λt ds YX he=> ?_,λf o ho he=> ?_⟩,hK⟩;rotate_left 7
 ·obtain ⟨d0,k1⟩:=vz t ds YX;exact hXb t d0 k1 (by have he:e.B t=b:=he;rw [he];exact hb)
 ·have he:(E2 f).ownBlock=some b:=he;rcases oN f o ho with ⟨k1,k2⟩|⟨k1,k2⟩
  ·rw [v7 f k1] at he;obtain ⟨I,cells,_,_,_,_,q5⟩:=(gd f o k2).1.row;exact hnz (q5 _ he).1
  ·rw [OO f k1] at he;exact hXf f o b (hold f o k2).1 he hb
 ·show (aN (cj (nq (bt ks) st.fr) root (.box ur))).Nodup;refine ej ?_;rw [Hy];exact h.nodup
 ·intro t;show bW Z e2 w' t _ (aq (cj (nq (bt ks) st.fr) root (.box ur)) t);rw [Pw];by_cases sW:t=root
  ·subst sW;rw [if_pos rfl];exact ⟨hs.1.lO (by rw [xk hm,xk hm3]),hs.2.ch,⟨_,cz,rfl,YY⟩,ou⟩
  ·rw [if_neg sW];have dK:=h.slot t;have hnb:=ag1 t;generalize aq st.fr t=s at dK hnb;by_cases Eh: ∃ds,s= .box ds
   ·obtain ⟨ds,rfl⟩:=Eh;rw [Pt];have hz:=hnb ds rfl sW;obtain ⟨o2,h1,h2⟩:=dK.2.obj;refine ⟨dK.1.lO (LL _ _),dK.2.ch,⟨o2,by show w'.heap[e.B t]? =_;rw [wj.heap _ hz (aZ h1)];exact h1,?_⟩,λoff=>by show φ' (e.B t) off=none;rw [wj.free _ off hz];exact dK.2.free off⟩;exact (Pu h2).on rS (TR _ (λl _ f _=>trivial))
   ·have agD:ab e (a.tmps.getD t undef) s:=by cases s<;>simp only [bW] at dK<;>first|exact dK|exact absurd ⟨_,rfl⟩ Eh
    have h2:=(agD.aff (bt ks)).on rS (TQ _ (dH s));have YZ: ∀ds,CY (bt ks) s≠ .box ds:=λds hq=>by obtain ⟨d0,h1,_⟩:=uM _ hq;exact Eh ⟨d0,h1⟩
    generalize CY (bt ks) s=s2 at h2 YZ;cases s2<;>first|exact h2|exact absurd rfl (YZ _)
 ·intro t;show cC (cj (nq (bt ks) st.fr) root (.box ur)) (aq (cj (nq (bt ks) st.fr) root (.box ur)) t);have YC: ∀q,cV (aq st.fr q)=true->cV (aq (cj (nq (bt ks) st.fr) root (.box ur)) q)=true:=by
   intro q hq;rw [Pw];by_cases hqr:q=root
   ·rw [if_pos hqr];rfl
   ·rw [if_neg hqr];exact HB _ hq
  rw [Pw];by_cases sW:t=root
  ·rw [if_pos sW];trivial
  ·rw [if_neg sW];refine Fq _ ?_;have pN:=h.root t;generalize aq st.fr t=s at pN;cases s with
   |ptr q o=>exact YC q pN
   |hp q o i=>exact YC q pN
   |zq q=>exact YC q pN
   |_=>trivial
 ·intro f o ho;rcases oN f o ho with ⟨h1,h2⟩|⟨h1,h2⟩
  ·have hfm:=(gd f o h2).1;have zJ:f∉Z.cy:=by rw [<-h.defers.2.2.1];exact HC f h1
   refine cu.to ?_ zJ;obtain ⟨I,cells,q1,q2,q3,q4,q5⟩:=hfm.row;refine ⟨I,cells,q1,q2,?_,?_,λb hb=> ?_⟩
   ·show w'.ownsRow 0 o.ty I.size (E2 f) o.xs.length cells;rw [v7 f h1];exact q3
   ·show aX e.key φ' I.size cells o.xs;rw [h.key];exact q4
   ·have hb:(E2 f).ownBlock=some b:=hb;rw [v7 f h1] at hb;exact ⟨rX b (q5 b hb).1,(q5 b hb).2.1,λhc=>hc.elim⟩
  ·obtain ⟨B1,hnf⟩:=hold f o h2;obtain ⟨I,cells,q1,q2,q3,q4,q5⟩:=(h.iK f o B1).row;refine ⟨I,cells,q1,q2,?_,q4.mono wj.ph,?_⟩
   ·show w'.ownsRow 0 o.ty I.size (E2 f) o.xs.length cells;rw [OO f h1];refine ⟨q3.1,?_⟩;rcases q3.2 with h6|⟨g,cap,cY,k1,k2,k3,k4⟩
    ·exact .inl h6
    ·refine .inr ⟨g,cap,cY,k1,k2,?_,k4⟩;rw [wj.heap g (ZE f o g h2 (by rw [k1];rfl)) (aZ k3)];exact k3
   ·intro a8 hb;have hb:(E2 f).ownBlock=some a8:=hb;rw [OO f h1] at hb;refine ⟨(q5 a8 hb).1,λoff u hu=>(q5 a8 hb).2.1 off u ?_,λk1 k2 j hj=>wj.ph.AH ((q5 a8 hb).2.2 k1 k2 j hj) hj⟩;have hu:φ' a8 off=some u:=hu;rw [wj.free _ off (ZE f o a8 h2 hb)] at hu;exact hu
 ·intro t t' c1 c2 h1 h2 cR;obtain ⟨d1,k1⟩:=vz t c1 h1;obtain ⟨d2,k2⟩:=vz t' c2 h2;exact h.bb t t' d1 d2 k1 k2 cR
 ·intro t c1 f o h1 h2;show (E2 f).ownBlock≠some (e.B t);rcases oN f o h2 with ⟨k1,k2⟩|⟨k1,k2⟩
  ·rw [v7 f k1];by_cases sW:t=root
   ·rw [sW];exact (gd f o k2).2
   ·obtain ⟨d1,k3⟩:=vz t c1 h1;intro hq;obtain ⟨I,cells,_,_,_,_,q5⟩:=(gd f o k2).1.row;exact Pv t d1 k3 sW (q5 _ hq).1
  ·rw [OO f k1];obtain ⟨d1,k3⟩:=vz t c1 h1;exact h.bf t d1 f o k3 (hold f o k2).1
 ·intro f f' o o' k h1 h2 h3 h4;have h3:(E2 f).ownBlock=some k:=h3;have h4:(E2 f').ownBlock=some k:=h4;rcases oN f o h1 with ⟨k1,k2⟩|⟨k1,k2⟩<;>rcases oN f' o' h2 with ⟨k3,k4⟩|⟨k3,k4⟩
  ·rw [v7 f k1] at h3;rw [v7 f' k3] at h4;exact eU f f' o o' k k2 k4 h3 h4
  ·rw [v7 f k1] at h3;rw [OO f' k3] at h4;obtain ⟨I,cells,_,_,_,_,q5⟩:=(gd f o k2).1.row;exact absurd (q5 _ h3).1 (Fs f' o' k k4 h4)
  ·rw [OO f k1] at h3;rw [v7 f' k3] at h4;obtain ⟨I,cells,_,_,_,_,q5⟩:=(gd f' o' k4).1.row;exact absurd (q5 _ h4).1 (Fs f o k k2 h3)
  ·rw [OO f k1] at h3;rw [OO f' k3] at h4;exact h.ff f f' o o' k (hold f o k2).1 (hold f' o' k4).1 h3 h4
end
end Dn
/-
  A call of slices.DeleteFunc. Conditions: none.
-/
namespace Dn
open Go
section
variable {P:Program}{c:Ctx}{Z:bC} {e e':Env}{st bY:St}{a:Act} {w w':World}{R:Type}{K:St->Option R}{r:R}{Q:Exit->Act->World->Prop}{o:Oper}
theorem dR.imp {P:Program}{f:FuncId}{args:Array Value}{w:World} {R R':Value->World->Prop}(hc:dR P f args w R)(h: ∀v w',R v w'->R' v w'):dR P f args w R':=by
 unfold dR at hc⊢;split
 ·rename_i jK;rw [jK] at hc;exact Calls.mono hc (λx AK ⟨v,e,hr⟩=>⟨v,e,h v AK hr⟩)
 ·rename_i jK;rw [jK] at hc;exact h _ _ hc
 ·rename_i h1 h2;split at hc
  ·rename_i jK;exact absurd jK (h1 _ _ _)
  ·rename_i jK;exact absurd jK (h2 _ _)
  ·exact hc
theorem Trans.zW {I J:Nat->Prop} {φ φ':Ph}(h:Trans I φ w φ' w')(hs: ∀b,I b->J b):Trans J φ w φ' w':=⟨h.ph,λb hb=>h.heap b (λhz=>hb (hs b hz)),λb o hb=>h.free b o (λhz=>hb (hs b hz)),h.size,h.rest⟩
theorem HT {key:Nat->Nat} {φ:Ph}{v:Value}{b:Bool}(h:di key φ v (.b b)):v= .bool b:=by obtain ⟨_,h⟩:=h;generalize yt:[v]=l at h;cases h;simpa using yt
theorem Sc (hS:Sound P c){f:Nat}(hg:c.dA (c.key f)=false){lb:Array Value}{ms:List MV}:xA P c f lb (λ(_:Unit) (_:Nat->Prop) φ (_:World)=>bg c.key φ lb.toList ms) (X1 c.g (c.key f) ms):=by
 refine ⟨?_,λh _ _=>h,λh _=>h⟩;intro s Z φ W v x b s' hinv jC iQ Sd dK;unfold X1 at dK;split at dK
 ·rename_i b' hx;simp only [AS,ab2] at dK;obtain ⟨rfl,_⟩:=dK;have dL:dS c (λb=>W.heap.size<=b) φ W (c.key f) (v::lb.toList) (x::ms):=by simp only [dS,hg,IT,if_false];exact ⟨v,lb.toList,rfl,Sd,hinv⟩
  have:=hS f (x::ms) (.b b') hx φ W (λb=>W.heap.size<=b) _ (λb hb=>hb) dL iQ;have e1:(v::lb.toList).toArray= #[v]++lb:=by apply aci.1;simp
  rw [e1] at this;refine this.imp ?_;rintro v' w' ⟨φ',t1,t2,t3⟩;exact ⟨HT t3,φ',t1.zW jC,t2,hinv.mono t1.ph⟩
 ·cases dK
theorem VS (hS:Sound P c){f pos a8:Nat}{ks:List LK}{ms:List MV}{lb0:List Value}(hg:c.dA (c.key f)=true)(xw:c.sig (c.key f)=some (pos,ks))(eD:pos=ms.length+1): xA P c f (lb0++[adv (some ⟨a8,0,none⟩)]).toArray (λls Z φ W=>gf c Z φ W a8 ks ls/\bg c.key φ lb0 ms) (Ln c.g (c.key f) ms):=by
 refine ⟨?_,?_,λh hz=>⟨h.1.wide hz,h.2⟩⟩
 ·intro ls Z φ W v x b s' hinv jC iQ Sd dK;obtain ⟨rL,wu⟩:=hinv;unfold Ln at dK;split at dK
  ·rename_i b' outs hx;simp only [AS,ab2] at dK;obtain ⟨rfl,rfl⟩:=dK;have hl:=wu.length;have dL:dS c Z φ W (c.key f) (v::(lb0++[adv (some ⟨a8,0,none⟩)])) (x::(ms++[.cell (.func 0 ls)])):=by
    simp only [dS,hg,if_true];refine .inr (.inr ⟨pos,ks,0,ls,a8,xw,?_,?_,?_,rL⟩)
    ·rw [eD,adX,<-hl,abR (abU _)];simp
    ·rw [eD,adX,abR (abU _)];simp
    ·rw [eD,List.set_cons_succ,List.set_append_right _ _ (abU _),Nat.sub_self];exact ⟨v,_,rfl,Sd,wu.append ⟨_,[],rfl,⟨rfl,.rp a8 0 [] [] .nil (by simp)⟩,rfl⟩⟩
   have:=hS f _ _ hx φ W Z _ jC dL iQ;have e1:(v::(lb0++[adv (some ⟨a8,0,none⟩)])).toArray= #[v]++(lb0++[adv (some ⟨a8,0,none⟩)]).toArray:=by apply aci.1;simp
   rw [e1] at this;refine this.imp ?_;rintro v' w' ⟨φ',t1,t2,pK,pos',ks',akg,Rn,yu,Ry,hc⟩;rw [xw] at yu;simp only [AS,ab2] at yu;obtain ⟨rfl,rfl⟩:=yu;have hb:akg=a8:=by rw [eD,adX,<-hl,abR (abU _)] at Ry;simp at Ry;exact Ry.1.symm
   subst hb;exact ⟨HT pK,φ',t1,t2,hc,wu.mono t1.ph⟩
  ·cases dK
 ·intro ls Z φ W W' hinv pJ iM;obtain ⟨⟨cs,m,E,arr,T,k1,k2,k3,k4,k5,k6,k7⟩,wu⟩:=hinv;have cI:=aZ k2;refine ⟨⟨cs,m,E,arr,T,k1,(iM a8 k3 cI).trans k2,⟨k3,cI⟩,k4,k5,λf' o' ho=>⟨?_,(k6 f' o' ho).2⟩,k7⟩,wu⟩;obtain ⟨I,cells,q1,q2,q3,q4,q5⟩:=(k6 f' o' ho).1.row;refine ⟨I,cells,q1,q2,⟨q3.1,?_⟩,q4,λb hb=>⟨⟨(q5 b hb).1,Hr q3 hb⟩,(q5 b hb).2⟩⟩;rcases q3.2 with h6|⟨g,cap,cY,r1,r2,r3,r4⟩
  ·exact .inl h6
  ·exact .inr ⟨g,cap,cY,r1,r2,(iM g (q5 g (by rw [r1];rfl)).1 (aZ r3)).trans r3,r4⟩
theorem T4 {xs:List MV}(h:xs.all Rr=true): ∀x∈xs,∃ms,x= .agg ms:=by intro x hx;have:=abK.1 h x hx;cases x<;>simp [Rr] at this;exact ⟨_,rfl⟩
theorem put_comm {a:Act}{x y:Nat}(h:x≠y)(v u:Value):(a.put (some x) v).put (some y) u=(a.put (some y) u).put (some x) v:=by show ({a with tmps:=(a.tmps.setIfInBounds x v).setIfInBounds y u}:Act)={a with tmps:=(a.tmps.setIfInBounds y u).setIfInBounds x v};rw [agd v u h]
theorem T5 {y d:Nat}{o1 o2:Oper}{h:Nat} {v0 v' fv:Value}{ys:List MV} {φ0:Ph}{w0:World}(hs:bS c Z e st a w)(h1:o1.dst=some y)(h2:o2.dst=some d)(hyd:d≠y)(rX: ∀b,v0.ownBlock=some b->Z.In b)(gd:cu c (bC.plain λb=>v0.ownBlock=some b) (na c.key e.φ) w v' ⟨c.nU (c.key h),false,ys⟩)(dn: ∀b,v'.ownBlock=some b->v0.ownBlock=some b)(wh: ∀b,v0.ownBlock=some b->(∀t fU,aq st.fr t= .box fU->e.B t≠b)/\ ∀f o,aI st.aP f=some o->(e.E f).ownBlock≠some b)(ht:Trans Z φ0 w0 e.φ w)(hK:(iP st (o2.dst.getD 0) ⟨c.nU (c.key h),false,ys⟩ λst=>bn c st o2.dst (.sc (.own (o2.dst.getD 0))) λst=>bn c st o1.dst (.sc .un) K)=some r):Out c Z K r φ0 w0 ((a.put o1.dst fv).put o2.dst v') w:=by
 have zJ:=hs.npf hK;have rU:=ot hK;have BB:cu c Z.nc e w v' ⟨c.nU (c.key h),false,ys⟩:=by obtain ⟨I,cells,g1,g2,g3,g4,g5⟩:=gd.row;refine ⟨I,cells,g1,g2,g3,by rw [hs.key];exact g4,λa8 hb=>⟨rX a8 (dn a8 hb),(g5 a8 hb).2.1,λhc=>hc.elim⟩⟩
 have Lv:=hs.Nu zJ BB λb hb=>wh b (dn b hb);obtain ⟨I,cells,g1,g2,g3,g4,g5⟩:=gd.row;have jd:v'.oneCell'=true:=by rcases g3.2 with ⟨rfl,_⟩|⟨g,cap,cY,rfl,_⟩<;>rfl
 obtain ⟨e3,oP,q1,q2,q3⟩:=cW (v:=v') (s:= .sc (.own (o2.dst.getD 0))) Lv (.of (sS jd) trivial) rU;obtain ⟨e4,st4,q4,q5,q6⟩:=cW (v:=fv) (s:= .sc .un) q1 (.of (by simp [ab]) trivial) q2;rw [h1,h2] at q4;rw [put_comm hyd] at q4;rw [h1,h2];exact ⟨e4,st4,q4,by rw [q6,q3];exact ht,q5⟩
theorem ac4 (hS:Sound P c){h f x y d:Nat}{bV:Array Operand}{cl:Call}{o1 o2:Oper}(hd:NP P c h (c.nU (c.key h)))(h1:o1.op= .makeFunc (.func f) #[] bV)(h2:o2.op= .call cl)(oq:cl.callee= .value (.func h))(dL:cl.args.toList=[.tmp x,.tmp y])(hd1:o1.dst=some y)(hd2:o2.dst=some d)(Q7:x≠y)(hyd:d≠y)(hyn:y<c.n)(oO:bS c Z e st a w)(hK:X2 c h f bV.toList (.tmp x) o1 o2 st K=some r): o1.wp P a w (λa1 w1=>o2.wp P a1 w1 (Out c Z K r e.φ w) Q) Q:=by
 have akh:(execOp a.eval o1).run P w= .ok (.value (.func (.func f) #[] (bV.map a.eval))) w:=by simp [execOp,h1,Instr.makeFunc]
 unfold afA;rw [akh,adx];have GL: ∀v:Value,(a.put o1.dst v).eval (.tmp x)=a.eval (.tmp x)/\(a.put o1.dst v).eval (.tmp y)=v:=by
  intro v;rw [hd1];have hy:y<a.tmps.size:=by rw [oO.size];exact hyn
  constructor
  ·show (a.put (some y) v).tmps.getD x undef=a.tmps.getD x undef;rw [Act.zG hy,if_neg Q7]
  ·show (a.put (some y) v).tmps.getD y undef=v;rw [Act.zG hy,if_pos rfl]
 have ag2: ∀v:Value,cl.args.map (a.put o1.dst v).eval= #[a.eval (.tmp x),v]:=by intro v;apply aci.1;rw [agp,dL];simp [(GL v).1,(GL v).2]
 have L3: ∀v:Value,(execOp (a.put o1.dst v).eval o2).run P w=(callFunc h #[a.eval (.tmp x),v]).run P w:=by intro v;have:=ag2 v;simp [execOp,h2,resolve,oq,this,Act.eval,ae8,invoke]
 unfold X2 at hK;cases xw:c.sig (c.key f) with
 |none=>
  simp only [xw] at hK;cases hg:c.dA (c.key f) with
  |true=>simp [hg] at hK
  |false=>
  simp only [hg,cond_false] at hK;obtain ⟨e1,eJ,ms,s1,x1,r1,rU,jd⟩:=xp oO hK;obtain ⟨e2,eg,xs,G,yV⟩:=sV s1 (s1.eval (.tmp x)).1 rU;simp only [gF] at yV;obtain ⟨HU,Hq⟩:=dE yV;obtain ⟨p,hp,hK4⟩:=oW Hq;obtain ⟨ys,u⟩:=p;have wu:bg c.key e1.φ (bV.map a.eval).toList ms:=by have:=ga.one r1 jd;rw [s1.key] at this;simpa using this
  have Gh: ∀b,(a.eval (.tmp x)).ownBlock=some b-> ¬w.heap.size<=b:=by intro b hb;obtain ⟨I,cells,_,_,g3,_⟩:=G.row.row;have:=Hr g3 hb;omega
  have yv:=hd.run (Sc hS hg) (T4 HU) G.row Gh wu (λb hb=>hb) s1.kZ hp;refine wi (L3 _) yv ?_;rintro v' w' ⟨Zw,φ',hW,gd,dn⟩;have ac6: ∀b,((w.heap.size<=b\/w.heap.size<=b)\/(a.eval (.tmp x)).ownBlock=some b)->Z.In b:=by
   rintro b ((hb|hb)|hb)
   ·exact s1.ch b hb
   ·exact s1.ch b hb
   ·exact G.In b hb
  have hzb: ∀t cs,aq eg.fr t= .box cs-> ¬((w.heap.size<=e2.B t\/w.heap.size<=e2.B t)\/(a.eval (.tmp x)).ownBlock=some (e2.B t)):=by
   rintro t cs ht ((hb|hb)|hb)
   ·have:=xt G.sU ht;omega
   ·have:=xt G.sU ht;omega
   ·exact G.box t cs ht hb
  have hzf: ∀f o k,aI eg.aP f=some o->(e2.E f).ownBlock=some k-> ¬((w.heap.size<=k\/w.heap.size<=k)\/(a.eval (.tmp x)).ownBlock=some k):=by
   rintro f o k ho hk ((hb|hb)|hb)
   ·have:=xu G.sU ho hk;omega
   ·have:=xu G.sU ho hk;omega
   ·exact G.iK f o k ho hk hb
  have wj:=hW.tr;rw [<-G.φ] at wj;have hs3:=G.sU.called ac6 hzb hzf wj hW.kZ;have sW:Trans Z e.φ w φ' w':=x1.tr.trans (hW.tr.zW ac6);exact T5 (e:={e2 with φ:=φ'}) hs3 hd1 hd2 hyd G.In gd dn (λb hb=>⟨λt fU ht he=>G.box t fU ht (by rw [hb,<-he]),λf o ho hk=>G.iK f o b ho hk hb⟩) sW hK4
 |some sg=>
  obtain ⟨pos,ks⟩:=sg;simp only [xw] at hK;obtain ⟨e1,eJ,ms,s1,x1,r1,rU,jd⟩:=xp oO hK;obtain ⟨e2,eg,xs,G,yV⟩:=sV s1 (s1.eval (.tmp x)).1 rU;simp only [gF] at yV;obtain ⟨HU,Hq⟩:=dE yV;cases C7:bV.toList.getLast? with
  |none=>simp [C7] at Hq
  |some y0=>
  simp only [C7] at Hq;split at Hq;rotate_left
  ·cases Hq
  rename_i root R0;split at Hq;rotate_left
  ·cases Hq
  rename_i cs hf;cases mP:eT cs||bx eg.cA root||!iL c ks||!No pos (ms.length+1)||!c.dA (c.key f) with
  |true=>simp [mP] at Hq
  |false=>
  simp only [mP,cond_false] at Hq;simp only [adg,ah8] at mP;obtain ⟨⟨⟨⟨hm,hr⟩,iJ⟩,eD⟩,hg⟩:=mP;have eD:=sh eD;obtain ⟨ls,ps,ht,hK4⟩:=B7 Hq;obtain ⟨p,hp,hK5⟩:=oW hK4;obtain ⟨ys,outs⟩:=p;have hy0:a.eval y0= .pointer (some ⟨e2.B root,0,none⟩):=by have:=(G.sU.eval y0).1;rw [R0] at this;exact this
  have aki:(bV.map a.eval)=((bV.toList.dropLast.map a.eval)++[adv (some ⟨e2.B root,0,none⟩)]).toArray:=by
   apply aci.1;rw [agp];have cR:bV.toList≠[]:=by intro e;rw [e] at C7;simp at C7
   have h3:bV.toList=bV.toList.dropLast++[y0]:=by have h4:=List.dropLast_concat_getLast cR;have h5:=List.getLast?_eq_some_getLast cR;rw [C7] at h5;rw [aiH h5];exact h4.symm
   rw [h3];simp [hy0]
  have wu:bg c.key e2.φ (bV.toList.dropLast.map a.eval) ms:=by have:=ga.one r1 jd;rw [s1.key,<-G.φ] at this;exact this
  have Bj:cu c (bC.plain λb=>(a.eval (.tmp x)).ownBlock=some b) (na c.key e2.φ) w (a.eval (.tmp x)) ⟨c.nU (c.key h),false,xs⟩:=by rw [G.φ];exact G.row
  let Z2:Nat->Prop:=λb=>w.heap.size<=b\/gone e2 root ps b;have hgx: ∀b,(a.eval (.tmp x)).ownBlock=some b-> ¬gone e2 root ps b:=by
   rintro b hb (rfl|⟨q,g,hp,hq⟩)
   ·exact G.box root cs hf hb
   ·obtain ⟨o,ho,_⟩:=ht.aP q g hp;exact G.iK g o b ho hq hb
  have cI: ∀b,(a.eval (.tmp x)).ownBlock=some b->b<w.heap.size:=by intro b hb;obtain ⟨I,cells,_,_,g3,_⟩:=G.row.row;exact Hr g3 hb
  have Gh: ∀b,(a.eval (.tmp x)).ownBlock=some b-> ¬Z2 b:=by
   rintro b hb (h'|h')
   ·have:=cI b hb;omega
   ·exact hgx b hb h'
  have rL:gf c Z2 e2.φ w (e2.B root) ks ls:=(Hv G.sU hf hm iJ ht).wide λb hb=> .inr hb;have yv:=hd.run (VS hS hg xw eD) (T4 HU) Bj Gh ⟨rL,wu⟩ (λb hb=> .inl hb) G.sU.kZ hp;rw [<-aki] at yv;refine wi (L3 _) yv ?_;rintro v' w' ⟨Zw,φ',hW,gd,dn⟩;have hZ2: ∀b,Z2 b\/w.heap.size<=b->Z2 b:=λb hb=>hb.elim id .inl;have ac6: ∀b,Z2 b->Z.In b:=λb hb=>hb.elim (G.sU.ch b) (C1 G.sU hf hr ht b);have wj:Trans (λb=>Z2 b\/(a.eval (.tmp x)).ownBlock=some b) e2.φ w φ' w':=hW.tr.zW λb hb=>hb.elim (λh=> .inl (hZ2 b h)) .inr;have ag3:gf c Z2 φ' w' (e2.B root) ks outs:=hW.inv.1.wide λb hb=>hZ2 b (hW.sub b hb);obtain ⟨e3,oP,h3,hφ3,hX,hK6⟩:=VR G.sU hf hm hr ht (λb=>Iff.rfl) (X:=λb=>(a.eval (.tmp x)).ownBlock=some b) (λt fU B2 hb=>G.box t fU B2 hb) (λf o b ho hk hb=>G.iK f o b ho hk hb) wj hW.kZ ag3 hK5;have sW:Trans Z e.φ w φ' w':=by have t2:Trans Z e2.φ w φ' w':=wj.zW λb hb=>hb.elim (ac6 b) (G.In b);rw [G.φ] at t2;exact x1.tr.trans t2
  subst hφ3;exact T5 h3 hd1 hd2 hyd G.In gd dn (λb hb=>hX b hb (Gh b hb)) sW hK6
end
end Dn
/-
  Regions in the order of their text. Conditions: none.
-/
namespace Dn
open Go
section
variable {P:Program}{c:Ctx}{Z:bC}{e:Env}{st:St}{a:Act}{w:World}{R:Type}{K:St->Option R}{r:R}{Q:Exit->Act->World->Prop}{ops:Array Oper}
theorem PT (hG:Good P c){is:List Nat}{rest:List Nat}: ∀{os:List Oper} {e:Env} {st:St} {a:Act} {w:World},is.map (ops[·]?)=os.map some->bS c Z e st a w->Bf c ops.toList os st K=some r-> ∀{φ0:Ph} {w0:World},Trans Z φ0 w0 e.φ w->(∀a' w',Out c Z K r φ0 w0 a' w'->wpOps P ops Q rest a' w')->wpOps P ops Q (is++rest) a w:=by
 induction is with
 |nil=>
  intro os e st a w hm h hK φ0 w0 ht hQ;cases os with
  |nil=>exact hQ a w ⟨e,st,h,ht,hK⟩
  |cons=>simp at hm
 |cons i is ih=>
  intro os e st a w hm h hK φ0 w0 ht hQ;cases os with
  |nil=>simp at hm
  |cons o os=>simp only [afj,acw] at hm;simp only [Bf] at hK;rw [ab1,wpOps_cons];refine wpOp_mono ?_ (TS hG hm.1 h hK);rintro a' w' ⟨e2,eg,h1,h2,h3⟩;exact ih hm.2 h1 h3 (ht.trans h2) hQ
structure afv (c:Ctx) (l pre:List Oper) (f:Nat) (bV:List Operand) (h:Nat) (x:Operand) (o1 o2:Oper) (post:List Oper):Prop where
 eq:l=pre++o1::o2::post
 is: ∃(cs:Array Operand) (cl:Call) (x' y d:Nat),cs.toList=bV/\o1.op= .makeFunc (.func f) #[] cs/\o2.op= .call cl/\cl.callee= .value (.func h)/\cl.args.toList=[.tmp x',.tmp y]/\x= .tmp x'/\o1.dst=some y/\o2.dst=some d/\c.M3 h=true/\x'≠y/\d≠y/\y<c.n
theorem Se: ∀{l pre VT:List Oper} {f:Nat} {bV:List Operand} {h:Nat} {x:Operand} {o1 o2:Oper} {post:List Oper},CM c pre l=some (VT,f,bV,h,x,o1,o2,post)->afv c (pre.reverse++l) VT f bV h x o1 o2 post:=by
 intro l;induction l with
 |nil=>intro pre VT f bV h x o1 o2 post hd;simp [CM] at hd
 |cons p1 l ih=>
  intro pre VT f bV h x o1 o2 post hd;cases l with
  |nil=>simp [CM] at hd
  |cons p2 r=>
   have ag4:CM c (p1::pre) (p2::r)=some (VT,f,bV,h,x,o1,o2,post)->afv c (pre.reverse++p1::p2::r) VT f bV h x o1 o2 post:=by intro hq;have:=ih hq;simpa using this
   unfold CM at hd;split at hd
   ·rename_i f' first cs cl h1 h2
    split at hd
    ·rename_i h' x' y' d' k1 k2 k3 k4;cases hb:c.M3 h'&&No y' d'&&!No x' d'&&!afe c.n d'&&!No (p2.dst.getD d') d' with
     |false=>simp only [hb,cond_false] at hd;exact ag4 hd
     |true=>
      simp only [hb,cond_true,AS,ab2] at hd;obtain ⟨rfl,rfl,rfl,rfl,rfl,rfl,rfl,rfl⟩:=hd;simp only [bN,OF,fm,decide_eq_true_eq,decide_eq_false_iff_not] at hb;obtain ⟨⟨⟨⟨q1,rfl⟩,q3⟩,q4⟩,q5⟩:=hb;have hf:first= #[]:=by apply aci.1;simpa using k3
      subst hf;have hd2: ∃d,p2.dst=some d/\d≠y':=by
       cases hp:p2.dst with
       |none=>rw [hp] at q5;simp at q5
       |some d=>rw [hp] at q5;exact ⟨d,rfl,q5⟩
      obtain ⟨d,hd2,hd3⟩:=hd2;refine ⟨rfl,cs,cl,x',y',d,rfl,h1,h2,k1,k2,rfl,k4,hd2,q1,q3,hd3,?_⟩;rcases Nat.lt_or_ge y' c.n with cI|TA
      ·exact cI
      ·have atj:=agS TA;simp_all
    ·exact ag4 hd
   ·exact ag4 hd
theorem PU: ∀{l:List Oper},Ha l=true-> ∀o∈l,o.guard=none:=by
 intro l;induction l with
 |nil=>intro _ o ho;cases ho
 |cons p l ih=>
  intro h o ho;unfold Ha at h;cases hg:p.guard with
  |none=>
   rw [hg] at h;rcases By.1 ho with rfl|ho
   ·exact hg
   ·exact ih h o ho
  |some=>rw [hg] at h;cases h
theorem VU (hG:Good P c)(NQ:xB P c)(id:Nat)(ops:Array Oper):PD P c id ops:=by
 intro Z e st a w R K r Q h hK hQ;unfold X3 at hK;split at hK;rotate_left
 ·exact LO (Vz hG id ops) h hK hQ
 rename_i pre f bV hh x o1 o2 post hda;obtain ⟨jK,cs,cl,x',y,d,rfl,k1,k2,k3,k4,rfl,k5,k6,k7,k8,k9,k10⟩:=Se hda;simp only [List.reverse_nil,acC] at jK;cases Q3:Ha ops.toList with
 |false=>simp [Q3] at hK
 |true=>
 simp only [Q3,cond_true] at hK;obtain ⟨std,hdr,hK⟩:=qL h hK;have hgd:=PU Q3;have OP:o1.guard=none:=hgd o1 (by rw [jK];simp);have TB:o2.guard=none:=hgd o2 (by rw [jK];simp);refine wp_region ?_;have pJ:ops.size=pre.length+(post.length+2):=by rw [<-abL,jK];simp
 have oN: ∀i,ops[i]? =(pre++o1::o2::post)[i]? :=λi=>by rw [<-jK,ae6]
 have ag5:AI ops.size=AI pre.length++(pre.length::(pre.length+1)::((AI post.length).map (· +(pre.length+2)))):=by rw [pJ,ait];congr 1;rw [show post.length+2=2+post.length by omega,ait];simp [List.range_succ];intros;omega
 rw [ag5];refine PT hG (os:=pre) ?_ hdr hK (.refl _ _ _) ?_
 ·apply aih;intro i;simp only [aii];by_cases hi:i<pre.length
  ·rw [ahD hi];simp only [afx,oN,agb hi];rw [ab6 hi];rfl
  ·rw [ada (by simp;omega),ada (by omega)];rfl
 ·rintro a1 w1 ⟨e1,eJ,s1,t1,rU⟩;have hw:=ac4 hG.fn (NQ hh k7) k1 k2 k3 k4 k5 k6 k8 k9 k10 s1 rU (P:=P) (Q:=Q);have uP:ops[pre.length]? =some o1:=by rw [oN];simp
  have XA:ops[pre.length+1]? =some o2:=by rw [oN,abR (by omega)];simp
  rw [wpOps_cons];unfold wpOp;simp only [uP,aaW,OP,if_true];left;refine afB ?_ hw;intro a2 w2 hw2;rw [wpOps_cons];unfold wpOp;simp only [XA,aaW,TB,if_true];left;refine afB ?_ hw2;rintro a3 w3 ⟨e3,oP,s3,t3,Hq⟩;rw [<-air ((AI post.length).map (· +(pre.length+2)))];refine PT hG (os:=post) ?_ s3 Hq (t1.trans t3) ?_
  ·apply aih;intro i;simp only [aii,List.map_map];by_cases hi:i<post.length
   ·rw [ahD hi];simp only [afx,Function.comp,oN];rw [abR (by omega),show i+(pre.length+2)-pre.length=i+2 by omega];simp [ab6 hi]
   ·rw [ada (by simp;omega),ada (by omega)];rfl
  ·intro a' w' ho;exact hQ a' w' ho
end
end Dn
/-
  Open order with two operations that may be done either way round. Conditions: none.
-/
namespace Dn
open Go
section
variable {P:Program}{ops:Array Oper}{Q:Exit->Act->World->Prop}
theorem L4 (A B:Nat):(Kz ops A B).size=ops.size:=by simp [Kz]
theorem HV (A B i:Nat):(Kz ops A B)[i]? =(ops[i]?).map λo=>if B=i then {o with after:=o.after.push ⟨A,.data⟩} else o:=by
 unfold Kz;rw [agT];by_cases h:B=i
 ·simp [h]
 ·cases ops[i]? <;>simp [h]
theorem NR (A B:Nat)(tmps:Array Value):yielded (Kz ops A B) tmps=yielded ops tmps:=by
 funext j;unfold yielded;rw [HV];cases ops[j]? with
 |none=>rfl
 |some o=>
  have e:(if B=j then {o with after:=o.after.push ⟨A,.data⟩} else o).dst=o.dst:=by split<;>rfl
  simp only [afx,Option.bind_some,e]
theorem VV {A B i:Nat}{K:Act->World->Prop}{a:Act}{w:World}(h:wpOp P (Kz ops A B) Q i K a w):wpOp P ops Q i K a w:=by
 unfold wpOp at h⊢;rw [HV,NR] at h;cases hi:ops[i]? with
 |none=>rw [hi] at h;exact h
 |some o=>
  rw [hi] at h;simp only [afx] at h;by_cases hb:B=i
  ·rw [if_pos hb] at h;exact h
  ·rw [if_neg hb] at h;exact h
theorem Sf {A B i:Nat}{listed:Array Bool}:i∈AT .any (Kz ops A B) listed↔i∈AT .any ops listed/\(i=B->listed.getD A false=true):=by
 unfold AT;rw [L4];simp only [List.mem_filter,List.mem_range,HV];cases hi:ops[i]? with
 |none=>simp
 |some o=>
  by_cases hb:B=i
  ·subst hb;simp [Array.all_push,adn];constructor
   ·rintro ⟨h1,h2,h3,h4⟩;exact ⟨⟨h1,h2,h3⟩,h4⟩
   ·rintro ⟨⟨h1,h2,h3⟩,h4⟩;exact ⟨h1,h2,h3,h4⟩
  ·have CR: ¬i=B:=λe=>hb e.symm;simp [hb,CR]
def Ahd (A B:Nat):Bool->List Nat->Prop
 |_,[]=>True
 |la,i::r=>(i=B->la=true)/\Ahd A B (la||decide (i=A)) r
theorem HW (A B:Nat): ∀L,Ahd A B true L
 |[]=>trivial
 |i::r=>⟨λ_=>rfl,by simpa using HW A B r⟩
theorem ZF {A B:Nat}(h:A≠B): ∀L,Ahd A B false L\/Ahd B A false L
 |[]=> .inl trivial
 |i::r=>by
  by_cases ha:i=A
  ·subst ha;exact .inl ⟨λe=>absurd e h,by simpa using HW i B r⟩
  ·by_cases hb:i=B
   ·subst hb;exact .inr ⟨λe=>absurd e ha,by simpa using HW i A r⟩
   ·rcases ZF h r with h1|h1
    ·exact .inl ⟨λe=>absurd e hb,by simpa [ha] using h1⟩
    ·exact .inr ⟨λe=>absurd e ha,by simpa [hb] using h1⟩
def rN (ops:Array Oper):List (Nat×Nat)->Array Oper
 |[]=>ops
 |p::E=>Kz (rN ops E) p.1 p.2
theorem Cb: ∀E,(rN ops E).size=ops.size
 |[]=>rfl
 |p::E=>by rw [rN,L4,Cb E]
theorem HX {i:Nat}{K:Act->World->Prop}{a:Act}{w:World}: ∀E,wpOp P (rN ops E) Q i K a w->wpOp P ops Q i K a w
 |[],h=>h
 |_::E,h=>HX E (VV h)
theorem zY {i:Nat}{listed:Array Bool}: ∀E,i∈AT .any (rN ops E) listed↔i∈AT .any ops listed/\ ∀p∈E,i=p.2->listed.getD p.1 false=true
 |[]=>by simp [rN]
 |p::E=>by rw [rN,Sf,zY E,acX];exact ⟨λh=>⟨h.1.1,h.2,h.1.2⟩,λh=>⟨⟨h.1,h.2.2⟩,h.2.1⟩⟩
theorem Sg {E:List (Nat×Nat)}: ∀(fuel t:Nat) (listed:Array Bool) (a:Act) (w:World),(∀p∈E,p.1<listed.size)->wpAny P .any (rN ops E) Q fuel listed a w-> (∀p∈E,Ahd p.1 p.2 (listed.getD p.1 false) (aa6 .any ops fuel t listed []))->wpOps P ops Q (aa6 .any ops fuel t listed []) a w:=by
 intro fuel;induction fuel with
 |zero=>intro t listed a w _ h _;simpa [aa6,wpOps] using h.2
 |succ fuel ih=>
  intro t listed a w hs h hA;obtain ⟨h₀,h₁⟩:=h;simp only [aa6] at hA⊢;change wpOps P ops Q (match (AT .any ops listed)[t%(AT .any ops listed).length]? with
   |some i=>aa6 .any ops fuel (t/(AT .any ops listed).length) (listed.setIfInBounds i true) [i]
   |none=>[].reverse) a w
  change∀p∈E,Ahd p.1 p.2 (listed.getD p.1 false) (match (AT .any ops listed)[t%(AT .any ops listed).length]? with
   |some i=>aa6 .any ops fuel (t/(AT .any ops listed).length) (listed.setIfInBounds i true) [i]
   |none=>[].reverse) at hA
  cases hi:(AT .any ops listed)[t%(AT .any ops listed).length]? with
  |none=>
   have RN:AT .any ops listed=[]:=by
    cases hr:AT .any ops listed with
    |nil=>rfl
    |cons x xs=>rw [hr] at hi;have cI:t%(x::xs).length<(x::xs).length:=Nat.mod_lt _ (by simp);simp at hi;simp at cI;omega
   have akj:AT .any (rN ops E) listed=[]:=by
    cases hr:AT .any (rN ops E) listed with
    |nil=>rfl
    |cons x xs=>
     have:x∈AT .any (rN ops E) listed:=by rw [hr];simp
     have:=((zY E).1 this).1;rw [RN] at this;cases this
   simpa [wpOps] using h₀ akj
  |some i=>
   rw [hi] at hA;simp only [] at hA⊢;rw [linearise_go_acc,List.reverse_singleton,List.singleton_append] at hA⊢;rw [wpOps_cons];have zZ:=(zY E).2 ⟨afm hi,λp hp=>(hA p hp).1⟩;refine wpOp_mono (λa w hw=>ih _ _ a w (λp hp=>by simpa using hs p hp) hw λp hp=> ?_) (HX E (h₁ i zZ));have hg:(listed.setIfInBounds i true).getD p.1 false=(listed.getD p.1 false||decide (i=p.1)):=by
    rw [ab8,ab8,Array.getElem?_setIfInBounds];by_cases hia:i=p.1
    ·subst hia;simp [hs p hp]
    ·simp [hia]
   rw [hg];exact (hA p hp).2
theorem PV {c:Ctx}(hG:Good P c)(PW:P.follows .mixedOrders=true)(NQ:xB P c):TU P c:=by
 refine ⟨λid ops=>VU hG NQ id ops,?_,?_⟩
 ·intro id ops l hd hp Z e st a w R K r Q h hK hQ;refine agA ?_ (wp_region_any PW (PS hG hd hp h hK));intro x a' w' hx;cases x<;>first|exact hQ a' w' hx|exact hx.elim
 ·intro id ops k l Z e st a w R K r Q h hK hQ;refine agA (Q:=oY λa' w'=>Out c Z K r e.φ w a' w') ?_ (wp_region_draw λt=> ?_)
  ·intro x a' w' hx;cases x<;>first|exact hQ a' w' hx|exact hx.elim
  simp only [Region.schedule,PW,Bool.true_or,if_true];have leaf: ∀(E:List (Nat×Nat)) (l:List Nat),(∀p∈E,p.1<ops.size)->X5 c (rN ops E) l st K=some r->(∀p∈E,Ahd p.1 p.2 false (aa6 .any ops ops.size t (IN ops.size false) []))-> wpOps P ops (oY λa' w'=>Out c Z K r e.φ w a' w') (aa6 .any ops ops.size t (IN ops.size false) []) a {w with drawn:=w.drawn+1}:=by
   intro E l hE hK hA;unfold X5 at hK;cases hd:sL c (rN ops E) l with
   |false=>simp [hd] at hK
   |true=>
    simp only [hd,cond_true] at hK;split at hK
    ·rename_i l1 hp;have w1:=PS hG hd hp h hK;rw [Cb] at w1;exact Sg ops.size t _ a _ (by simpa using hE) w1 (λp hp=>by simpa [hE p hp] using hA p hp)
    ·cases hK
  have key: ∀(k:Nat) (E:List (Nat×Nat)) (l:List Nat),(∀p∈E,p.1<ops.size)->Hb c st K k (rN ops E) l=some r->(∀p∈E,Ahd p.1 p.2 false (aa6 .any ops ops.size t (IN ops.size false) []))-> wpOps P ops (oY λa' w'=>Out c Z K r e.φ w a' w') (aa6 .any ops ops.size t (IN ops.size false) []) a {w with drawn:=w.drawn+1}:=by
   intro k;induction k with
   |zero=>intro E l _ hK;cases hK
   |succ k ih=>
    intro E l hE hK hA;simp only [Hb] at hK;cases hb:No l.length (rN ops E).toList.length with
    |true=>simp only [hb,cond_true] at hK;exact leaf E l hE hK hA
    |false=>
     simp only [hb,cond_false] at hK;split at hK
     ·rename_i o1 o2 A B ht;obtain ⟨q1,q2,q3⟩:=R3 ht;have pJ:(rN ops E).toList.length=ops.size:=by rw [abL,Cb]
      rw [pJ] at q2 q3;obtain ⟨k1,k2⟩:=VA hK;rcases ZF q1 (aa6 .any ops ops.size t (IN ops.size false) []) with ho|ho
      ·exact ih ((A,B)::E) o1 (acX.2 ⟨q2,hE⟩) k1 (acX.2 ⟨ho,hA⟩)
      ·exact ih ((B,A)::E) o2 (acX.2 ⟨q3,hE⟩) k2 (acX.2 ⟨ho,hA⟩)
     ·cases hK
  exact key k [] l (by simp) hK (by simp)
end
end Dn
/-
  Functions of the library, by hand: copies of slices. Conditions: none.
-/
namespace Dn
open Go
section
variable {P:Program}{c:Ctx}{Q:Exit->Act->World->Prop}{ops:Array Oper}{o:Oper}{a:Act} {w w':World}
theorem vD {i:Nat}{rest:List Nat}{v:Value}(hi:ops[i]? =some o)(hg:o.guard=none)(bF:(execOp a.eval o).run P w= .ok (.value v) w')(h:wpOps P ops Q rest (a.put o.dst v) w'):wpOps P ops Q (i::rest) a w:=by rw [wpOps_cons];unfold wpOp;simp only [hi,aaW,hg,if_true];left;unfold afA;rw [bF,adx];exact h
structure ak (o:Oper) (d:Nat) (op:Op):Prop where
 dst:o.dst=some d
 op:o.op=op
 guard:o.guard=none
theorem ag6 {key:Nat->Nat} {φ:Ph}{size:Nat}{v:Value}{xs:List MV}(iQ:oS φ w)(eD:0<size)(hx:gY key φ [v] (.list xs))(hw:pS size xs=true): ∃news,Src (na key φ) w size v xs news:=by
 generalize hv:[v]=vs at hx;cases hx with
 |list ad cap _ a8 off Fb f g1 g2 g3 g4 g5=>
 simp at hv;have hes: ∀i,i<xs.length->(f i).length=size:=by intro i hi;rw [(g5 i hi).width];exact CT hw _ (aij hi)
 obtain ⟨cs,h1,h2⟩:=Hn hes g5;refine ⟨cs,h1,ad,cap,hv,?_,?_⟩
 ·intro hn;cases xs with
  |nil=>rfl
  |cons y ys=>have:=g2 (by simp);rw [hn] at this;cases this
 ·intro x hx j u hj;have Kl:j<cs.length:=(ab0.1 hj).1;rw [h1.length] at Kl;have Ho:0<xs.length:=by
   cases xs with
   |nil=>simp at Kl
   |cons y ys=>simp
  have Pd:=g2 Ho;rw [hx] at Pd;cases Pd;have hq:j/size<xs.length:=(Nat.div_lt_iff_lt_mul eD).2 Kl;have hm:=Nat.mod_lt j eD;have Xv:j=j/size *size+j%size:=by rw [Nat.mul_comm];exact (Nat.div_add_mod j size).symm
  have e1:=h2 (j/size) (j%size) hq hm;rw [<-Xv,hj] at e1;have Yx:Fb=size:=by rw [<-g3 0 Ho,hes 0 Ho]
  have e2:=g4 (j/size) (j%size) hq (by rw [Yx];exact hm);rw [<-e1,Yx,Nat.add_assoc,<-Xv] at e2;have:=iQ _ _ _ e2;rw [ac3];exact this
theorem VW {t t':TypeId}{el:TypeId}{x:Operand}{ad:Option Addr}{n cap:Nat}(hu:P.underlying t=some (.slice el))(ho:o.op= .binOp .eql t x (.const (.slice none 0 0)) t')(hx:a.eval x= .slice ad n cap): (execOp a.eval o).run P w= .ok (.value (.bool ad.isNone)) w:=by
 have he:a.eval (.const (.slice none 0 0))= .slice none 0 0:=rfl;have jK: ∀d:Nat,(ags (d+1) t (.slice ad n cap) (.slice none 0 0)).run P w= .ok ad.isNone w:=by intro d;cases ad<;>simp [ags,run_underlying hu]
 have hb:agr .eql t (.slice ad n cap) (.slice none 0 0)=(do pure (.bool (<-aic t (.slice ad n cap) (.slice none 0 0)))):=rfl;have hg: ∀(x y:Operand),(eqGuard .eql t x y (.slice ad n cap) (.slice none 0 0)).run P w= .ok () w:=λ_ _=>rfl;have h2:(aic t (.slice ad n cap) (.slice none 0 0)).run P w= .ok ad.isNone w:=jK 9999;unfold execOp;simp only [ho];rw [hx,he];simp [hg,hb,h2]
theorem C8 {f:FuncId}{fn:Func}{t:TypeId}{I E:TI}{i0 i1 i2 i3:Nat}{oA oB oC oD oE oF oG oH:Oper}{xs:List MV}(hT:ia P c.ti)(hI:c.tv t=some I)(hL:I.yr=true)(hE:c.tv I.elem=some E)(sw:1<=E.bytes)(Es:c.nU (c.key f)=I.elem)(hg:c.dA (c.key f)=false)
 (hf:P.funcs[f]? =some fn) (zV:(fn.name== "runtime.NumGoroutine")=false) (hn:fn.ntmps=8) (hr:fn.results= #[.tmp 2])
 (je:fn.body=some (.seq (.region i0 #[oA] false) (.seq (.seq (.region i1 #[oB,oC] false) (.cond (.tmp 4) (.seq (.region i2 #[oD] false) .ret) .skip)) (.seq (.region i3 #[oE,oF,oG,oH] false) .ret))))
 (hA:ak oA 2 (.assign (.const (.slice none 0 0)))) (hB:ak oB 3 (.move (.tmp 0))) (hC:ak oC 4 (.binOp .eql t (.tmp 3) (.const (.slice none 0 0)) t)) (hD:ak oD 2 (.assign (.const (.slice none 0 0))))
 (hEo:ak oE 5 (.buildSlice t 0 #[])) (hF:ak oF 6 (.move (.tmp 0))) (hG:ak oG 7 (.call {callee:= .builtin .append,args:= #[.tmp 5,.tmp 6],argTypes:= #[t,t]})) (hH:ak oH 2 (.assign (.tmp 7)))
 (hw:pS E.size xs=true) (ku:xs.length *E.bytes<=2^46):gh P c f [.list xs] (.fresh xs):=by
 obtain ⟨hIt,Q5⟩:=bj hI;obtain ⟨lN,om⟩:=bj hE;obtain ⟨hu,E2,v7,_,eD⟩:=TI.lm (hT t I hIt) hL;rw [lN] at v7;cases v7;intro φ W Z vs hz dL iQ;simp only [dS,hg,IT,if_false] at dL;obtain ⟨v,u,rfl,⟨_,hx⟩,hu0⟩:=dL;have hu0:u=[]:=hu0;subst hu0;obtain ⟨ad,cap,hv,B4,hnn⟩: ∃ad cap,v= .slice ad xs.length cap/\xs.length<=cap/\(0<xs.length->ad≠none):=by
  have Lw:=hx;generalize yt:[v]=vs at Lw;cases Lw with
  |list ad cap _ a8 off Fb f g1 g2 g3 g4 g5=>exact ⟨ad,cap,by simpa using yt,g1,λh0 hn=>by rw [g2 h0] at hn;cases hn⟩
 have bF:(callFunc f [v].toArray).run P W= .ok (.enter f #[v]) W:=by
  have Hi: ¬fn.name= "runtime.NumGoroutine" :=by simpa using zV
  simp [callFunc,hf,Hi,je]
 unfold dR;rw [bF];refine calls_of_wp hf je ?_;rw [hn];have ha0:({tmps:= #[v]++IN (8-(#[v]:Array Value).size) undef,defers:=[]}:Act)={tmps:= #[v,undef,undef,undef,undef,undef,undef,undef],defers:=[]}:=rfl;rw [ha0];have aoC:AI (#[oA]:Array Oper).size=[0]:=rfl;have aoD:AI (#[oB,oC]:Array Oper).size=[0,1]:=rfl;have aoE:AI (#[oE,oF,oG,oH]:Array Oper).size=[0,1,2,3]:=rfl;have aoF:AI (#[oD]:Array Oper).size=[0]:=rfl;have fin: ∀(a:Act) (W':World) (v':Value) (cells:List Value),a.defers=[]->a.tmps.getD 2 undef=v'->(∃φ',Trans Z φ W φ' W'/\oS φ' W'/\jR c Z φ' W' (c.key f) v' (.fresh xs))-> bodyPost P fn (λx AK=> ∃v,x= .returned v/\ ∃φ',Trans Z φ W φ' AK/\oS φ' AK/\jR c Z φ' AK (c.key f) v (.fresh xs)) .ret a W':=by
  intro a W' v' cells hd h2 h3;refine ⟨hd,v',?_,v',rfl,h3⟩;have Nk:a.tmps[2]?.getD undef=v':=by simpa using h2
  simp [results,hr,Nk]
 refine wp_seq (wp_region ?_);rw [aoC];refine vD (o:=oA) rfl hA.guard (v:= .slice none 0 0) (w':=W) (by simp [execOp,hA.op];rfl) ?_;rw [hA.dst];refine wp_seq (wp_seq (wp_region ?_));rw [aoD];refine vD (o:=oB) rfl hB.guard (v:=v) (w':=W) (by simp [execOp,hB.op];rfl) ?_;rw [hB.dst];refine vD (o:=oC) rfl hC.guard (v:= .bool ad.isNone) (w':=W) (VW hu hC.op (by rw [<-hv];rfl)) ?_;rw [hC.dst];refine wp_cond (t:=ad.isNone) rfl ?_;cases Pd:ad.isNone with
 |true=>
  have Pd:ad=none:=by simpa using Pd
  have hxs:xs=[]:=by
   cases xs with
   |nil=>rfl
   |cons y ys=>exact absurd Pd (hnn (by simp))
  simp only [if_true];refine wp_seq (wp_region ?_);rw [aoF];refine vD (o:=oD) rfl hD.guard (v:= .slice none 0 0) (w':=W) (by simp [execOp,hD.op];rfl) ?_;rw [hD.dst];refine wp_ret ?_;refine fin _ W (.slice none 0 0) [] rfl rfl ⟨φ,.refl _ _ _,iQ,?_⟩;show cu c (bC.plain Z) (na c.key φ) W _ ⟨c.nU (c.key f),false,xs⟩;rw [Es,hxs];exact ⟨E,[],lN,om,⟨by simp,.inl ⟨rfl,rfl⟩⟩,rfl,λa8 hb=>by simp [aeW] at hb⟩
 |false=>
  simp only [IT,if_false];refine wp_skip ?_;refine wp_seq (wp_region ?_);rw [aoE];have akl:=Ns (P:=P) (c:=c) (w:=W) (t:=t) (I:=I) (vs:=[]) (parts:= #[]) hu lN om eD hT (by simp) (by simp) rfl;simp only [List.length_nil,List.flatMap_nil] at akl;refine vD (o:=oE) rfl hEo.guard (v:= .slice (some ⟨W.heap.size,0,none⟩) 0 0) (w':=W.alloc (.cells #[] I.elem)) (by simp [execOp,hEo.op,akl]) ?_;rw [hEo.dst];refine vD (o:=oF) rfl hF.guard (v:=v) (w':=W.alloc (.cells #[] I.elem)) (by simp [execOp,hF.op];rfl) ?_;rw [hF.dst];obtain ⟨news,zQ⟩:=ag6 iQ eD hx hw;have OP:db W (W.alloc (.cells #[] I.elem)):= .alloc W _ _;have akm:Src (na c.key φ) (W.alloc (.cells #[] I.elem)) E.size v xs news:=by obtain ⟨ad',Yl,q1,q2,q3⟩:=zQ.val;exact ⟨zQ.els,ad',Yl,q1,q2,λx hx j u hj=>OP.cell (q3 x hx j u hj)⟩
  have dn:(W.alloc (.cells #[] I.elem)).ownsRow 0 I.elem E.size (.slice (some ⟨W.heap.size,0,none⟩) 0 0) 0 []:=⟨by simp,.inr ⟨W.heap.size,0, #[],rfl,adG _,iy W _,abU _,adG _,by simp,by simp⟩⟩
  obtain ⟨v',W',L3,wh⟩:=B5 (P:=P) (c:=c) (ty:=oG.type) hu lN om eD hT sw dn (akm.apx hu) (by simpa using ku);refine vD (o:=oG) rfl hG.guard (v:=v') (w':=W') (by
   have e1: ∀(a:Act),a.eval (.tmp 5)= .slice (some ⟨W.heap.size,0,none⟩) 0 0->a.eval (.tmp 6)=v->(execOp a.eval oG).run P (W.alloc (.cells #[] I.elem))= .ok (.value v') W':=by intro a h5 h6;simp [execOp,hG.op,resolve,invoke,builtin,h5,h6,L3]
   exact e1 _ rfl rfl) ?_
  rw [hG.dst];refine vD (o:=oH) rfl hH.guard (v:=v') (w':=W') (by simp [execOp,hH.op];rfl) ?_;rw [hH.dst];refine wp_ret ?_;refine fin _ W' v' [] rfl rfl ?_;have pJ:W.heap.size<=W'.heap.size:=adr OP.size wh.size;have hold: ∀b,b<W.heap.size->W'.heap[b]? =W.heap[b]? :=by intro b hb;rw [wh.rK b (ah9 hb OP.size) (by simp [aeW];omega)];exact OP.rK b hb
  refine ⟨φ,⟨.refl _,λb _ hb=>hold b hb,λ_ _ _=>rfl,pJ,OP.rest.trans wh.rest⟩,?_,?_⟩
  ·intro b o u hbo;have h1:=iQ b o u hbo;rw [adh (hold b (ab7 W _ h1))];exact h1
  ·show cu c (bC.plain Z) (na c.key φ) W' v' ⟨c.nU (c.key f),false,xs⟩;rw [Es];refine ⟨E,news,lN,om,by simpa using wh.own,zQ.els,λa8 hb=> ?_⟩;have jI:W.heap.size<=a8:=by
    rcases wh.place with h1|h1
    ·rw [h1] at hb;simp [aeW] at hb;omega
    ·rw [h1] at hb;cases hb;exact OP.size
   refine ⟨hz a8 jI,λoff u hu=> ?_,λhc=>hc.elim⟩;have:=ab7 W _ (iQ _ _ _ hu);have:a8<W.heap.size:=this;omega
end
end Dn
/-
  Tables of functions. Conditions: none.
-/
namespace Dn
open Go
structure jT (P:Program) (c:Ctx) (g:Nat->List MV->Option MV):Prop where
 all: ∀f ms r,g (c.key f) ms=some r->gh P c f ms r
abbrev bp (n:Nat)(F:List MV->Option MV)(g:Nat->List MV->Option MV):Nat->List MV->Option MV:=λk ms=>match No k n with|true=>F ms|false=>g k ms
theorem jT.add {P:Program}{c:Ctx}{g:Nat->List MV->Option MV}{n:Nat}{F:List MV->Option MV}(h:jT P c g)(hF: ∀f ms r,c.key f=n->F ms=some r->gh P c f ms r):jT P c (bp n F g):=by
 refine ⟨λf ms r hr=> ?_⟩;unfold bp at hr;cases hk:No (c.key f) n with
 |true=>simp only [hk] at hr;exact hF f ms r (sh hk) hr
 |false=>simp only [hk] at hr;exact h.all f ms r hr
structure C9 (c c':Ctx):Prop where
 ti:c'.ti=c.ti
 key:c'.key=c.key
 dA:c'.dA=c.dA
 fresh:c'.fresh=c.fresh
 nU:c'.nU=c.nU
 fk:c'.fk=c.fk
 mt:c'.mt=c.mt
 sig:c'.sig=c.sig
 M3:c'.M3=c.M3
theorem cu.oQ {c c':Ctx}(h:c'.ti=c.ti){Z:bC}{e:Env}{w:World}{v:Value}{o:oM}(hs:cu c Z e w v o):cu c' Z e w v o:=by obtain ⟨I,cells,h1,h2⟩:=hs.row;exact ⟨I,cells,by rw [h];exact h1,h2⟩
theorem jR.oQ {c c':Ctx}(h:C9 c c'){Z:Nat->Prop} {φ:Ph}{w:World}{k:Nat}{v:Value}{r:MV}(hs:jR c Z φ w k v r):jR c' Z φ w k v r:=by
 cases r<;>simp only [jR,h.key,h.nU] at hs⊢ <;>first|exact hs|exact hs.oQ h.ti|skip
 rename_i ms;cases ms with
 |nil=>simp only [Nt,h.key] at hs⊢;exact hs
 |cons m r=>
  cases m<;>simp only [Nt,h.key,h.nU] at hs⊢ <;>first|exact hs|skip
  obtain ⟨v0,us,h1,h2,h3⟩:=hs;exact ⟨v0,us,h1,h2.oQ h.ti,h3⟩
theorem gf.oQ {c c':Ctx}(h:C9 c c'){Z:Nat->Prop} {φ:Ph}{w:World}{a8:Nat}{ks:List LK}{ls:List MV}(hs:gf c Z φ w a8 ks ls):gf c' Z φ w a8 ks ls:=by obtain ⟨cs,m,E,arr,T,h1,h2,h3,h4,h5,h6,h7⟩:=hs;refine ⟨cs,m,E,arr,T,h1,h2,h3,h4,by rw [h.key];exact h5,λf o ho=>⟨?_,(h6 f o ho).2⟩,h7⟩;rw [h.key];exact (h6 f o ho).1.oQ h.ti
theorem BC.oQ {c c':Ctx}(h:C9 c c'){Z:Nat->Prop} {φ:Ph}{w:World}{k:Nat}{vs:List Value}{v:Value}{r:MV}(hs:BC c Z φ w k vs v r):BC c' Z φ w k vs v r:=by
 cases r<;>simp only [BC] at hs⊢ <;>first|exact hs.oQ h|skip
 obtain ⟨h1,pos,ks,a8,off,h2,h3,h4⟩:=hs;exact ⟨h1.oQ h,pos,ks,a8,off,by rw [h.sig];exact h2,h3,h4.oQ h⟩
theorem dS.oQ {c c':Ctx}(h:C9 c c'){Z:Nat->Prop} {φ:Ph}{w:World}{k:Nat}{vs:List Value}{ms:List MV}(hs:dS c' Z φ w k vs ms):dS c Z φ w k vs ms:=by
 unfold dS at hs⊢;rw [h.dA] at hs;split
 ·rename_i hg;rw [if_pos hg] at hs;rcases hs with ⟨v0,v1,v2,xs,m1,ys,h1,h2,h3,h4,h5,h6⟩|⟨v0,v1,v2,xs,m1,m2,h1,h2,h3,h4,h5,h6⟩|⟨pos,ks,off,ls,a8,h1,h2,h3,h4,h5⟩
  ·rw [h.key,h.nU] at h3 h5;rw [h.key] at h4;exact .inl ⟨v0,v1,v2,xs,m1,ys,h1,h2,h3.oQ h.ti.symm,h4,h5.oQ h.ti.symm,h6⟩
  ·rw [h.key,h.nU] at h4;rw [h.key] at h5 h6;exact .inr (.inl ⟨v0,v1,v2,xs,m1,m2,h1,h2,h3,h4.oQ h.ti.symm,h5,h6⟩)
  ·refine .inr (.inr ⟨pos,ks,off,ls,a8,by rw [<-h.sig];exact h1,h2,h3,by rw [<-h.key];exact h4,?_⟩);obtain ⟨cs,m,E,arr,T,k1,k2,k3,k4,k5,k6,k7⟩:=h5;refine ⟨cs,m,E,arr,T,k1,k2,k3,k4,by rw [<-h.key];exact k5,λf o ho=>⟨?_,(k6 f o ho).2⟩,k7⟩;rw [<-h.key];exact (k6 f o ho).1.oQ h.ti.symm
 ·rename_i hg;rw [if_neg hg,h.key] at hs;exact hs
theorem dR.mono {P:Program}{f:FuncId}{args:Array Value}{w:World} {R R':Value->World->Prop}(hc:dR P f args w R)(h: ∀v w',R v w'->R' v w'):dR P f args w R':=by
 unfold dR at hc⊢;split
 ·rename_i jK;rw [jK] at hc;exact Calls.mono hc (λx AK ⟨v,e,hr⟩=>⟨v,e,h v AK hr⟩)
 ·rename_i jK;rw [jK] at hc;exact h _ _ hc
 ·rename_i h1 h2;split at hc
  ·rename_i jK;exact absurd jK (h1 _ _ _)
  ·rename_i jK;exact absurd jK (h2 _ _)
  ·exact hc
theorem gh.oQ {P:Program} {c c':Ctx}{f:Nat}{ms:List MV}{r:MV}(h:C9 c c')(hs:gh P c f ms r):gh P c' f ms r:=by intro φ w Z vs hz ha hi;rw [h.key] at ha;refine (hs φ w Z vs hz (ha.oQ h) hi).mono ?_;rintro v w' ⟨φ',h1,h2,h3⟩;rw [h.key];exact ⟨φ',h1,h2,h3.oQ h⟩
theorem C9.symm {c c':Ctx}(h:C9 c c'):C9 c' c:=⟨h.ti.symm,h.key.symm,h.dA.symm,h.fresh.symm,h.nU.symm,h.fk.symm,h.mt.symm,h.sig.symm,h.M3.symm⟩
theorem xA.oQ {P:Program} {c c':Ctx}(h:C9 c c'){g:Nat}{lb:Array Value}{S:Type}{Inv:S->(Nat->Prop)->Ph->World->Prop}{step:S->MV->Option (Bool×S)}(hp:xA P c' g lb Inv step):xA P c g lb Inv step:=⟨λh1 h2 h3 h4 h5=>hp.call h1 h2 h3 (by rw [h.key];exact h4) h5,hp.frame,hp.mono⟩
theorem xB.oQ {P:Program} {c c':Ctx}(h:C9 c c')(hd:xB P c):xB P c':=by intro f hf;rw [h.M3] at hf;have hx:=hd f hf;refine ⟨?_⟩;intro S Inv step g lb hp v0 xs ys w Z0 φ0 s0 s' h1 h2 h3 h4 h5 h6 h7;rw [h.key,h.nU] at h2;refine (hx.run (hp.oQ h) h1 (h2.oQ h.ti.symm) h3 h4 h5 h6 h7).mono ?_;rintro v W ⟨Z,φ,hW,hF,hb⟩;refine ⟨Z,φ,⟨hW.inv,hW.new,hW.sub,hW.kZ,hW.tr,hW.free⟩,?_,hb⟩;rw [h.key,h.nU];exact hF.oQ h.ti
def L5 (c:Ctx)(n:Nat)(fn:Func)(bV:List (List Kd)):Bool:=
 !(fn.name== "runtime.NumGoroutine")&&No c.n fn.ntmps&&afe (fn.params.size+bV.length) fn.ntmps&&!c.dA n
def HY (c:Ctx)(n:Nat)(fn:Func):Option Nat->Bool
 |none=>true
 |some ty=>No ty (c.nU n)&&(afe 1 fn.results.toList.length&&(match c.tv ty with|some _=>true|none=>false))
theorem VX {c:Ctx}{n:Nat}{fn:Func}{fresh:Option Nat}(h:HY c n fn fresh=true): ∀ty,fresh=some ty->ty=c.nU n/\1<=fn.results.toList.length/\ ∃I,c.tv ty=some I:=by
 rintro ty rfl;simp only [HY,bN] at h;obtain ⟨h1,h2,h3⟩:=h;refine ⟨sh h1,abP h2,?_⟩;cases hc:c.tv ty with
 |none=>rw [hc] at h3;cases h3
 |some I=>exact ⟨I,rfl⟩
theorem jT.body {P:Program} {c c':Ctx}{g:Nat->List MV->Option MV}{n:Nat}{fn:Func}{bV:List (List Kd)}(h:jT P c g)(hl:C9 c c')(hgg:c'.g=g)(lQ:ia P c.ti)(jK:RD P c.ti)(Nj: ∀t k,c.fk t=some k->P.underlying t=some (.float k))(TT:Ek P c)(PW:P.follows .mixedOrders=true)(NQ:xB P c)(hf:P.funcs[n]? =some fn)(hh:L5 c' n fn bV=true)(B6: ∀f,c.key f=f){fresh:Option Nat}(zo:HY c' n fn fresh=true):jT P c (bp n (Lp c' bV fresh fn) g):=by
 have hG:Good P c':=by
  refine ⟨by rw [hl.ti];exact lQ,by rw [hl.ti];exact jK,λf ms r hr=> ?_,by rw [hl.fk];exact Nj,λt s hs=>TT t s ?_⟩
  ·rw [hgg,hl.key] at hr;exact (h.all f ms r hr).oQ hl
  ·rw [<-hs];unfold xe Ctx.tv;rw [hl.mt,hl.ti]
 refine h.add (λf ms r hk hr=> ?_);rw [B6] at hk;subst hk;simp only [L5,bN,OF] at hh;obtain ⟨⟨⟨h1,h2⟩,h3⟩,h4⟩:=hh;exact (acQ hG (PV hG PW (NQ.oQ hl)) hf h1 (sh h2) (abP h3) (by rw [hl.key,B6];exact h4) (by rw [hl.key,B6];exact VX zo) hr).oQ hl.symm
def T6 (c:Ctx)(n:Nat)(fn:Func)(bV:List (List Kd)):Bool:=
 !(fn.name== "runtime.NumGoroutine")&&No c.n fn.ntmps&&afe fn.ntmps 1000000&&afe (fn.params.size+bV.length) fn.ntmps&&c.dA n
theorem jT.Q8 {P:Program}{c:Ctx}{g:Nat->List MV->Option MV}{n pos:Nat}{ks:List LK}{fn:Func}{bV:List (List Kd)}{F:List MV->Option MV}(h:jT P c g)(lQ:ia P c.ti)(jK:RD P c.ti)(Nj: ∀t k,c.fk t=some k->P.underlying t=some (.float k))(TT:Ek P c)(PW:P.follows .mixedOrders=true)(NQ:xB P c)(hf:P.funcs[n]? =some fn)(xw:c.sig n=some (pos,ks))(B6: ∀f,c.key f=f)(hF: ∀{ms r},F ms=some r-> ∃c':Ctx,C9 c c'/\c'.g=g/\T6 c' n fn bV=true/\Lo c' bV pos ks fn ms=some r):jT P c (bp n F g):=by
 refine h.add (λf ms r hk hr=> ?_);rw [B6] at hk;subst hk;obtain ⟨c',hl,hgg,hh,hr⟩:=hF hr;have hG:Good P c':=by
  refine ⟨by rw [hl.ti];exact lQ,by rw [hl.ti];exact jK,λf ms r hr=> ?_,by rw [hl.fk];exact Nj,λt s hs=>TT t s ?_⟩
  ·rw [hgg,hl.key] at hr;exact (h.all f ms r hr).oQ hl
  ·rw [<-hs];unfold xe Ctx.tv;rw [hl.mt,hl.ti]
 simp only [T6,bN,OF] at hh;obtain ⟨⟨⟨⟨h1,h2⟩,Nk⟩,h3⟩,h4⟩:=hh;exact (Zy hG (PV hG PW (NQ.oQ hl)) hf h1 (sh h2) (abP Nk) (abP h3) (by rw [hl.key,B6];exact h4) (by rw [hl.sig,hl.key,B6];exact xw) hr).oQ hl.symm
end Dn
/-
  Steps through a function of the library by hand. Conditions: none.
-/
namespace Dn
open Go
def rl (σ:Nat->Value)(d:Nat)(v:Value):Nat->Value:=λt=>bif No t d then v else σ t
def ev (σ:Nat->Value):Operand->Value
 | .tmp t=>σ t
 | .const v=>v
 | .global g=> .pointer (some ⟨g,0,none⟩)
 | .func f=> .func (.func f) #[] #[]
structure Tm (a:Act) (n:Nat) (σ:Nat->Value):Prop where
 defers:a.defers=[]
 size:a.tmps.size=n
 get: ∀t,a.tmps.getD t undef=σ t
theorem Tm.eval {a:Act}{n:Nat} {σ:Nat->Value}(h:Tm a n σ):a.eval=ev σ:=by
 funext x;cases x with
 |tmp t=>exact h.get t
 |_=>rfl
theorem Tm.put {a:Act}{n:Nat} {σ:Nat->Value}(h:Tm a n σ){d:Nat}(hd:d<n)(v:Value):Tm (a.put (some d) v) n (rl σ d v):=by
 refine ⟨h.defers,by simp [Act.put,h.size],λt=> ?_⟩;show (a.tmps.setIfInBounds d v).getD t undef=bif No t d then v else σ t;by_cases ht:t=d
 ·subst ht;have:t<a.tmps.size:=by rw [h.size];exact hd
  simp [this]
 ·have hb:No t d=false:=by
   cases hq:No t d with
   |false=>rfl
   |true=>exact absurd (sh hq) ht
  rw [hb];have:=h.get t;simp only [ab8,Array.getElem?_setIfInBounds_ne (aiD ht),cond_false] at this⊢;exact this
theorem tm3 (v0 v1 v2:Value)(k:Nat):Tm {tmps:= #[v0,v1,v2]++IN k undef,defers:=[]} (k+3) (rl (rl (rl (λ_=>undef) 0 v0) 1 v1) 2 v2):=by
 refine ⟨rfl,by simp [agE],λq=> ?_⟩;by_cases h0:q=0
 ·subst h0;show (#[v0,v1,v2]++IN k undef).getD 0 undef=v0;simp [abW]
 by_cases h1:q=1
 ·subst h1;show (#[v0,v1,v2]++IN k undef).getD 1 undef=v1;simp [abW]
 by_cases h2:q=2
 ·subst h2;show (#[v0,v1,v2]++IN k undef).getD 2 undef=v2;simp [abW]
 have e: ∀{x y:Nat},x≠y->No x y=false:=λ{x y} h=>by
  cases hq:No x y with
  |false=>rfl
  |true=>exact absurd (sh hq) h
 simp only [rl,e h0,e h1,e h2,cond_false];have h3:3<=q:=by omega
 simp [abW,agf,show¬q<3 by omega];by_cases hk:q-3<k<;>simp [hk]
section
variable {P:Program}{Q:Exit->Act->World->Prop}{ops:Array Oper}{o:Oper}{a:Act} {w w':World}{n:Nat} {σ:Nat->Value}
theorem Tm.step {i d:Nat}{op:Op}{rest:List Nat}{v:Value}(ao:Tm a n σ)(hi:ops[i]? =some o)(ho:ak o d op)(hd:d<n)(bF:(execOp (ev σ) o).run P w= .ok (.value v) w')(h: ∀a',Tm a' n (rl σ d v)->wpOps P ops Q rest a' w'):wpOps P ops Q (i::rest) a w:=by refine vD hi ho.guard (v:=v) (w':=w') (by rw [ao.eval];exact bF) ?_;rw [ho.dst];exact h _ (ao.put hd v)
theorem aA {d:Nat}{x:Operand}{e:Operand->Value}(ho:ak o d (.move x))(w:World):(execOp e o).run P w= .ok (.value (e x)) w:=by simp [execOp,ho.op]
theorem bP {d:Nat}{x:Operand}{e:Operand->Value}(ho:ak o d (.assign x))(w:World):(execOp e o).run P w= .ok (.value (e x)) w:=by simp [execOp,ho.op]
theorem mC {d:Nat}{t el:TypeId}{x:Operand}{e:Operand->Value}{ad:Option Addr}{m c:Nat}(ho:ak o d (.call {callee:= .builtin .len,args:= #[x],argTypes:= #[t]})) (hu:P.underlying t=some (.slice el)) (hx:e x= .slice ad m c) (w:World): (execOp e o).run P w= .ok (.value (.int .i64 m)) w:=by simp [execOp,ho.op,resolve,invoke,builtin,hx,Builtin.len_,goInt,run_underlying hu]
theorem T7 {d:Nat}{t el:TypeId}{x:Operand}{e:Operand->Value}{ad:Option Addr}{m c:Nat}(ho:ak o d (.call {callee:= .builtin .cap,args:= #[x],argTypes:= #[t]})) (hu:P.underlying t=some (.slice el)) (hx:e x= .slice ad m c) (w:World): (execOp e o).run P w= .ok (.value (.int .i64 c)) w:=by simp [execOp,ho.op,resolve,invoke,builtin,hx,Builtin.cap_,goInt,run_underlying hu]
theorem wz {d:Nat}{op:BinOp} {t t':TypeId}{x y:Operand}{e:Operand->Value}{k:IntKind}{p q:Int}{v:Value}(ho:ak o d (.binOp op t x y t'))(hx:e x= .int k p)(hy:e y= .int k q)(hv: ∀w:World,(agr op t (.int k p) (.int k q)).run P w= .ok v w)(w:World):(execOp e o).run P w= .ok (.value v) w:=by
 have hg:(eqGuard op t x y (.int k p) (.int k q)).run P w= .ok () w:=by cases op<;>rfl
 simp [execOp,ho.op,hx,hy,hg,hv]
theorem nG {d:Nat} {t t':TypeId}{x y:Operand}{e:Operand->Value}{p q:Int}(ho:ak o d (.binOp .eql t x y t'))(hx:e x= .int .i64 p)(hy:e y= .int .i64 q)(w:World): (execOp e o).run P w= .ok (.value (.bool (decide (p=q)))) w:=wz ho hx hy (λw=>by simp [agr,aiy];rfl) w
theorem PX {d:Nat} {t t':TypeId}{x y:Operand}{e:Operand->Value}{p q:Int}(ho:ak o d (.binOp .gtr t x y t'))(hx:e x= .int .i64 p)(hy:e y= .int .i64 q)(w:World): (execOp e o).run P w= .ok (.value (.bool (decide (q<p)))) w:=wz ho hx hy (λw=>by simp [agr,aiy]) w
theorem jU {d:Nat} {t t':TypeId}{x y:Operand}{e:Operand->Value}{p q:Nat}(ho:ak o d (.binOp .add t x y t'))(hx:e x= .int .i64 p)(hy:e y= .int .i64 q)(hl:p+q<2^63)(w:World): (execOp e o).run P w= .ok (.value (.int .i64 ((p+q:Nat):Int))) w:=wz ho hx hy (λw=>by
  have:IntKind.i64.wrap ((p:Int)+(q:Int))=((p+q:Nat):Int):=by rw [aik];omega
  simp [agr,Op.intArith,this]) w
theorem ZG {d:Nat} {t t':TypeId}{x y:Operand}{e:Operand->Value}{p q:Nat}(ho:ak o d (.binOp .sub t x y t'))(hx:e x= .int .i64 p)(hy:e y= .int .i64 q)(hl:p<2^63)(hq:q<=p)(w:World): (execOp e o).run P w= .ok (.value (.int .i64 ((p-q:Nat):Int))) w:=wz ho hx hy (λw=>by
  have:IntKind.i64.wrap ((p:Int)-(q:Int))=((p-q:Nat):Int):=by rw [aik];omega
  simp [agr,Op.intArith,this]) w
theorem NS {d:Nat}{t:TypeId}{x:Operand}{e:Operand->Value}{b:Bool}(ho:ak o d (.unOp .not t x))(hx:e x= .bool b)(w:World): (execOp e o).run P w= .ok (.value (.bool (!b))) w:=by simp [execOp,ho.op,hx,Op.unary]
theorem z1 {d:Nat}{t el:TypeId}{x y:Operand}{e:Operand->Value}{ad:Option Addr}{m c l size:Nat}{i:TypeInfo}(ho:ak o d (.slice t x (some y) none none))(hu:P.underlying t=some (.slice el))(hi:P.info? el=some i)(hs:i.size=size)(hx:e x= .slice ad m c)(hy:e y= .int .i64 l)(hl:l<=m)(w:World):(execOp e o).run P w= .ok (.value (.slice (if c=l then ad else ad.map (·.add (l *size))) (m-l) (c-l))) w:=by simp [execOp,ho.op,agn,ahc,run_underlying hu,hx,hy,ae7,typeInfo,hi,hs,ae3,afc,asIntOf,hl]
theorem Da {d:Nat}{t el:TypeId}{x y:Operand}{e:Operand->Value}{ad:Option Addr}{m c l size:Nat}{i:TypeInfo}(ho:ak o d (.slice t x none (some y) none))(hu:P.underlying t=some (.slice el))(hi:P.info? el=some i)(hs:i.size=size)(hx:e x= .slice ad m c)(hy:e y= .int .i64 l)(hl:l<=c)(w:World):(execOp e o).run P w= .ok (.value (.slice ad l c)) w:=by
 have h0: ∀q:Addr,q.add 0=q:=λq=>by obtain ⟨b,o,s⟩:=q;cases s<;>simp [Addr.add]
 have:(if c=0 then ad else ad.map (·.add (0 *size)))=ad:=by cases ad<;>simp [h0]
 simp [execOp,ho.op,agn,ahc,run_underlying hu,hx,hy,ae7,typeInfo,hi,hs,ae3,afc,asIntOf,hl];cases ad<;>simp [h0]
theorem ov {d:Nat}{t el:TypeId}{x y:Operand}{e:Operand->Value}{g m c l size:Nat}{i:TypeInfo}(ho:ak o d (.slice t x (some y) none none))(hu:P.underlying t=some (.slice el))(hi:P.info? el=some i)(hs:i.size=size)(hx:e x= .slice (some ⟨g,0,none⟩) m c)(hy:e y= .int .i64 l)(hl:l<=m)(hc:l<c)(w:World):(execOp e o).run P w= .ok (.value (.slice (some ⟨g,l *size,none⟩) (m-l) (c-l))) w:=by
 rw [z1 ho hu hi hs hx hy hl w];have: ¬c=l:=by omega
 have h0:(⟨g,0,none⟩:Addr).add (l *size)=⟨g,l *size,none⟩:=by have:=ac3 g 0 (l *size);rwa [afz] at this
 simp [this,h0]
theorem ac7 {d:Nat}{x y:Operand}{t1 t2:TypeId}{f:FuncId}{e:Operand->Value}{v1 v2 v:Value}(ho:ak o d (.call {callee:= .value (.func f),args:= #[x,y],argTypes:= #[t1,t2]})) (he:e (.func f)= .func (.func f) #[] #[]) (hx:e x=v1) (hy:e y=v2) (h:(callFunc f #[v1,v2]).run P w= .ok (.value v) w'):(execOp e o).run P w= .ok (.value v) w':=by simp [execOp,ho.op,resolve,invoke,builtin,he,hx,hy,ae8,h]
theorem HZ {d:Nat}{x y:Operand}{t1 t2:TypeId}{e:Operand->Value}{v1 v2 v:Value}(ho:ak o d (.call {callee:= .builtin .append,args:= #[x,y],argTypes:= #[t1,t2]})) (hx:e x=v1) (hy:e y=v2) (h:(acU #[t1,t2] o.type #[v1,v2]).run P w= .ok v w'):(execOp e o).run P w= .ok (.value v) w':=by simp [execOp,ho.op,resolve,invoke,builtin,hx,hy,h]
theorem Db {d:Nat}{x y:Operand}{t1 t2:TypeId}{e:Operand->Value}{v1 v2 v:Value}(ho:ak o d (.call {callee:= .builtin .copy,args:= #[x,y],argTypes:= #[t1,t2]})) (hx:e x=v1) (hy:e y=v2) (h:(ach #[t1,t2] o.type #[v1,v2]).run P w= .ok v w'):(execOp e o).run P w= .ok (.value v) w':=by simp [execOp,ho.op,resolve,invoke,builtin,hx,hy,h]
theorem qq {dT sT ty elem t:TypeId}{g o ac8 ag7 pU yX size k:Nat}{a:Addr}{cY:Array Value}{cs:List Value}{i:TypeInfo}(hu:P.underlying dT=some (.slice elem))(hi:P.info? elem=some i)(hs:i.size=size)(hg:w.heap[g]? =some (.cells cY t (0,0)))(hk:Nat.min pU ac8=k)(hn:cs.length=k *size)(zQ: ∀(j:Nat) v,cs[j]? =some v->w.cell? (a.add j)=some v)(yU:o+cs.length<=cY.size)(h1: ∀v∈cs,v.oneCell'=true): (ach #[dT,sT] ty #[.slice (some ⟨g,o,none⟩) ac8 ag7,.slice (some a) pU yX]).run P w= .ok (goInt k) (w.setRow g (cY.toList.take o++cs++cY.toList.drop (o+cs.length)).toArray):=by have hl:=run_loadCells_list (P:=P) w a cs zQ;have dK:=run_storeCells_at P g o t cs 0 cY w hg (by simpa using yU) h1;simp only [aiE] at dK;simp [ach,run_underlying hu,Builtin.lenOf,aia,ae7,typeInfo,hi,hs,hk,<-hn,hl,dK]
def PY (ops:Array Oper):Nat->Nat->Array Bool->Bool
 |0,i,listed=>(AT .any ops (listed.setIfInBounds i true)).isEmpty&&(AT .any ops listed==[i])
 |k+1,i,listed=>Region.free .any ops listed i&&(AT .any ops listed).contains i&&PY ops k (i+1) (listed.setIfInBounds i true)
def T8 (ops:Array Oper):Bool:=afy ops&&Nat.blt 0 ops.size&&PY ops (ops.size-1) 0 (IN ops.size false)
structure T9 (ops:Array Oper) (k i:Nat) (listed:Array Bool):Prop where
 sel:afy ops=true
 ord:PY ops k i listed=true
theorem Tm.draw {N:Act->World->Prop}{i d:Nat}{op:Op}{k:Nat}{listed:Array Bool}{v:Value}(ao:Tm a n σ)(hi:ops[i]? =some o)(ho:ak o d op)(hd:d<n)(hb:T9 ops (k+1) i listed)(bF: ∀w,(execOp (ev σ) o).run P w= .ok (.value v) w)(h: ∀a',Tm a' n (rl σ d v)->T9 ops k (i+1) (listed.setIfInBounds i true)->wpAny P .any ops (oY N) (k+1) (listed.setIfInBounds i true) a' w):wpAny P .any ops (oY N) (k+2) listed a w:=by obtain ⟨hs,hb⟩:=hb;simp only [PY,bN] at hb;obtain ⟨⟨h1,h2⟩,h3⟩:=hb;refine wpAny_take hi hs h1 h2 (λc a w hq=>hq.elim) (v:=v) (.inl ⟨by simp [aaW,ho.guard],λw=>by rw [ao.eval];exact bF w⟩) ?_;rw [ho.dst];exact h _ (ao.put hd v) ⟨hs,h3⟩
theorem Tm.last {N:Act->World->Prop}{i d:Nat}{op:Op}{listed:Array Bool}{v:Value}(ao:Tm a n σ)(hi:ops[i]? =some o)(ho:ak o d op)(hd:d<n)(hb:T9 ops 0 i listed)(bF:(execOp (ev σ) o).run P w= .ok (.value v) w')(h: ∀a',Tm a' n (rl σ d v)->N a' w'):wpAny P .any ops (oY N) 1 listed a w:=by obtain ⟨hs,hb⟩:=hb;simp only [PY,bN,List.isEmpty_iff,beq_iff_eq] at hb;obtain ⟨h1,h2⟩:=hb;refine wpAny_all h2 (by simp) ?_;intro j hj;simp only [afP] at hj;subst hj;unfold wpOp;simp only [hi,aaW,ho.guard,if_true];left;unfold afA;rw [ao.eval,bF,adx,ho.dst];exact wpAny_done h1 (h _ (ao.put hd v)) 0
theorem Ua {id k:Nat}(hm:P.follows .mixedOrders=true)(hb:T8 ops=true)(hk:ops.size=k+1)(h:T9 ops k 0 (IN (k+1) false)->wpAny P .any ops (oY λa w=>Q .normal a w) (k+1) (IN (k+1) false) a {w with drawn:=w.drawn+1}): (aip id ops true).wp P Q a w:=by simp only [T8,bN] at hb;rw [hk] at hb;refine agA ?_ (wp_region_any (Q:=oY λa w=>Q .normal a w) hm (by rw [hk];exact h ⟨hb.1.1,hb.2⟩));intro x a' w' hx;cases x<;>first|exact hx|exact hx.elim
theorem Tm.cond {x:Operand}{b:Bool}{A B:Code}(ao:Tm a n σ)(hx:ev σ x= .bool b)(h:(if b then A else B).wp P Q a w):(Code.cond x A B).wp P Q a w:=by refine wp_cond (t:=b) (by rw [ao.eval];exact hx) h
end
end Dn
/-
  slices.Insert of the library, walked. Printed by a program. Conditions: none.
-/
namespace Dn
open Go
def xC (r:Nat->Nat)(o:Nat->Oper)(tail:Code):Code:= .seq (.region (r 0) #[o 0] false) (.seq (.region (r 1) #[o 1,o 2,o 3] false) (.seq (.region (r 2) #[o 4,o 5,o 6] false) (.seq (.seq (.region (r 3) #[o 7,o 8] false) (.cond (.tmp 16) (.seq (.region (r 4) #[o 9,o 10] false) .ret) .skip)) (.seq (.region (r 5) #[o 11,o 12,o 13] false) (.seq (.seq (.region (r 6) #[o 14,o 15,o 16] false) (.cond (.tmp 22) (.seq (.region (r 7) #[o 17,o 18,o 19,o 20] false) .ret) .skip)) (.seq (.seq (.region (r 8) #[o 21,o 22,o 23,o 24,o 25,o 26] false) (.cond (.tmp 31) (.seq (.region (r 9) #[o 27,o 28,o 29,o 30,o 31,o 32,o 33,o 34,o 35,o 36] false) (.seq (.region (r 10) #[o 37,o 38,o 39,o 40,o 41] false) (.seq (.region (r 11) #[o 42,o 43,o 44,o 45,o 46,o 47,o 48,o 49,o 50] true) (.seq (.region (r 12) #[o 51,o 52] false) .ret)))) .skip)) (.seq (.region (r 13) #[o 53,o 54,o 55,o 56,o 57,o 58] false) (.seq (.seq (.region (r 14) #[o 59,o 60,o 61,o 62,o 63,o 64,o 65,o 66] false) (.cond (.tmp 68) (.seq (.region (r 15) #[o 67,o 68,o 69,o 70,o 71,o 72,o 73,o 74,o 75] true) (.seq (.region (r 16) #[o 76,o 77,o 78,o 79,o 80] false) (.seq (.region (r 17) #[o 81,o 82] false) .ret))) .skip)) tail))))))))
structure ag8 (t ti tb fo:Nat) (o:Nat->Oper):Prop where
 h0:ak (o 0) 6 (.assign (.const (.slice none 0 0)))
 h1:ak (o 1) 10 (.move (.tmp 0))
 h2:ak (o 2) 11 (.move (.tmp 1))
 h3:ak (o 3) 12 (.slice t (.tmp 10) (some (.tmp 11)) none none)
 h4:ak (o 4) 13 (.move (.tmp 2))
 h5:ak (o 5) 14 (.call {callee:= .builtin .len,args:= #[.tmp 13],argTypes:= #[t]})
 h6:ak (o 6) 7 (.assign (.tmp 14))
 h7:ak (o 7) 15 (.move (.tmp 7))
 h8:ak (o 8) 16 (.binOp .eql ti (.tmp 15) (.const (.int .i64 0)) ti)
 h9:ak (o 9) 17 (.move (.tmp 0))
 B9:ak (o 10) 6 (.assign (.tmp 17))
 FC:ak (o 11) 18 (.move (.tmp 0))
 FD:ak (o 12) 19 (.call {callee:= .builtin .len,args:= #[.tmp 18],argTypes:= #[t]})
 FE:ak (o 13) 8 (.assign (.tmp 19))
 FF:ak (o 14) 20 (.move (.tmp 1))
 FG:ak (o 15) 21 (.move (.tmp 8))
 FH:ak (o 16) 22 (.binOp .eql ti (.tmp 20) (.tmp 21) ti)
 Ko:ak (o 17) 23 (.move (.tmp 0))
 NT:ak (o 18) 24 (.move (.tmp 2))
 OR:ak (o 19) 25 (.call {callee:= .builtin .append,args:= #[.tmp 23,.tmp 24],argTypes:= #[t,t]})
 OS:ak (o 20) 6 (.assign (.tmp 25))
 L6:ak (o 21) 26 (.move (.tmp 8))
 L7:ak (o 22) 27 (.move (.tmp 7))
 L8:ak (o 23) 28 (.binOp .add ti (.tmp 26) (.tmp 27) ti)
 L9:ak (o 24) 29 (.move (.tmp 0))
 Ma:ak (o 25) 30 (.call {callee:= .builtin .cap,args:= #[.tmp 29],argTypes:= #[t]})
 PZ:ak (o 26) 31 (.binOp .gtr ti (.tmp 28) (.tmp 30) ti)
 Sh:ak (o 27) 32 (.move (.tmp 0))
 Si:ak (o 28) 33 (.move (.tmp 1))
 Sj:ak (o 29) 34 (.slice t (.tmp 32) none (some (.tmp 33)) none)
 P0:ak (o 30) 35 (.move (.tmp 8))
 Q9:ak (o 31) 36 (.move (.tmp 7))
 Ra:ak (o 32) 37 (.binOp .add ti (.tmp 35) (.tmp 36) ti)
 Rb:ak (o 33) 38 (.move (.tmp 1))
 Sk:ak (o 34) 39 (.binOp .sub ti (.tmp 37) (.tmp 38) ti)
 Ub:ak (o 35) 40 (.call {callee:= .builtin .append,args:= #[.tmp 34,.tmp 39],argTypes:= #[t,ti]})
 VY:ak (o 36) 9 (.assign (.tmp 40))
 Uc:ak (o 37) 41 (.move (.tmp 9))
 VZ:ak (o 38) 42 (.move (.tmp 1))
 h39:ak (o 39) 43 (.slice t (.tmp 41) (some (.tmp 42)) none none)
 h40:ak (o 40) 44 (.move (.tmp 2))
 h41:ak (o 41) 45 (.call {callee:= .builtin .copy,args:= #[.tmp 43,.tmp 44],argTypes:= #[t,t]})
 h42:ak (o 42) 46 (.move (.tmp 9))
 h43:ak (o 43) 47 (.move (.tmp 1))
 h44:ak (o 44) 48 (.move (.tmp 7))
 h45:ak (o 45) 49 (.binOp .add ti (.tmp 47) (.tmp 48) ti)
 h46:ak (o 46) 50 (.slice t (.tmp 46) (some (.tmp 49)) none none)
 ZH:ak (o 47) 51 (.move (.tmp 0))
 Yz:ak (o 48) 52 (.move (.tmp 1))
 h49:ak (o 49) 53 (.slice t (.tmp 51) (some (.tmp 52)) none none)
 V0:ak (o 50) 54 (.call {callee:= .builtin .copy,args:= #[.tmp 50,.tmp 53],argTypes:= #[t,t]})
 h51:ak (o 51) 55 (.move (.tmp 9))
 h52:ak (o 52) 6 (.assign (.tmp 55))
 h53:ak (o 53) 56 (.move (.tmp 0))
 ZI:ak (o 54) 57 (.move (.tmp 8))
 h55:ak (o 55) 58 (.move (.tmp 7))
 h56:ak (o 56) 59 (.binOp .add ti (.tmp 57) (.tmp 58) ti)
 h57:ak (o 57) 60 (.slice t (.tmp 56) none (some (.tmp 59)) none)
 h58:ak (o 58) 0 (.assign (.tmp 60))
 h59:ak (o 59) 61 (.move (.tmp 2))
 h60:ak (o 60) 62 (.move (.tmp 0))
 h61:ak (o 61) 63 (.move (.tmp 1))
 h62:ak (o 62) 64 (.move (.tmp 7))
 h63:ak (o 63) 65 (.binOp .add ti (.tmp 63) (.tmp 64) ti)
 h64:ak (o 64) 66 (.slice t (.tmp 62) (some (.tmp 65)) none none)
 h65:ak (o 65) 67 (.call {callee:= .value (.func fo),args:= #[.tmp 61,.tmp 66],argTypes:= #[t,t]})
 h66:ak (o 66) 68 (.unOp .not tb (.tmp 67))
 h67:ak (o 67) 69 (.move (.tmp 0))
 h68:ak (o 68) 70 (.move (.tmp 1))
 h69:ak (o 69) 71 (.move (.tmp 7))
 h70:ak (o 70) 72 (.binOp .add ti (.tmp 70) (.tmp 71) ti)
 h71:ak (o 71) 73 (.slice t (.tmp 69) (some (.tmp 72)) none none)
 h72:ak (o 72) 74 (.move (.tmp 0))
 h73:ak (o 73) 75 (.move (.tmp 1))
 h74:ak (o 74) 76 (.slice t (.tmp 74) (some (.tmp 75)) none none)
 h75:ak (o 75) 77 (.call {callee:= .builtin .copy,args:= #[.tmp 73,.tmp 76],argTypes:= #[t,t]})
 h76:ak (o 76) 78 (.move (.tmp 0))
 h77:ak (o 77) 79 (.move (.tmp 1))
 h78:ak (o 78) 80 (.slice t (.tmp 78) (some (.tmp 79)) none none)
 h79:ak (o 79) 81 (.move (.tmp 2))
 h80:ak (o 80) 82 (.call {callee:= .builtin .copy,args:= #[.tmp 80,.tmp 81],argTypes:= #[t,t]})
 h81:ak (o 81) 83 (.move (.tmp 0))
 h82:ak (o 82) 6 (.assign (.tmp 83))
 d11:T8 #[o 42,o 43,o 44,o 45,o 46,o 47,o 48,o 49,o 50]=true
 d15:T8 #[o 67,o 68,o 69,o 70,o 71,o 72,o 73,o 74,o 75]=true
structure H0 (P:Program) (f t ti tb el fo:Nat) (fn:Func) (r:Nat->Nat) (o:Nat->Oper) (tail:Code):Prop where
 pos:P.funcs[f]? =some fn
 name:(fn.name== "runtime.NumGoroutine")=false
 tmps:fn.ntmps=95
 res:fn.results= #[.tmp 6]
 body:fn.body=some (xC r o tail)
 ops:ag8 t ti tb fo o
 mix:P.follows .mixedOrders=true
 xb:P.underlying t=some (.slice el)
section
variable {P:Program}{f t ti tb el fo:Nat}{fn:Func}{r:Nat->Nat}{o:Nat->Oper}{tail:Code}{ie:TypeInfo}{size n m c c2 i g g2:Nat}{ad:Option Addr}{w:World}
theorem NU {a:Act}{w:World} {σ:Nat->Value}{R:Ending->World->Prop}{v:Value}(hr:fn.results= #[.tmp 6])(ao:Tm a 95 σ)(h6:σ 6=v)(h:R (.returned v) w):bodyPost P fn R .ret a w:=by
 refine ⟨ao.defers,v,?_,h⟩;have h2:a.tmps[6]?.getD undef=v:=by have:=ao.get 6;rw [h6] at this;simpa using this
 simp [results,hr,h2]
theorem adi (hf:H0 P f t ti tb el fo fn r o tail)(pH:P.info? el=some ie)(vE:ie.size=size)(hm:0<m)(hn:n<=c)(hc:c<2^63)(hnm:n+m<2^63)(hi:i=n){v:Value}{w1:World}(bF: ∀ty,(acU #[t,t] ty #[.slice ad n c,.slice (some ⟨g2,0,none⟩) m c2]).run P w= .ok v w1) :Calls P f #[.slice ad n c,.int .i64 ((i:Nat):Int),.slice (some ⟨g2,0,none⟩) m c2] w λx w'=>x= .returned v/\w'=w1:=by
 refine calls_of_wp hf.pos hf.body ?_;rw [hf.tmps];have key: ∀a:Act,Tm a 95 (rl (rl (rl (λ_=>undef) 0 (.slice ad n c)) 1 (.int .i64 ((i:Nat):Int))) 2 (.slice (some ⟨g2,0,none⟩) m c2))->(xC r o tail).wp P (bodyPost P fn λx w'=>x= .returned v/\w'=w1) a w:=by intro a ao;unfold xC;refine wp_seq (wp_region ?_);rw [show AI (#[o 0]:Array Oper).size=[0] from rfl];refine ao.step (v:= .slice none 0 0) rfl hf.ops.h0 (by decide) (bP hf.ops.h0 _) (λa ao=> ?_);refine wp_seq (wp_region ?_);rw [show AI (#[o 1,o 2,o 3]:Array Oper).size=[0,1,2] from rfl];refine ao.step (v:= .slice ad n c) rfl hf.ops.h1 (by decide) (aA hf.ops.h1 _) (λa ao=> ?_);refine ao.step (v:= .int .i64 ((i:Nat):Int)) rfl hf.ops.h2 (by decide) (aA hf.ops.h2 _) (λa ao=> ?_);refine ao.step (v:= .slice (if c=i then ad else (ad:Option Addr).map (·.add (i *size))) (n-i) (c-i)) rfl hf.ops.h3 (by decide) (z1 hf.ops.h3 hf.xb pH vE rfl rfl (by omega) _) (λa ao=> ?_);refine wp_seq (wp_region ?_);rw [show AI (#[o 4,o 5,o 6]:Array Oper).size=[0,1,2] from rfl];refine ao.step (v:= .slice (some ⟨g2,0,none⟩) m c2) rfl hf.ops.h4 (by decide) (aA hf.ops.h4 _) (λa ao=> ?_);refine ao.step (v:= .int .i64 ((m:Nat):Int)) rfl hf.ops.h5 (by decide) (mC hf.ops.h5 hf.xb rfl _) (λa ao=> ?_);refine ao.step (v:= .int .i64 ((m:Nat):Int)) rfl hf.ops.h6 (by decide) (bP hf.ops.h6 _) (λa ao=> ?_);refine wp_seq ?_;refine wp_seq (wp_region ?_);rw [show AI (#[o 7,o 8]:Array Oper).size=[0,1] from rfl];refine ao.step (v:= .int .i64 ((m:Nat):Int)) rfl hf.ops.h7 (by decide) (aA hf.ops.h7 _) (λa ao=> ?_);refine ao.step (v:= .bool (decide (((m:Nat):Int)=((0:Nat):Int)))) rfl hf.ops.h8 (by decide) (nG hf.ops.h8 rfl rfl _) (λa ao=> ?_);refine ao.cond (b:=false) (by show acu (decide (((m:Nat):Int)=((0:Nat):Int)))=_;rw [decide_eq_false (by omega)]) ?_;simp only [IT,if_false];refine wp_skip ?_;refine wp_seq (wp_region ?_);rw [show AI (#[o 11,o 12,o 13]:Array Oper).size=[0,1,2] from rfl];refine ao.step (v:= .slice ad n c) rfl hf.ops.FC (by decide) (aA hf.ops.FC _) (λa ao=> ?_);refine ao.step (v:= .int .i64 ((n:Nat):Int)) rfl hf.ops.FD (by decide) (mC hf.ops.FD hf.xb rfl _) (λa ao=> ?_);refine ao.step (v:= .int .i64 ((n:Nat):Int)) rfl hf.ops.FE (by decide) (bP hf.ops.FE _) (λa ao=> ?_);refine wp_seq ?_;refine wp_seq (wp_region ?_);rw [show AI (#[o 14,o 15,o 16]:Array Oper).size=[0,1,2] from rfl];refine ao.step (v:= .int .i64 ((i:Nat):Int)) rfl hf.ops.FF (by decide) (aA hf.ops.FF _) (λa ao=> ?_);refine ao.step (v:= .int .i64 ((n:Nat):Int)) rfl hf.ops.FG (by decide) (aA hf.ops.FG _) (λa ao=> ?_);refine ao.step (v:= .bool (decide (((i:Nat):Int)=((n:Nat):Int)))) rfl hf.ops.FH (by decide) (nG hf.ops.FH rfl rfl _) (λa ao=> ?_);refine ao.cond (b:=true) (by show acu (decide (((i:Nat):Int)=((n:Nat):Int)))=_;rw [decide_eq_true (by omega)]) ?_;simp only [if_true];refine wp_seq (wp_region ?_);rw [show AI (#[o 17,o 18,o 19,o 20]:Array Oper).size=[0,1,2,3] from rfl];refine ao.step (v:= .slice ad n c) rfl hf.ops.Ko (by decide) (aA hf.ops.Ko _) (λa ao=> ?_);refine ao.step (v:= .slice (some ⟨g2,0,none⟩) m c2) rfl hf.ops.NT (by decide) (aA hf.ops.NT _) (λa ao=> ?_);refine ao.step (v:=v) rfl hf.ops.OR (by decide) (HZ hf.ops.OR rfl rfl (bF _)) (λa ao=> ?_);refine ao.step (v:=v) rfl hf.ops.OS (by decide) (bP hf.ops.OS _) (λa ao=> ?_);refine wp_ret ?_;show bodyPost P fn (λx wq=>x= .returned (v)/\wq=w1) .ret a w1;refine NU hf.res ao (v:=v) rfl ?_;exact ⟨rfl,rfl⟩
 exact key _ (tm3 _ _ _ 92)
theorem ZJ (hf:H0 P f t ti tb el fo fn r o tail)(pH:P.info? el=some ie)(vE:ie.size=size)(hm:0<m)(hn:n<=c)(hc:c<2^63)(hnm:n+m<2^63)(hi:i<n)(uL:c<n+m){g9 G:Nat}{v1 v2:Value}{w1 w2 w3:World}(hG:n+m<=G)(hA: ∀ty,(acU #[t,ti] ty #[.slice (some ⟨g,0,none⟩) i c,.int .i64 ((n+m-i:Nat):Int)]).run P w= .ok (.slice (some ⟨g9,0,none⟩) (n+m) G) w1)(hB: ∀ty,(ach #[t,t] ty #[.slice (some ⟨g9,i *size,none⟩) (n+m-i) (G-i),.slice (some ⟨g2,0,none⟩) m c2]).run P w1= .ok v1 w2)(hC: ∀ty,(ach #[t,t] ty #[.slice (some ⟨g9,(i+m) *size,none⟩) (n+m-(i+m)) (G-(i+m)),.slice (some ⟨g,i *size,none⟩) (n-i) (c-i)]).run P {w2 with drawn:=w2.drawn+1}= .ok v2 w3) :Calls P f #[.slice (some ⟨g,0,none⟩) n c,.int .i64 ((i:Nat):Int),.slice (some ⟨g2,0,none⟩) m c2] w λx w'=>x= .returned (.slice (some ⟨g9,0,none⟩) (n+m) G)/\w'=w3:=by
 refine calls_of_wp hf.pos hf.body ?_;rw [hf.tmps];have key: ∀a:Act,Tm a 95 (rl (rl (rl (λ_=>undef) 0 (.slice (some ⟨g,0,none⟩) n c)) 1 (.int .i64 ((i:Nat):Int))) 2 (.slice (some ⟨g2,0,none⟩) m c2))->(xC r o tail).wp P (bodyPost P fn λx w'=>x= .returned (.slice (some ⟨g9,0,none⟩) (n+m) G)/\w'=w3) a w:=by intro a ao;unfold xC;refine wp_seq (wp_region ?_);rw [show AI (#[o 0]:Array Oper).size=[0] from rfl];refine ao.step (v:= .slice none 0 0) rfl hf.ops.h0 (by decide) (bP hf.ops.h0 _) (λa ao=> ?_);refine wp_seq (wp_region ?_);rw [show AI (#[o 1,o 2,o 3]:Array Oper).size=[0,1,2] from rfl];refine ao.step (v:= .slice (some ⟨g,0,none⟩) n c) rfl hf.ops.h1 (by decide) (aA hf.ops.h1 _) (λa ao=> ?_);refine ao.step (v:= .int .i64 ((i:Nat):Int)) rfl hf.ops.h2 (by decide) (aA hf.ops.h2 _) (λa ao=> ?_);refine ao.step (v:= .slice (if c=i then (some ⟨g,0,none⟩) else ((some ⟨g,0,none⟩):Option Addr).map (·.add (i *size))) (n-i) (c-i)) rfl hf.ops.h3 (by decide) (z1 hf.ops.h3 hf.xb pH vE rfl rfl (by omega) _) (λa ao=> ?_);refine wp_seq (wp_region ?_);rw [show AI (#[o 4,o 5,o 6]:Array Oper).size=[0,1,2] from rfl];refine ao.step (v:= .slice (some ⟨g2,0,none⟩) m c2) rfl hf.ops.h4 (by decide) (aA hf.ops.h4 _) (λa ao=> ?_);refine ao.step (v:= .int .i64 ((m:Nat):Int)) rfl hf.ops.h5 (by decide) (mC hf.ops.h5 hf.xb rfl _) (λa ao=> ?_);refine ao.step (v:= .int .i64 ((m:Nat):Int)) rfl hf.ops.h6 (by decide) (bP hf.ops.h6 _) (λa ao=> ?_);refine wp_seq ?_;refine wp_seq (wp_region ?_);rw [show AI (#[o 7,o 8]:Array Oper).size=[0,1] from rfl];refine ao.step (v:= .int .i64 ((m:Nat):Int)) rfl hf.ops.h7 (by decide) (aA hf.ops.h7 _) (λa ao=> ?_);refine ao.step (v:= .bool (decide (((m:Nat):Int)=((0:Nat):Int)))) rfl hf.ops.h8 (by decide) (nG hf.ops.h8 rfl rfl _) (λa ao=> ?_);refine ao.cond (b:=false) (by show acu (decide (((m:Nat):Int)=((0:Nat):Int)))=_;rw [decide_eq_false (by omega)]) ?_;simp only [IT,if_false];refine wp_skip ?_;refine wp_seq (wp_region ?_);rw [show AI (#[o 11,o 12,o 13]:Array Oper).size=[0,1,2] from rfl];refine ao.step (v:= .slice (some ⟨g,0,none⟩) n c) rfl hf.ops.FC (by decide) (aA hf.ops.FC _) (λa ao=> ?_);refine ao.step (v:= .int .i64 ((n:Nat):Int)) rfl hf.ops.FD (by decide) (mC hf.ops.FD hf.xb rfl _) (λa ao=> ?_);refine ao.step (v:= .int .i64 ((n:Nat):Int)) rfl hf.ops.FE (by decide) (bP hf.ops.FE _) (λa ao=> ?_);refine wp_seq ?_;refine wp_seq (wp_region ?_);rw [show AI (#[o 14,o 15,o 16]:Array Oper).size=[0,1,2] from rfl];refine ao.step (v:= .int .i64 ((i:Nat):Int)) rfl hf.ops.FF (by decide) (aA hf.ops.FF _) (λa ao=> ?_);refine ao.step (v:= .int .i64 ((n:Nat):Int)) rfl hf.ops.FG (by decide) (aA hf.ops.FG _) (λa ao=> ?_);refine ao.step (v:= .bool (decide (((i:Nat):Int)=((n:Nat):Int)))) rfl hf.ops.FH (by decide) (nG hf.ops.FH rfl rfl _) (λa ao=> ?_);refine ao.cond (b:=false) (by show acu (decide (((i:Nat):Int)=((n:Nat):Int)))=_;rw [decide_eq_false (by omega)]) ?_;simp only [IT,if_false];refine wp_skip ?_;refine wp_seq ?_;refine wp_seq (wp_region ?_);rw [show AI (#[o 21,o 22,o 23,o 24,o 25,o 26]:Array Oper).size=[0,1,2,3,4,5] from rfl];refine ao.step (v:= .int .i64 ((n:Nat):Int)) rfl hf.ops.L6 (by decide) (aA hf.ops.L6 _) (λa ao=> ?_);refine ao.step (v:= .int .i64 ((m:Nat):Int)) rfl hf.ops.L7 (by decide) (aA hf.ops.L7 _) (λa ao=> ?_);refine ao.step (v:= .int .i64 ((n+m:Nat):Int)) rfl hf.ops.L8 (by decide) (jU hf.ops.L8 rfl rfl (by omega) _) (λa ao=> ?_);refine ao.step (v:= .slice (some ⟨g,0,none⟩) n c) rfl hf.ops.L9 (by decide) (aA hf.ops.L9 _) (λa ao=> ?_);refine ao.step (v:= .int .i64 ((c:Nat):Int)) rfl hf.ops.Ma (by decide) (T7 hf.ops.Ma hf.xb rfl _) (λa ao=> ?_);refine ao.step (v:= .bool (decide (((c:Nat):Int)<(((n+m):Nat):Int)))) rfl hf.ops.PZ (by decide) (PX hf.ops.PZ rfl rfl _) (λa ao=> ?_);refine ao.cond (b:=true) (by show acu (decide (((c:Nat):Int)<((n+m:Nat):Int)))=_;rw [decide_eq_true (by omega)]) ?_;simp only [if_true];refine wp_seq (wp_region ?_);rw [show AI (#[o 27,o 28,o 29,o 30,o 31,o 32,o 33,o 34,o 35,o 36]:Array Oper).size=[0,1,2,3,4,5,6,7,8,9] from rfl];refine ao.step (v:= .slice (some ⟨g,0,none⟩) n c) rfl hf.ops.Sh (by decide) (aA hf.ops.Sh _) (λa ao=> ?_);refine ao.step (v:= .int .i64 ((i:Nat):Int)) rfl hf.ops.Si (by decide) (aA hf.ops.Si _) (λa ao=> ?_);refine ao.step (v:= .slice (some ⟨g,0,none⟩) i c) rfl hf.ops.Sj (by decide) (Da hf.ops.Sj hf.xb pH vE rfl rfl (by omega) _) (λa ao=> ?_);refine ao.step (v:= .int .i64 ((n:Nat):Int)) rfl hf.ops.P0 (by decide) (aA hf.ops.P0 _) (λa ao=> ?_);refine ao.step (v:= .int .i64 ((m:Nat):Int)) rfl hf.ops.Q9 (by decide) (aA hf.ops.Q9 _) (λa ao=> ?_);refine ao.step (v:= .int .i64 ((n+m:Nat):Int)) rfl hf.ops.Ra (by decide) (jU hf.ops.Ra rfl rfl (by omega) _) (λa ao=> ?_);refine ao.step (v:= .int .i64 ((i:Nat):Int)) rfl hf.ops.Rb (by decide) (aA hf.ops.Rb _) (λa ao=> ?_);refine ao.step (v:= .int .i64 (((n+m)-i:Nat):Int)) rfl hf.ops.Sk (by decide) (ZG hf.ops.Sk rfl rfl (by omega) (by omega) _) (λa ao=> ?_);refine ao.step (v:= .slice (some ⟨g9,0,none⟩) (n+m) G) rfl hf.ops.Ub (by decide) (HZ hf.ops.Ub rfl rfl (hA _)) (λa ao=> ?_);refine ao.step (v:= .slice (some ⟨g9,0,none⟩) (n+m) G) rfl hf.ops.VY (by decide) (bP hf.ops.VY _) (λa ao=> ?_);refine wp_seq (wp_region ?_);rw [show AI (#[o 37,o 38,o 39,o 40,o 41]:Array Oper).size=[0,1,2,3,4] from rfl];refine ao.step (v:= .slice (some ⟨g9,0,none⟩) (n+m) G) rfl hf.ops.Uc (by decide) (aA hf.ops.Uc _) (λa ao=> ?_);refine ao.step (v:= .int .i64 ((i:Nat):Int)) rfl hf.ops.VZ (by decide) (aA hf.ops.VZ _) (λa ao=> ?_);refine ao.step (v:= .slice (some ⟨g9,i *size,none⟩) (n+m-i) (G-i)) rfl hf.ops.h39 (by decide) (ov hf.ops.h39 hf.xb pH vE rfl rfl (by omega) (by omega) _) (λa ao=> ?_);refine ao.step (v:= .slice (some ⟨g2,0,none⟩) m c2) rfl hf.ops.h40 (by decide) (aA hf.ops.h40 _) (λa ao=> ?_);refine ao.step (v:=v1) rfl hf.ops.h41 (by decide) (Db hf.ops.h41 rfl rfl (hB _)) (λa ao=> ?_);refine wp_seq (Ua hf.mix hf.ops.d11 (k:=8) rfl λgx=> ?_);refine ao.draw (v:= .slice (some ⟨g9,0,none⟩) (n+m) G) rfl hf.ops.h42 (by decide) gx (λw=>aA hf.ops.h42 _) (λa ao gx=> ?_);refine ao.draw (v:= .int .i64 ((i:Nat):Int)) rfl hf.ops.h43 (by decide) gx (λw=>aA hf.ops.h43 _) (λa ao gx=> ?_);refine ao.draw (v:= .int .i64 ((m:Nat):Int)) rfl hf.ops.h44 (by decide) gx (λw=>aA hf.ops.h44 _) (λa ao gx=> ?_);refine ao.draw (v:= .int .i64 ((i+m:Nat):Int)) rfl hf.ops.h45 (by decide) gx (λw=>jU hf.ops.h45 rfl rfl (by omega) _) (λa ao gx=> ?_);refine ao.draw (v:= .slice (some ⟨g9,(i+m) *size,none⟩) (n+m-(i+m)) (G-(i+m))) rfl hf.ops.h46 (by decide) gx (λw=>ov hf.ops.h46 hf.xb pH vE rfl rfl (by omega) (by omega) _) (λa ao gx=> ?_);refine ao.draw (v:= .slice (some ⟨g,0,none⟩) n c) rfl hf.ops.ZH (by decide) gx (λw=>aA hf.ops.ZH _) (λa ao gx=> ?_);refine ao.draw (v:= .int .i64 ((i:Nat):Int)) rfl hf.ops.Yz (by decide) gx (λw=>aA hf.ops.Yz _) (λa ao gx=> ?_);refine ao.draw (v:= .slice (some ⟨g,i *size,none⟩) (n-i) (c-i)) rfl hf.ops.h49 (by decide) gx (λw=>ov hf.ops.h49 hf.xb pH vE rfl rfl (by omega) (by omega) _) (λa ao gx=> ?_);refine ao.last (v:=v2) rfl hf.ops.V0 (by decide) gx (Db hf.ops.V0 rfl rfl (hC _)) (λa ao=> ?_);refine wp_seq (wp_region ?_);rw [show AI (#[o 51,o 52]:Array Oper).size=[0,1] from rfl];refine ao.step (v:= .slice (some ⟨g9,0,none⟩) (n+m) G) rfl hf.ops.h51 (by decide) (aA hf.ops.h51 _) (λa ao=> ?_);refine ao.step (v:= .slice (some ⟨g9,0,none⟩) (n+m) G) rfl hf.ops.h52 (by decide) (bP hf.ops.h52 _) (λa ao=> ?_);refine wp_ret ?_;show bodyPost P fn (λx wq=>x= .returned (.slice (some ⟨g9,0,none⟩) (n+m) G)/\wq=w3) .ret a w3;refine NU hf.res ao (v:= .slice (some ⟨g9,0,none⟩) (n+m) G) rfl ?_;exact ⟨rfl,rfl⟩
 exact key _ (tm3 _ _ _ 92)
theorem ZK (hf:H0 P f t ti tb el fo fn r o tail)(pH:P.info? el=some ie)(vE:ie.size=size)(hm:0<m)(hn:n<=c)(hc:c<2^63)(hnm:n+m<2^63)(hi:i<n)(uL:n+m<=c){v1 v2:Value}{w1 w2:World}(hO:(callFunc fo #[.slice (some ⟨g2,0,none⟩) m c2,.slice (some ⟨g,(i+m) *size,none⟩) (n+m-(i+m)) (c-(i+m))]).run P w= .ok (.value (.bool false)) w)(hB: ∀ty,(ach #[t,t] ty #[.slice (some ⟨g,(i+m) *size,none⟩) (n+m-(i+m)) (c-(i+m)),.slice (some ⟨g,i *size,none⟩) (n+m-i) (c-i)]).run P {w with drawn:=w.drawn+1}= .ok v1 w1) (hC: ∀ty,(ach #[t,t] ty #[.slice (some ⟨g,i *size,none⟩) (n+m-i) (c-i),.slice (some ⟨g2,0,none⟩) m c2]).run P w1= .ok v2 w2) :Calls P f #[.slice (some ⟨g,0,none⟩) n c,.int .i64 ((i:Nat):Int),.slice (some ⟨g2,0,none⟩) m c2] w λx w'=>x= .returned (.slice (some ⟨g,0,none⟩) (n+m) c)/\w'=w2:=by
 refine calls_of_wp hf.pos hf.body ?_;rw [hf.tmps];have key: ∀a:Act,Tm a 95 (rl (rl (rl (λ_=>undef) 0 (.slice (some ⟨g,0,none⟩) n c)) 1 (.int .i64 ((i:Nat):Int))) 2 (.slice (some ⟨g2,0,none⟩) m c2))->(xC r o tail).wp P (bodyPost P fn λx w'=>x= .returned (.slice (some ⟨g,0,none⟩) (n+m) c)/\w'=w2) a w:=by intro a ao;unfold xC;refine wp_seq (wp_region ?_);rw [show AI (#[o 0]:Array Oper).size=[0] from rfl];refine ao.step (v:= .slice none 0 0) rfl hf.ops.h0 (by decide) (bP hf.ops.h0 _) (λa ao=> ?_);refine wp_seq (wp_region ?_);rw [show AI (#[o 1,o 2,o 3]:Array Oper).size=[0,1,2] from rfl];refine ao.step (v:= .slice (some ⟨g,0,none⟩) n c) rfl hf.ops.h1 (by decide) (aA hf.ops.h1 _) (λa ao=> ?_);refine ao.step (v:= .int .i64 ((i:Nat):Int)) rfl hf.ops.h2 (by decide) (aA hf.ops.h2 _) (λa ao=> ?_);refine ao.step (v:= .slice (if c=i then (some ⟨g,0,none⟩) else ((some ⟨g,0,none⟩):Option Addr).map (·.add (i *size))) (n-i) (c-i)) rfl hf.ops.h3 (by decide) (z1 hf.ops.h3 hf.xb pH vE rfl rfl (by omega) _) (λa ao=> ?_);refine wp_seq (wp_region ?_);rw [show AI (#[o 4,o 5,o 6]:Array Oper).size=[0,1,2] from rfl];refine ao.step (v:= .slice (some ⟨g2,0,none⟩) m c2) rfl hf.ops.h4 (by decide) (aA hf.ops.h4 _) (λa ao=> ?_);refine ao.step (v:= .int .i64 ((m:Nat):Int)) rfl hf.ops.h5 (by decide) (mC hf.ops.h5 hf.xb rfl _) (λa ao=> ?_);refine ao.step (v:= .int .i64 ((m:Nat):Int)) rfl hf.ops.h6 (by decide) (bP hf.ops.h6 _) (λa ao=> ?_);refine wp_seq ?_;refine wp_seq (wp_region ?_);rw [show AI (#[o 7,o 8]:Array Oper).size=[0,1] from rfl];refine ao.step (v:= .int .i64 ((m:Nat):Int)) rfl hf.ops.h7 (by decide) (aA hf.ops.h7 _) (λa ao=> ?_);refine ao.step (v:= .bool (decide (((m:Nat):Int)=((0:Nat):Int)))) rfl hf.ops.h8 (by decide) (nG hf.ops.h8 rfl rfl _) (λa ao=> ?_);refine ao.cond (b:=false) (by show acu (decide (((m:Nat):Int)=((0:Nat):Int)))=_;rw [decide_eq_false (by omega)]) ?_;simp only [IT,if_false];refine wp_skip ?_;refine wp_seq (wp_region ?_);rw [show AI (#[o 11,o 12,o 13]:Array Oper).size=[0,1,2] from rfl];refine ao.step (v:= .slice (some ⟨g,0,none⟩) n c) rfl hf.ops.FC (by decide) (aA hf.ops.FC _) (λa ao=> ?_);refine ao.step (v:= .int .i64 ((n:Nat):Int)) rfl hf.ops.FD (by decide) (mC hf.ops.FD hf.xb rfl _) (λa ao=> ?_);refine ao.step (v:= .int .i64 ((n:Nat):Int)) rfl hf.ops.FE (by decide) (bP hf.ops.FE _) (λa ao=> ?_);refine wp_seq ?_;refine wp_seq (wp_region ?_);rw [show AI (#[o 14,o 15,o 16]:Array Oper).size=[0,1,2] from rfl];refine ao.step (v:= .int .i64 ((i:Nat):Int)) rfl hf.ops.FF (by decide) (aA hf.ops.FF _) (λa ao=> ?_);refine ao.step (v:= .int .i64 ((n:Nat):Int)) rfl hf.ops.FG (by decide) (aA hf.ops.FG _) (λa ao=> ?_);refine ao.step (v:= .bool (decide (((i:Nat):Int)=((n:Nat):Int)))) rfl hf.ops.FH (by decide) (nG hf.ops.FH rfl rfl _) (λa ao=> ?_);refine ao.cond (b:=false) (by show acu (decide (((i:Nat):Int)=((n:Nat):Int)))=_;rw [decide_eq_false (by omega)]) ?_;simp only [IT,if_false];refine wp_skip ?_;refine wp_seq ?_;refine wp_seq (wp_region ?_);rw [show AI (#[o 21,o 22,o 23,o 24,o 25,o 26]:Array Oper).size=[0,1,2,3,4,5] from rfl];refine ao.step (v:= .int .i64 ((n:Nat):Int)) rfl hf.ops.L6 (by decide) (aA hf.ops.L6 _) (λa ao=> ?_);refine ao.step (v:= .int .i64 ((m:Nat):Int)) rfl hf.ops.L7 (by decide) (aA hf.ops.L7 _) (λa ao=> ?_);refine ao.step (v:= .int .i64 ((n+m:Nat):Int)) rfl hf.ops.L8 (by decide) (jU hf.ops.L8 rfl rfl (by omega) _) (λa ao=> ?_);refine ao.step (v:= .slice (some ⟨g,0,none⟩) n c) rfl hf.ops.L9 (by decide) (aA hf.ops.L9 _) (λa ao=> ?_);refine ao.step (v:= .int .i64 ((c:Nat):Int)) rfl hf.ops.Ma (by decide) (T7 hf.ops.Ma hf.xb rfl _) (λa ao=> ?_);refine ao.step (v:= .bool (decide (((c:Nat):Int)<(((n+m):Nat):Int)))) rfl hf.ops.PZ (by decide) (PX hf.ops.PZ rfl rfl _) (λa ao=> ?_);refine ao.cond (b:=false) (by show acu (decide (((c:Nat):Int)<((n+m:Nat):Int)))=_;rw [decide_eq_false (by omega)]) ?_;simp only [IT,if_false];refine wp_skip ?_;refine wp_seq (wp_region ?_);rw [show AI (#[o 53,o 54,o 55,o 56,o 57,o 58]:Array Oper).size=[0,1,2,3,4,5] from rfl];refine ao.step (v:= .slice (some ⟨g,0,none⟩) n c) rfl hf.ops.h53 (by decide) (aA hf.ops.h53 _) (λa ao=> ?_);refine ao.step (v:= .int .i64 ((n:Nat):Int)) rfl hf.ops.ZI (by decide) (aA hf.ops.ZI _) (λa ao=> ?_);refine ao.step (v:= .int .i64 ((m:Nat):Int)) rfl hf.ops.h55 (by decide) (aA hf.ops.h55 _) (λa ao=> ?_);refine ao.step (v:= .int .i64 ((n+m:Nat):Int)) rfl hf.ops.h56 (by decide) (jU hf.ops.h56 rfl rfl (by omega) _) (λa ao=> ?_);refine ao.step (v:= .slice (some ⟨g,0,none⟩) (n+m) c) rfl hf.ops.h57 (by decide) (Da hf.ops.h57 hf.xb pH vE rfl rfl (by omega) _) (λa ao=> ?_);refine ao.step (v:= .slice (some ⟨g,0,none⟩) (n+m) c) rfl hf.ops.h58 (by decide) (bP hf.ops.h58 _) (λa ao=> ?_);refine wp_seq ?_;refine wp_seq (wp_region ?_);rw [show AI (#[o 59,o 60,o 61,o 62,o 63,o 64,o 65,o 66]:Array Oper).size=[0,1,2,3,4,5,6,7] from rfl];refine ao.step (v:= .slice (some ⟨g2,0,none⟩) m c2) rfl hf.ops.h59 (by decide) (aA hf.ops.h59 _) (λa ao=> ?_);refine ao.step (v:= .slice (some ⟨g,0,none⟩) (n+m) c) rfl hf.ops.h60 (by decide) (aA hf.ops.h60 _) (λa ao=> ?_);refine ao.step (v:= .int .i64 ((i:Nat):Int)) rfl hf.ops.h61 (by decide) (aA hf.ops.h61 _) (λa ao=> ?_);refine ao.step (v:= .int .i64 ((m:Nat):Int)) rfl hf.ops.h62 (by decide) (aA hf.ops.h62 _) (λa ao=> ?_);refine ao.step (v:= .int .i64 ((i+m:Nat):Int)) rfl hf.ops.h63 (by decide) (jU hf.ops.h63 rfl rfl (by omega) _) (λa ao=> ?_);refine ao.step (v:= .slice (some ⟨g,(i+m) *size,none⟩) (n+m-(i+m)) (c-(i+m))) rfl hf.ops.h64 (by decide) (ov hf.ops.h64 hf.xb pH vE rfl rfl (by omega) (by omega) _) (λa ao=> ?_);refine ao.step (v:= .bool false) rfl hf.ops.h65 (by decide) (ac7 hf.ops.h65 rfl rfl rfl hO) (λa ao=> ?_);refine ao.step (v:= .bool (!false)) rfl hf.ops.h66 (by decide) (NS hf.ops.h66 rfl _) (λa ao=> ?_);refine ao.cond (b:=true) rfl ?_;simp only [if_true];refine wp_seq (Ua hf.mix hf.ops.d15 (k:=8) rfl λgx=> ?_);refine ao.draw (v:= .slice (some ⟨g,0,none⟩) (n+m) c) rfl hf.ops.h67 (by decide) gx (λw=>aA hf.ops.h67 _) (λa ao gx=> ?_);refine ao.draw (v:= .int .i64 ((i:Nat):Int)) rfl hf.ops.h68 (by decide) gx (λw=>aA hf.ops.h68 _) (λa ao gx=> ?_);refine ao.draw (v:= .int .i64 ((m:Nat):Int)) rfl hf.ops.h69 (by decide) gx (λw=>aA hf.ops.h69 _) (λa ao gx=> ?_);refine ao.draw (v:= .int .i64 ((i+m:Nat):Int)) rfl hf.ops.h70 (by decide) gx (λw=>jU hf.ops.h70 rfl rfl (by omega) _) (λa ao gx=> ?_);refine ao.draw (v:= .slice (some ⟨g,(i+m) *size,none⟩) (n+m-(i+m)) (c-(i+m))) rfl hf.ops.h71 (by decide) gx (λw=>ov hf.ops.h71 hf.xb pH vE rfl rfl (by omega) (by omega) _) (λa ao gx=> ?_);refine ao.draw (v:= .slice (some ⟨g,0,none⟩) (n+m) c) rfl hf.ops.h72 (by decide) gx (λw=>aA hf.ops.h72 _) (λa ao gx=> ?_);refine ao.draw (v:= .int .i64 ((i:Nat):Int)) rfl hf.ops.h73 (by decide) gx (λw=>aA hf.ops.h73 _) (λa ao gx=> ?_);refine ao.draw (v:= .slice (some ⟨g,i *size,none⟩) (n+m-i) (c-i)) rfl hf.ops.h74 (by decide) gx (λw=>ov hf.ops.h74 hf.xb pH vE rfl rfl (by omega) (by omega) _) (λa ao gx=> ?_);refine ao.last (v:=v1) rfl hf.ops.h75 (by decide) gx (Db hf.ops.h75 rfl rfl (hB _)) (λa ao=> ?_);refine wp_seq (wp_region ?_);rw [show AI (#[o 76,o 77,o 78,o 79,o 80]:Array Oper).size=[0,1,2,3,4] from rfl];refine ao.step (v:= .slice (some ⟨g,0,none⟩) (n+m) c) rfl hf.ops.h76 (by decide) (aA hf.ops.h76 _) (λa ao=> ?_);refine ao.step (v:= .int .i64 ((i:Nat):Int)) rfl hf.ops.h77 (by decide) (aA hf.ops.h77 _) (λa ao=> ?_);refine ao.step (v:= .slice (some ⟨g,i *size,none⟩) (n+m-i) (c-i)) rfl hf.ops.h78 (by decide) (ov hf.ops.h78 hf.xb pH vE rfl rfl (by omega) (by omega) _) (λa ao=> ?_);refine ao.step (v:= .slice (some ⟨g2,0,none⟩) m c2) rfl hf.ops.h79 (by decide) (aA hf.ops.h79 _) (λa ao=> ?_);refine ao.step (v:=v2) rfl hf.ops.h80 (by decide) (Db hf.ops.h80 rfl rfl (hC _)) (λa ao=> ?_);refine wp_seq (wp_region ?_);rw [show AI (#[o 81,o 82]:Array Oper).size=[0,1] from rfl];refine ao.step (v:= .slice (some ⟨g,0,none⟩) (n+m) c) rfl hf.ops.h81 (by decide) (aA hf.ops.h81 _) (λa ao=> ?_);refine ao.step (v:= .slice (some ⟨g,0,none⟩) (n+m) c) rfl hf.ops.h82 (by decide) (bP hf.ops.h82 _) (λa ao=> ?_);refine wp_ret ?_;show bodyPost P fn (λx wq=>x= .returned (.slice (some ⟨g,0,none⟩) (n+m) c)/\wq=w2) .ret a w2;refine NU hf.res ao (v:= .slice (some ⟨g,0,none⟩) (n+m) c) rfl ?_;exact ⟨rfl,rfl⟩
 exact key _ (tm3 _ _ _ 92)
end
end Dn
/-
  What slices.Insert does to a slice of its own. Conditions: none.
-/
namespace Dn
open Go
section
variable {key:Nat->Nat} {φ:Ph}{size:Nat}
theorem aX.take {xs:List MV}: ∀{cs:List Value} (i:Nat),aX key φ size cs xs->aX key φ size (cs.take (i *size)) (xs.take i):=by
 induction xs with
 |nil=>intro cs i h;cases h;simp [aX]
 |cons x xs ih=>
  intro cs i h;obtain ⟨v,q,rfl,h1,h2,h3⟩:=h;cases i with
  |zero=>simp [aX]
  |succ i=>
   refine ⟨v,q.take (i *size),?_,h1,h2,ih i h3⟩;rw [adk,Nat.one_mul,agE,ail,h1];congr 1
   ·exact abT (by omega)
   ·congr 1;omega
theorem aX.drop {xs:List MV}: ∀{cs:List Value} (i:Nat),aX key φ size cs xs->aX key φ size (cs.drop (i *size)) (xs.drop i):=by
 induction xs with
 |nil=>intro cs i h;cases h;simp [aX]
 |cons x xs ih=>
  intro cs i h;cases i with
  |zero=>simpa using h
  |succ i=>obtain ⟨v,q,rfl,h1,h2,h3⟩:=h;have:=ih i h3;rw [adk,Nat.one_mul,agE,List.drop_append,h1,List.drop_of_length_le (by omega),acC,Nat.add_sub_cancel_left];simpa using this
end
section
variable {P:Program}{c:Ctx}{f:Nat} {W W':World} {φ:Ph}{Z:Nat->Prop} {v0 v':Value}
theorem GP {ty:Nat}{E:TI}{n:Nat}{cells:List Value}{rs:List MV}(hz: ∀b,W.heap.size<=b->Z b)(iQ:oS φ W)(hE:c.ti ty=some E)(om:E.ct=[])(Es:c.nU (c.key f)=ty)(hold: ∀b,b<W.heap.size->some b≠v0.ownBlock->W'.heap[b]? =W.heap[b]?)(pJ:W.heap.size<=W'.heap.size)(uT:Rest W W')(TM: ∀b,v0.ownBlock=some b->Z b/\ ∀off,φ b off=none)(dn:W'.ownsRow 0 ty E.size v' n cells)(hn:rs.length=n)(ib:aX c.key φ E.size cells rs)(RM: ∀b,v'.ownBlock=some b->v0.ownBlock=some b\/W.heap.size<=b): ∃φ',Trans Z φ W φ' W'/\oS φ' W'/\jR c Z φ' W' (c.key f) v' (.fresh rs):=by
 refine ⟨φ,⟨.refl _,?_,λ_ _ _=>rfl,pJ,uT⟩,?_,?_⟩
 ·intro b hb cI;exact hold b cI (λhe=>hb (TM b he.symm).1)
 ·intro b off u hbo;have h1:=iQ b off u hbo;have cI:=ab7 W _ h1;rw [adh (hold b cI (λhe=>by rw [(TM b he.symm).2 off] at hbo;cases hbo))];exact h1
 ·show cu c (bC.plain Z) (na c.key φ) W' v' ⟨c.nU (c.key f),false,rs⟩;rw [Es];refine ⟨E,cells,hE,om,by rw [hn];exact dn,ib,λa8 hb=> ?_⟩;rcases RM a8 hb with h|h
  ·exact ⟨(TM a8 h).1,λoff u hu=>(by have hu:φ a8 off=some u:=hu;rw [(TM a8 h).2 off] at hu;cases hu),λhc=>hc.elim⟩
  ·refine ⟨hz a8 h,λoff u hu=> ?_,λhc=>hc.elim⟩;have:=ab7 W _ (iQ _ _ _ hu);exact absurd this (by show¬a8<W.heap.size;omega)
theorem adj {A cY:List Value}{cells news:List Value}{p q r:Nat}(hA:A.length=cY.length)(hp:p+news.length=q)(hc:cells.length=r)(Hp:p<=r)(yU:r+news.length<=cY.length)(h1:A.take p=cells.take p)(h2:(A.drop q).take (r-p)=cells.drop p):(A.take p++news++A.drop q).take (r+news.length)=cells.take p++news++cells.drop p:=by
 have hl:(A.take p).length=p:=by rw [aaG];omega
 rw [ail,BY,hl,hp,abT (by rw [BY,hl];omega),h1];congr 1;rw [show r+news.length-q=r-p by omega];exact h2
theorem Et {t ti tb el fo:Nat}{fn:Func}{r:Nat->Nat}{o:Nat->Oper}{tail:Code}{I E:TI}{xs ys:List MV}{i:Nat}(hf:H0 P f t ti tb el fo fn r o tail)(hT:ia P c.ti)(hI:c.tv t=some I)(hL:I.yr=true)(hE:c.tv I.elem=some E)(sw:1<=E.bytes)(hel:el=I.elem)(lQ:P.underlying ti=some (.int .i64))(Es:c.nU (c.key f)=I.elem)(hg:c.dA (c.key f)=true)(hov: ∀args w,(callFunc fo args).run P w=((aim #[t,t] #[tb] args).run P w).andThen λv w'=> .ok (.value v) w')(hi:i<=xs.length)(hys:ys≠[])(ku:(xs.length+ys.length) *E.bytes<=2^46):gh P c f [.fresh xs,.i .i64 i,.fresh ys] (.fresh (xs.take i++ys++xs.drop i)):=by
 subst hel;obtain ⟨hIt,Q5⟩:=bj hI;obtain ⟨lN,om⟩:=bj hE;obtain ⟨hu,E2,v7,_,eD⟩:=TI.lm (hT t I hIt) hL;rw [lN] at v7;cases v7;obtain ⟨ie,z,pH,vE,XB,ZL,Kn⟩:=lc (hT _ E lN) om;intro φ W Z vs hz dL iQ;simp only [dS,hg,if_true] at dL;obtain ⟨v0,v1,v2,xs',m1,ys',rfl,NA,F0,A1,F2,cR⟩:=dL.resolve_right (by
  rintro (⟨_,_,_,_,_,m2,_,h1,h2,_⟩|⟨pos,_,_,_,_,_,_,h1,_⟩)
  ·simp only [acw,and_true] at h1;rw [<-h1.2.2] at h2;simp [MV.one] at h2
  ·rcases pos with _|_|_|pos<;>simp at h1)
 simp only [acw,MV.fresh.injEq,and_true] at NA;obtain ⟨rfl,rfl,rfl⟩:=NA;have U8:v1= .int .i64 (i:Int):=by obtain ⟨_,h⟩:=A1;generalize yt:[v1]=l at h;cases h;simpa using yt
 subst U8;rw [Es] at F0 F2;obtain ⟨I0,cells,XD,_,wA,uU,Mb⟩:=F0;have XD:c.ti I.elem=some I0:=XD;rw [lN] at XD;cases XD;obtain ⟨I2,news,OL,_,LA,zK,aq7⟩:=F2;have OL:c.ti I.elem=some I2:=OL;rw [lN] at OL;cases OL;have wA:W.ownsRow 0 I.elem E.size v0 xs.length cells:=wA;have LA:W.ownsRow 0 I.elem E.size v2 ys.length news:=LA;have uU:aX c.key φ E.size cells xs:=uU;have zK:aX c.key φ E.size news ys:=zK;have TM: ∀b,v0.ownBlock=some b->Z b/\ ∀off,φ b off=none:=by
  intro b hb;refine ⟨(Mb b hb).1,λoff=> ?_⟩;cases h:φ b off with
  |none=>rfl
  |some u=>have:=((Mb b hb).2.1 off u h).1;cases this
 have hm:0<ys.length:=List.length_pos_iff.2 hys;have Ej:news.length=ys.length *E.size:=zK.length;have oq:cells.length=xs.length *E.size:=uU.length;have hlen:xs.length+ys.length<=2^46:=adr (Nat.le_mul_of_pos_right _ sw) ku;obtain ⟨g2,c2,we,rfl,TB,atn,hc2,Lv,akp⟩: ∃g2 c2 we,v2= .slice (some ⟨g2,0,none⟩) ys.length c2/\W.heap[g2]? =some (.cells we I.elem (0,0))/\ys.length<=c2/\c2<=maxLen/\we.size=c2 *E.size/\we.toList.take (ys.length *E.size)=news:=by
  rcases LA.2 with ⟨_,h0⟩|⟨g2,c2,we,h1,_,h3,h4,h5,h6,h7⟩
  ·omega
  ·exact ⟨g2,c2,we,h1,h3,h4,h5,h6,h7⟩
 have aoL:=aZ TB;have ZM: ∀{w:World},(w.heap[g2]? =W.heap[g2]?)-> ∀(j:Nat) (u:Value),news[j]? =some u->w.cell? ((⟨g2,0,none⟩:Addr).add j)=some u:=by intro w hw j u hj;have:=LA.cells (g:=g2) rfl j u hj;rw [ac3] at this⊢;rw [adh hw];exact this
 have bq: ∀g,v0.ownBlock=some g-> ∀{w:World},(w.heap[g]? =W.heap[g]?)-> ∀(j:Nat) (u:Value),cells[j]? =some u->w.cell? ((⟨g,0,none⟩:Addr).add j)=some u:=by intro g hg w hw j u hj;have:=wA.cells (g:=g) hg j u hj;rw [ac3] at this⊢;rw [adh hw];exact this
 have bF:(callFunc f [v0,.int .i64 (i:Int),.slice (some ⟨g2,0,none⟩) ys.length c2].toArray).run P W= .ok (.enter f #[v0,.int .i64 (i:Int),.slice (some ⟨g2,0,none⟩) ys.length c2]) W:=by
  have Hi: ¬fn.name= "runtime.NumGoroutine" :=by simpa using hf.name
  simp [callFunc,hf.pos,Hi,hf.body]
 unfold dR;rw [bF];have hrl:(xs.take i++ys++xs.drop i).length=xs.length+ys.length:=by simp;omega
 have H2:aX c.key φ E.size (cells.take (i *E.size)++news++cells.drop (i *E.size)) (xs.take i++ys++xs.drop i):=((uU.take i).append zK).append (uU.drop i);by_cases rX:i=xs.length
 ·
  have zQ:Src (na c.key φ) W E.size (.slice (some ⟨g2,0,none⟩) ys.length c2) ys news:=⟨zK,_,_,rfl,by simp,λx hx j u hj=>by cases hx;exact ZM rfl j u hj⟩
  have pK:cells.take (i *E.size)++news++cells.drop (i *E.size)=cells++news:=by rw [rX,<-oq,ain,List.drop_length,air]
  rw [pK] at H2;have fin: ∀v' W',ajh W W' I.elem E.size v0 v' xs.length ys.length cells news-> ∃φ',Trans Z φ W φ' W'/\oS φ' W'/\jR c Z φ' W' (c.key f) v' (.fresh (xs.take i++ys++xs.drop i)):=by
   intro v' W' wh;refine GP (v0:=v0) hz iQ lN om Es wh.rK wh.size wh.rest TM wh.own hrl H2 ?_;intro b hb;rcases wh.place with h|h
   ·left;rw [<-h];exact hb
   ·right;rw [h] at hb;cases hb;exact abU _
  obtain ⟨v',W',hr,wh⟩:=B5 (P:=P) (c:=c) (ty:=0) hu lN om eD hT sw wA (zQ.apx hu) ku;have hr': ∀ty,(acU #[t,t] ty #[v0,.slice (some ⟨g2,0,none⟩) ys.length c2]).run P W= .ok v' W':=λty=>hr;have aoM: ∃ad c0,v0= .slice ad xs.length c0/\xs.length<=c0/\c0<=maxLen:=by
   rcases wA.2 with ⟨h1,h0⟩|⟨g,c0,cY,h1,_,h3,h4,h5,_⟩
   ·exact ⟨none,0,by rw [h1,h0],by omega,by omega⟩
   ·exact ⟨_,c0,h1,h4,h5⟩
  obtain ⟨ad,c0,rfl,Pe,CD⟩:=aoM;refine (adi hf pH vE hm Pe (by unfold maxLen at CD;omega) (by omega) rX hr').mono ?_;rintro x AK ⟨rfl,rfl⟩;exact ⟨_,rfl,fin _ _ wh⟩
 ·have rX:i<xs.length:=by omega
  obtain ⟨g,c0,cY,rfl,hgc,Pe,CD,uq,Lu⟩: ∃g c0 cY,v0= .slice (some ⟨g,0,none⟩) xs.length c0/\W.heap[g]? =some (.cells cY I.elem (0,0))/\xs.length<=c0/\c0<=maxLen/\cY.size=c0 *E.size/\cY.toList.take (xs.length *E.size)=cells:=by
   rcases wA.2 with ⟨_,h0⟩|⟨g,c0,cY,h1,_,h3,h4,h5,h6,h7⟩
   ·omega
   ·exact ⟨g,c0,cY,h1,h3,h4,h5,h6,h7⟩
  have hgl:=aZ hgc;have hgg:g≠g2:=λh=>cR g rfl (by rw [h];rfl);have uP:i *E.size<=xs.length *E.size:=abY _ hi;have him:(i+ys.length) *E.size=i *E.size+news.length:=by rw [adk,Ej]
  have hnm:(xs.length+ys.length) *E.size=xs.length *E.size+news.length:=by rw [adk,Ej]
  have LU:(cells.drop (i *E.size)).length=(xs.length-i) *E.size:=by rw [abN,oq,afr]
  have ato:(xs.length-i) *E.size=xs.length *E.size-i *E.size:=afr _ _ _;have afC: ∀{w:World},(w.heap[g]? =W.heap[g]?)-> ∀(j:Nat) (u:Value),(cells.drop (i *E.size))[j]? =some u->w.cell? ((⟨g,i *E.size,none⟩:Addr).add j)=some u:=by intro w hw j u hj;rw [afX] at hj;have:=bq g rfl hw _ u hj;rw [ac3] at this⊢;rwa [afz] at this
  have ho1: ∀u∈cells.drop (i *E.size),u.oneCell'=true:=λu hu=>uU.zN u (ahd hu);have akr:Rest W {W with drawn:=W.drawn+1}:=⟨rfl,rfl,rfl⟩
  by_cases uL:c0<xs.length+ys.length
  ·have hk:i+(xs.length+ys.length-i)=xs.length+ys.length:=by omega
   obtain ⟨G,hG⟩: ∃G,G=grownCap W (xs.length+ys.length) c0 I.elem:=⟨_,rfl⟩
   have hGn:xs.length+ys.length<=G:=by rw [hG];exact grownCap_ge W _ _ _
   have hGm:G<=maxLen:=by rw [hG];exact grownCap_le_maxLen W _ _ _ (by unfold maxLen;omega)
   obtain ⟨NV,ag9⟩: ∃NV:Array Value,NV=(cells.take (i *E.size)).toArray++abV z.cells (xs.length+ys.length-i)++abV z.cells (G-(xs.length+ys.length)):=⟨_,rfl⟩
   have hRl:NV.size=G *E.size:=by rw [ag9];simp only [aid,abQ,aaG,abV,Array.size_map,Array.size_range,Kn];rw [ac9 (by rw [oq];exact uP),<-adk,<-adk];congr 1;omega
   have hRt:NV.toList.take (i *E.size)=cells.take (i *E.size):=by
    rw [ag9];simp only [Array.toList_append,ade];have hl:(cells.take (i *E.size)).length=i *E.size:=by rw [aaG,oq];exact ac9 uP
    rw [abM (by omega),abT (by omega)]
   have hA: ∀ty,(acU #[t,ti] ty #[.slice (some ⟨g,0,none⟩) i c0,.int .i64 ((xs.length+ys.length-i:Nat):Int)]).run P W= .ok (.slice (some ⟨W.heap.size,0,none⟩) (xs.length+ys.length) G) (W.drew.alloc (.cells NV I.elem)):=λty=>by
    have hold:(aia ie.size i (.slice (some ⟨g,0,none⟩) i c0)).run P W.drew= .ok (cells.take (i *E.size)).toArray W.drew:=by
     refine run_firstCells_some W.drew ie.size i ⟨g,0,none⟩ i c0 _ (by rw [vE,aaG,oq];exact ac9 uP) (λj v hj=> ?_);rw [aib] at hj;split at hj
     ·exact bq g rfl rfl j v hj
     ·cases hj
    have h:=Lib.run_append_grow_zeros W t ti ty I.elem ie z .i64 .i64 hu lQ pH ZL (some ⟨g,0,none⟩) i c0 (cells.take (i *E.size)) hold (xs.length+ys.length-i) (by omega) (by rw [vE];exact eD) (by omega) (by omega) (by rw [XB];exact adr (abY _ (by omega:xs.length+ys.length-i<=xs.length+ys.length)) (adr ku (by omega))) (by rw [XB,hk];exact growslice_fits uL (adr ku (by omega)));rw [hk,<-hG,<-ag9] at h;exact h
   have hg9:(W.drew.alloc (.cells NV I.elem)).heap[W.heap.size]? =some (.cells NV I.elem (0,0)):=iy W.drew _;have Gg: ∀b,b<W.heap.size->(W.drew.alloc (.cells NV I.elem)).heap[b]? =W.heap[b]? :=λb hb=>rR W.drew _ b hb;have hnG:(xs.length+ys.length) *E.size<=NV.size:=by rw [hRl];exact abY _ hGn
   obtain ⟨RA,hRA⟩: ∃RA:List Value,RA=NV.toList.take (i *E.size)++news++NV.toList.drop (i *E.size+news.length):=⟨_,rfl⟩
   have aks:RA.length=NV.size:=by rw [hRA];simp only [BY,aaG,abN,abL];omega
   have hB: ∀ty,(ach #[t,t] ty #[.slice (some ⟨W.heap.size,i *E.size,none⟩) (xs.length+ys.length-i) (G-i),.slice (some ⟨g2,0,none⟩) ys.length c2]).run P (W.drew.alloc (.cells NV I.elem))= .ok (goInt ((ys.length:Nat):Int)) (ac5 (W.drew.alloc (.cells NV I.elem)) W.heap.size RA.toArray):=λty=>by rw [hRA];exact qq (size:=E.size) hu pH vE hg9 (by simp only [ahm];split<;>omega) Ej (ZM (Gg g2 aoL)) (by omega) zK.zN
   have aha:=setRow_heap (W.drew.alloc (.cells NV I.elem)) W.heap.size NV RA.toArray I.elem (0,0) hg9;obtain ⟨W2,NW⟩: ∃W2,W2=ac5 (W.drew.alloc (.cells NV I.elem)) W.heap.size RA.toArray:=⟨_,rfl⟩
   have adl: ∀b,b<W.heap.size->W2.heap[b]? =W.heap[b]? :=λb hb=>by rw [NW,setRow_other _ _ _ _ (by omega)];exact Gg b hb
   have Sl:Rest W W2:=by rw [NW];exact (show Rest W W.drew from ⟨rfl,rfl,rfl⟩).trans ((Rest.alloc W.drew NV I.elem).trans (Rest.setRow _ _ _))
   have atr:W2.heap.size=W.heap.size+1:=by rw [NW,setRow_size];exact Array.size_push _
   rw [<-NW] at hB aha;have hC:=λty=>qq (P:=P) (dT:=t) (sT:=t) (ty:=ty) (size:=E.size) (ac8:=xs.length+ys.length-(i+ys.length)) (ag7:=G-(i+ys.length)) (pU:=xs.length-i) (yX:=c0-i) (k:=xs.length-i) (o:=(i+ys.length) *E.size) (a:=⟨g,i *E.size,none⟩) (w:={W2 with drawn:=W2.drawn+1}) hu pH vE aha (by simp only [ahm];split<;>omega) LU (afC (adl g hgl)) (by simp only [abQ];rw [aks,him,LU];omega) ho1;refine (ZJ hf pH vE hm Pe (by unfold maxLen at CD;omega) (by omega) rX uL hGn hA hB hC).mono ?_;rintro x AK ⟨rfl,rfl⟩;refine ⟨_,rfl,?_⟩;refine GP (v0:= .slice (some ⟨g,0,none⟩) xs.length c0) (n:=xs.length+ys.length) (cells:=cells.take (i *E.size)++news++cells.drop (i *E.size)) hz iQ lN om Es ?_ ?_ ?_ TM ?_ hrl H2 (λb hb=> .inr (by cases hb;exact abU _))
   ·intro b hb cR;rw [setRow_other _ _ _ _ (by omega)];exact adl b hb
   ·rw [setRow_size];show W.heap.size<=W2.heap.size;omega
   ·exact Sl.trans ((show Rest W2 {W2 with drawn:=W2.drawn+1} from ⟨rfl,rfl,rfl⟩).trans (Rest.setRow _ _ _))
   ·refine ⟨by rw [H2.length,hrl],.inr ⟨W.heap.size,G,_,rfl,adG _,setRow_heap {W2 with drawn:=W2.drawn+1} W.heap.size RA.toArray _ I.elem (0,0) aha,hGn,hGm,?_,?_⟩⟩
    ·simp only [abQ,BY,aaG,abN];rw [aks,<-hRl];omega
    ·have aoQ:RA.take ((i+ys.length) *E.size)=cells.take (i *E.size)++news:=by
      have hl:(NV.toList.take (i *E.size)++news).length=(i+ys.length) *E.size:=by rw [BY,aaG,abL,him];omega
      rw [hRA,abM (by omega),abT (by omega),hRt]
     rw [aoQ];have sv:(cells.take (i *E.size)++news++cells.drop (i *E.size)).length=(xs.length+ys.length) *E.size:=by rw [H2.length,hrl]
     rw [<-sv];exact aiu
  ·have uL:xs.length+ys.length<=c0:=by omega
   have hcz:cY.toList.length=cY.size:=abL;have yU:(xs.length+ys.length) *E.size<=cY.size:=by rw [uq];exact abY _ uL
   have hO:(callFunc fo #[.slice (some ⟨g2,0,none⟩) ys.length c2,.slice (some ⟨g,(i+ys.length) *E.size,none⟩) (xs.length+ys.length-(i+ys.length)) (c0-(i+ys.length))]).run P W= .ok (.value (.bool false)) W:=by rw [hov,Lib.run_overlaps_apart W t tb I.elem hu E.size (λw=>by simp [ae7,typeInfo,pH,vE]) ⟨g2,0,none⟩ ⟨g,(i+ys.length) *E.size,none⟩ _ _ _ _ (aiD hgg) I.elem I.elem we.size cY.size (by simp [World.shape?,TB]) (by simp [World.shape?,hgc]) (by rw [uq];exact Nat.ne_of_gt (Nat.mul_pos (by omega) eD)) (by simp [World.frozen?,TB]) (by simp [World.frozen?,TB])];rfl
   let R1:List Value:=cY.toList.take ((i+ys.length) *E.size)++cells.drop (i *E.size)++cY.toList.drop ((i+ys.length) *E.size+(cells.drop (i *E.size)).length);have hR1:R1.length=cY.size:=by simp only [R1,BY,aaG,abN,abL];rw [LU] at *;omega
   have hB: ∀ty,(ach #[t,t] ty #[.slice (some ⟨g,(i+ys.length) *E.size,none⟩) (xs.length+ys.length-(i+ys.length)) (c0-(i+ys.length)),.slice (some ⟨g,i *E.size,none⟩) (xs.length+ys.length-i) (c0-i)]).run P {W with drawn:=W.drawn+1}= .ok (goInt ((xs.length-i:Nat):Int)) (ac5 {W with drawn:=W.drawn+1} g R1.toArray):=λty=>qq (size:=E.size) hu pH vE (w:={W with drawn:=W.drawn+1}) hgc (by simp only [ahm];split<;>omega) LU (afC rfl) (by rw [him,LU];omega) ho1;have aoS:(ac5 {W with drawn:=W.drawn+1} g R1.toArray).heap[g]? =some (.cells R1.toArray I.elem (0,0)):=setRow_heap {W with drawn:=W.drawn+1} g cY R1.toArray I.elem (0,0) hgc;have adl: ∀b,b≠g->(ac5 {W with drawn:=W.drawn+1} g R1.toArray).heap[b]? =W.heap[b]? :=λb hb=>setRow_other {W with drawn:=W.drawn+1} g b R1.toArray hb;have hC:=λty=>qq (P:=P) (dT:=t) (sT:=t) (ty:=ty) (size:=E.size) (ac8:=xs.length+ys.length-i) (ag7:=c0-i) (pU:=ys.length) (yX:=c2) (k:=ys.length) (o:=i *E.size) (a:=⟨g2,0,none⟩) hu pH vE aoS (by simp only [ahm];split<;>omega) Ej (ZM (adl g2 (aiD hgg))) (by simp only [abQ];rw [hR1];omega) zK.zN;refine (ZK hf pH vE hm Pe (by unfold maxLen at CD;omega) (by omega) rX uL hO hB hC).mono ?_;rintro x AK ⟨rfl,rfl⟩;refine ⟨_,rfl,?_⟩;rw [setRow_setRow];have uT:Rest W (ac5 {W with drawn:=W.drawn+1} g (R1.toArray.toList.take (i *E.size)++news++R1.toArray.toList.drop (i *E.size+news.length)).toArray):=akr.trans (Rest.setRow _ _ _);refine GP (v0:= .slice (some ⟨g,0,none⟩) xs.length c0) (n:=xs.length+ys.length) (cells:=cells.take (i *E.size)++news++cells.drop (i *E.size)) hz iQ lN om Es ?_ (by simp) uT TM ?_ hrl H2 (λb hb=> .inl hb)
   ·intro b hb cR;refine setRow_other {W with drawn:=W.drawn+1} g b _ (λh=>cR ?_);rw [h];rfl
   ·refine ⟨by rw [H2.length,hrl],.inr ⟨g,c0,_,rfl,adG _,setRow_heap {W with drawn:=W.drawn+1} g cY _ I.elem (0,0) hgc,uL,CD,?_,?_⟩⟩
    ·simp only [abQ,BY,aaG,abN];rw [hR1,<-uq];omega
    ·rw [hnm];refine adj (cY:=cY.toList) (r:=xs.length *E.size) (by simpa using hR1) rfl oq uP (by simp only [abL];omega) ?_ ?_
     ·show R1.take (i *E.size)=_;rw [<-Lu,ahs,ac9 uP];simp only [R1];rw [ade,abM (by rw [aaG,hcz];omega),ahs,ac9 (by omega)]
     ·show (R1.drop (i *E.size+news.length)).take _=_;simp only [R1];have hl:(cY.toList.take ((i+ys.length) *E.size)).length=i *E.size+news.length:=by rw [aaG,hcz];omega
      rw [ade,<-hl,aiv,abM (by omega),abT (by omega)]
end
end Dn
/-
  slices.Delete of the library, walked. Conditions: none.
-/
namespace Dn
open Go
structure gq (o:Oper) (op:Op):Prop where
 dst:o.dst=none
 op:o.op=op
 guard:o.guard=none
section
variable {P:Program}{Q:Exit->Act->World->Prop}{ops:Array Oper}{o:Oper}{a:Act} {w w':World}{n:Nat} {σ:Nat->Value}
theorem Tm.afD {i:Nat}{op:Op}{rest:List Nat}{v:Value}(ao:Tm a n σ)(hi:ops[i]? =some o)(ho:gq o op)(bF:(execOp (ev σ) o).run P w= .ok (.value v) w')(h:wpOps P ops Q rest a w'):wpOps P ops Q (i::rest) a w:=by refine vD hi ho.guard (v:=v) (w':=w') (by rw [ao.eval];exact bF) ?_;rw [ho.dst];exact h
def H3 (ops:Array Oper):Nat->Nat->Array Bool->Bool
 |0,i,listed=>(AT .any ops listed==[i])&&(AT .any ops (listed.setIfInBounds i true)==[i+1])&&(AT .any ops ((listed.setIfInBounds i true).setIfInBounds (i+1) true)).isEmpty
 |k+1,i,listed=>Region.free .any ops listed i&&(AT .any ops listed).contains i&&H3 ops k (i+1) (listed.setIfInBounds i true)
def Sn (ops:Array Oper):Bool:=afy ops&&Nat.blt 1 ops.size&&H3 ops (ops.size-2) 0 (IN ops.size false)
structure NX (ops:Array Oper) (k i:Nat) (listed:Array Bool):Prop where
 sel:afy ops=true
 ord:H3 ops k i listed=true
theorem Tm.Mc {N:Act->World->Prop}{i d:Nat}{op:Op}{k:Nat}{listed:Array Bool}{v:Value}(ao:Tm a n σ)(hi:ops[i]? =some o)(ho:ak o d op)(hd:d<n)(hb:NX ops (k+1) i listed)(bF: ∀w,(execOp (ev σ) o).run P w= .ok (.value v) w)(h: ∀a',Tm a' n (rl σ d v)->NX ops k (i+1) (listed.setIfInBounds i true)->wpAny P .any ops (oY N) (k+2) (listed.setIfInBounds i true) a' w):wpAny P .any ops (oY N) (k+3) listed a w:=by obtain ⟨hs,hb⟩:=hb;simp only [H3,bN] at hb;obtain ⟨⟨h1,h2⟩,h3⟩:=hb;refine wpAny_take hi hs h1 h2 (λc a w hq=>hq.elim) (v:=v) (.inl ⟨by simp [aaW,ho.guard],λw=>by rw [ao.eval];exact bF w⟩) ?_;rw [ho.dst];exact h _ (ao.put hd v) ⟨hs,h3⟩
theorem Tm.akt {N:Act->World->Prop}{i d d2:Nat}{op op2:Op}{o2:Oper}{listed:Array Bool}{v v2:Value}(ao:Tm a n σ)(hi:ops[i]? =some o)(ho:ak o d op)(hd:d<n)(XA:ops[i+1]? =some o2)(cB:ak o2 d2 op2)(hd2:d2<n)(hb:NX ops 0 i listed)(bF:(execOp (ev σ) o).run P w= .ok (.value v) w')(L3:(execOp (ev (rl σ d v)) o2).run P w'= .ok (.value v2) w')(h: ∀a',Tm a' n (rl (rl σ d v) d2 v2)->N a' w'):wpAny P .any ops (oY N) 2 listed a w:=by obtain ⟨hs,hb⟩:=hb;simp only [H3,bN,List.isEmpty_iff,beq_iff_eq] at hb;obtain ⟨⟨h1,h2⟩,h3⟩:=hb;refine wpAny_all h1 (by simp) ?_;intro j hj;simp only [afP] at hj;subst hj;unfold wpOp;simp only [hi,aaW,ho.guard,if_true];left;unfold afA;rw [ao.eval,bF,adx,ho.dst];have ZN:=ao.put hd v;refine wpAny_all h2 (by simp) ?_;intro q hq;simp only [afP] at hq;subst hq;unfold wpOp;simp only [XA,aaW,cB.guard,if_true];left;unfold afA;rw [ZN.eval,L3,adx,cB.dst];exact wpAny_done h3 (h _ (ZN.put hd2 v2)) 0
theorem ZO {id k:Nat}(hm:P.follows .mixedOrders=true)(hb:Sn ops=true)(hk:ops.size=k+2)(h:NX ops k 0 (IN (k+2) false)->wpAny P .any ops (oY λa w=>Q .normal a w) (k+2) (IN (k+2) false) a {w with drawn:=w.drawn+1}): (aip id ops true).wp P Q a w:=by simp only [Sn,bN] at hb;rw [hk] at hb;refine agA ?_ (wp_region_any (Q:=oY λa w=>Q .normal a w) hm (by rw [hk];exact h ⟨hb.1.1,hb.2⟩));intro x a' w' hx;cases x<;>first|exact hx|exact hx.elim
theorem Md {d:Nat}{t el:TypeId}{x y z m3:Operand}{e:Operand->Value}{ad:Option Addr}{m c l h k:Nat}{i:TypeInfo}(ho:ak o d (.slice t x (some y) (some z) (some m3)))(hu:P.underlying t=some (.slice el))(hi:P.info? el=some i)(hx:e x= .slice ad m c)(hy:e y= .int .i64 l)(hz:e z= .int .i64 h)(hm:e m3= .int .i64 k)(h1:l<=h)(h2:h<=k)(h3:k<=c)(w:World):(execOp e o).run P w= .ok (.value (.slice (if k=l then ad else ad.map (·.add (l *i.size))) (h-l) (k-l))) w:=by simp [execOp,ho.op,agn,ahc,run_underlying hu,hx,hy,hz,hm,ae7,typeInfo,hi,ae3,afc,asIntOf,h1,h2,h3]
theorem P1 {d:Nat}{t el:TypeId}{x y z:Operand}{e:Operand->Value}{ad:Option Addr}{m c l h size:Nat}{i:TypeInfo}(ho:ak o d (.slice t x (some y) (some z) none))(hu:P.underlying t=some (.slice el))(hi:P.info? el=some i)(hs:i.size=size)(hx:e x= .slice ad m c)(hy:e y= .int .i64 l)(hz:e z= .int .i64 h)(h1:l<=h)(h2:h<=c)(w:World):(execOp e o).run P w= .ok (.value (.slice (if c=l then ad else ad.map (·.add (l *size))) (h-l) (c-l))) w:=by simp [execOp,ho.op,agn,ahc,run_underlying hu,hx,hy,hz,ae7,typeInfo,hi,hs,ae3,afc,asIntOf,h1,h2]
theorem Ud {x:Operand}{t1:TypeId}{e:Operand->Value}{v1 v:Value}(ho:gq o (.call {callee:= .builtin .clear,args:= #[x],argTypes:= #[t1]})) (hx:e x=v1) (h:(ae5 #[t1] o.type #[v1]).run P w= .ok v w'):(execOp e o).run P w= .ok (.value v) w':=by simp [execOp,ho.op,resolve,invoke,builtin,hx,h]
theorem z6 {t ty elem t2:TypeId}{g off n c size:Nat}{z:Value}{cY:Array Value}{i:TypeInfo}(hu:P.underlying t=some (.slice elem))(hi:P.info? elem=some i)(hz:i.zero=some z)(Kn:z.cells.size=size)(h1: ∀v∈z.cells.toList,v.oneCell'=true)(hg:w.heap[g]? =some (.cells cY t2 (0,0)))(hn:0<n)(yU:off+n *size<=cY.size): ∃zs:List Value,zs.length=n *size/\(ae5 #[t] ty #[.slice (some ⟨g,off,none⟩) n c]).run P w= .ok (.tuple #[]) (w.setRow g (cY.toList.take off++zs++cY.toList.drop (off+zs.length)).toArray):=by
 refine ⟨(abV z.cells n).toList,?_,?_⟩
 ·simp [abV,Kn]
 ·have hl:(abV z.cells n).toList.length=n *size:=by simp [abV,Kn]
  have dK:=run_storeCells_at P g off t2 (abV z.cells n).toList 0 cY w hg (by rw [hl];simpa using yU) (by
   intro v hv;simp only [abV,agp,abS,Array.mem_toList_iff,Array.mem_range] at hv;obtain ⟨j,hj,rfl⟩:=hv;have eD:0<z.cells.size:=by
    rcases Nat.eq_zero_or_pos z.cells.size with h0|h0
    ·rw [h0] at hj;omega
    ·exact h0
   have cI:j%z.cells.size<z.cells.size:=Nat.mod_lt _ eD;rw [getElem!_pos z.cells _ cI];exact h1 _ (by simp))
  simp only [aiE] at dK;obtain ⟨m,rfl⟩: ∃m,n=m+1:=⟨n-1,by omega⟩
  simp [ae5,run_underlying hu,zeroValue,typeInfo,hi,hz,dK]
end
theorem gV {w:World}{g:Nat}{cY:Array Value}{t:TypeId}{fr:Nat×Nat}(cs:Array Value)(hg:w.heap[g]? =some (.cells cY t fr)):(w.setRow g cs).heap[g]? =some (.cells cs t fr):=by simp [ac5,agT,hg]
def Dc (r:Nat->Nat)(o:Nat->Oper):Code:= .seq (.region (r 0) #[o 0] false) (.seq (.region (r 1) #[o 1,o 2,o 3,o 4,o 5,o 6] false) (.seq (.seq (.region (r 2) #[o 7,o 8,o 9] false) (.cond (.tmp 16) (.seq (.region (r 3) #[o 10,o 11] false) .ret) .skip)) (.seq (.region (r 4) #[o 12,o 13,o 14] false) (.seq (.region (r 5) #[o 15,o 16,o 17,o 18,o 19,o 20,o 21,o 22] true) (.seq (.region (r 6) #[o 23,o 24,o 25,o 26,o 27,o 28] false) (.seq (.region (r 7) #[o 29,o 30] false) .ret))))))
structure ahb (t ti:Nat) (o:Nat->Oper):Prop where
 h0:ak (o 0) 6 (.assign (.const (.slice none 0 0)))
 h1:ak (o 1) 8 (.move (.tmp 0))
 h2:ak (o 2) 9 (.move (.tmp 1))
 h3:ak (o 3) 10 (.move (.tmp 2))
 h4:ak (o 4) 11 (.move (.tmp 0))
 h5:ak (o 5) 12 (.call {callee:= .builtin .len,args:= #[.tmp 11],argTypes:= #[t]})
 h6:ak (o 6) 13 (.slice t (.tmp 8) (some (.tmp 9)) (some (.tmp 10)) (some (.tmp 12)))
 h7:ak (o 7) 14 (.move (.tmp 1))
 h8:ak (o 8) 15 (.move (.tmp 2))
 h9:ak (o 9) 16 (.binOp .eql ti (.tmp 14) (.tmp 15) ti)
 B9:ak (o 10) 17 (.move (.tmp 0))
 FC:ak (o 11) 6 (.assign (.tmp 17))
 FD:ak (o 12) 18 (.move (.tmp 0))
 FE:ak (o 13) 19 (.call {callee:= .builtin .len,args:= #[.tmp 18],argTypes:= #[t]})
 FF:ak (o 14) 7 (.assign (.tmp 19))
 FG:ak (o 15) 20 (.move (.tmp 0))
 FH:ak (o 16) 21 (.move (.tmp 1))
 Ko:ak (o 17) 22 (.slice t (.tmp 20) none (some (.tmp 21)) none)
 NT:ak (o 18) 23 (.move (.tmp 0))
 OR:ak (o 19) 24 (.move (.tmp 2))
 OS:ak (o 20) 25 (.slice t (.tmp 23) (some (.tmp 24)) none none)
 L6:ak (o 21) 26 (.call {callee:= .builtin .append,args:= #[.tmp 22,.tmp 25],argTypes:= #[t,t]})
 L7:ak (o 22) 0 (.assign (.tmp 26))
 L8:ak (o 23) 27 (.move (.tmp 0))
 L9:ak (o 24) 28 (.move (.tmp 0))
 Ma:ak (o 25) 29 (.call {callee:= .builtin .len,args:= #[.tmp 28],argTypes:= #[t]})
 PZ:ak (o 26) 30 (.move (.tmp 7))
 Sh:ak (o 27) 31 (.slice t (.tmp 27) (some (.tmp 29)) (some (.tmp 30)) none)
 Si:gq (o 28) (.call {callee:= .builtin .clear,args:= #[.tmp 31],argTypes:= #[t]})
 Sj:ak (o 29) 32 (.move (.tmp 0))
 P0:ak (o 30) 6 (.assign (.tmp 32))
 d5:Sn #[o 15,o 16,o 17,o 18,o 19,o 20,o 21,o 22]=true
structure P2 (P:Program) (f t ti el:Nat) (fn:Func) (r:Nat->Nat) (o:Nat->Oper):Prop where
 pos:P.funcs[f]? =some fn
 name:(fn.name== "runtime.NumGoroutine")=false
 tmps:fn.ntmps=33
 res:fn.results= #[.tmp 6]
 body:fn.body=some (Dc r o)
 ops:ahb t ti o
 mix:P.follows .mixedOrders=true
 xb:P.underlying t=some (.slice el)
section
variable {P:Program}{f t ti el:Nat}{fn:Func}{r:Nat->Nat}{o:Nat->Oper}{ie:TypeInfo}{size n c i j g:Nat}{ad:Option Addr}{w:World}
theorem Ue {a:Act}{w:World} {σ:Nat->Value}{R:Ending->World->Prop}{v:Value}(hr:fn.results= #[.tmp 6])(ao:Tm a 33 σ)(h6:σ 6=v)(h:R (.returned v) w):bodyPost P fn R .ret a w:=by
 refine ⟨ao.defers,v,?_,h⟩;have h2:a.tmps[6]?.getD undef=v:=by have:=ao.get 6;rw [h6] at this;simpa using this
 simp [results,hr,h2]
theorem ZP (hf:P2 P f t ti el fn r o)(pH:P.info? el=some ie)(hn:n<=c)(hi:i<=n): Calls P f #[.slice ad n c,.int .i64 ((i:Nat):Int),.int .i64 ((i:Nat):Int)] w λx w'=>x= .returned (.slice ad n c)/\w'=w:=by
 refine calls_of_wp hf.pos hf.body ?_;rw [hf.tmps];have key: ∀a:Act,Tm a 33 (rl (rl (rl (λ_=>undef) 0 (.slice ad n c)) 1 (.int .i64 ((i:Nat):Int))) 2 (.int .i64 ((i:Nat):Int)))->(Dc r o).wp P (bodyPost P fn λx w'=>x= .returned (.slice ad n c)/\w'=w) a w:=by intro a ao;unfold Dc;refine wp_seq (wp_region ?_);rw [show AI (#[o 0]:Array Oper).size=[0] from rfl];refine ao.step (v:= .slice none 0 0) rfl hf.ops.h0 (by decide) (bP hf.ops.h0 _) (λa ao=> ?_);refine wp_seq (wp_region ?_);rw [show AI (#[o 1,o 2,o 3,o 4,o 5,o 6]:Array Oper).size=[0,1,2,3,4,5] from rfl];refine ao.step (v:= .slice ad n c) rfl hf.ops.h1 (by decide) (aA hf.ops.h1 _) (λa ao=> ?_);refine ao.step (v:= .int .i64 ((i:Nat):Int)) rfl hf.ops.h2 (by decide) (aA hf.ops.h2 _) (λa ao=> ?_);refine ao.step (v:= .int .i64 ((i:Nat):Int)) rfl hf.ops.h3 (by decide) (aA hf.ops.h3 _) (λa ao=> ?_);refine ao.step (v:= .slice ad n c) rfl hf.ops.h4 (by decide) (aA hf.ops.h4 _) (λa ao=> ?_);refine ao.step (v:= .int .i64 ((n:Nat):Int)) rfl hf.ops.h5 (by decide) (mC hf.ops.h5 hf.xb rfl _) (λa ao=> ?_);refine ao.step rfl hf.ops.h6 (by decide) (Md hf.ops.h6 hf.xb pH rfl rfl rfl rfl (abU _) hi hn _) (λa ao=> ?_);refine wp_seq ?_;refine wp_seq (wp_region ?_);rw [show AI (#[o 7,o 8,o 9]:Array Oper).size=[0,1,2] from rfl];refine ao.step (v:= .int .i64 ((i:Nat):Int)) rfl hf.ops.h7 (by decide) (aA hf.ops.h7 _) (λa ao=> ?_);refine ao.step (v:= .int .i64 ((i:Nat):Int)) rfl hf.ops.h8 (by decide) (aA hf.ops.h8 _) (λa ao=> ?_);refine ao.step (v:= .bool (decide (((i:Nat):Int)=((i:Nat):Int)))) rfl hf.ops.h9 (by decide) (nG hf.ops.h9 rfl rfl _) (λa ao=> ?_);refine ao.cond (b:=true) (by show acu (decide (((i:Nat):Int)=((i:Nat):Int)))=_;rw [decide_eq_true rfl]) ?_;simp only [if_true];refine wp_seq (wp_region ?_);rw [show AI (#[o 10,o 11]:Array Oper).size=[0,1] from rfl];refine ao.step (v:= .slice ad n c) rfl hf.ops.B9 (by decide) (aA hf.ops.B9 _) (λa ao=> ?_);refine ao.step (v:= .slice ad n c) rfl hf.ops.FC (by decide) (bP hf.ops.FC _) (λa ao=> ?_);refine wp_ret ?_;show bodyPost P fn (λx wq=>x= .returned (.slice ad n c)/\wq=w) .ret a w;refine Ue hf.res ao (v:= .slice ad n c) rfl ?_;exact ⟨rfl,rfl⟩
 exact key _ (tm3 _ _ _ 30)
theorem ZQ (hf:P2 P f t ti el fn r o)(pH:P.info? el=some ie)(vE:ie.size=size)(hn:n<=c)(Tw:i<j)(hj:j<=n){w1 w2:World}(hA: ∀ty,(acU #[t,t] ty #[.slice (some ⟨g,0,none⟩) i c,.slice (if c=j then (some ⟨g,0,none⟩:Option Addr) else some ⟨g,j *size,none⟩) (n-j) (c-j)]).run P {w with drawn:=w.drawn+1}= .ok (.slice (some ⟨g,0,none⟩) (i+(n-j)) c) w1) (hC: ∀ty,(ae5 #[t] ty #[.slice (some ⟨g,(i+(n-j)) *size,none⟩) (n-(i+(n-j))) (c-(i+(n-j)))]).run P w1= .ok (.tuple #[]) w2): Calls P f #[.slice (some ⟨g,0,none⟩) n c,.int .i64 ((i:Nat):Int),.int .i64 ((j:Nat):Int)] w λx w'=>x= .returned (.slice (some ⟨g,0,none⟩) (i+(n-j)) c)/\w'=w2:=by
 refine calls_of_wp hf.pos hf.body ?_;rw [hf.tmps];have h0: ∀l:Nat,(⟨g,0,none⟩:Addr).add l=⟨g,l,none⟩:=λl=>by have:=ac3 g 0 l;rwa [afz] at this
 have key: ∀a:Act,Tm a 33 (rl (rl (rl (λ_=>undef) 0 (.slice (some ⟨g,0,none⟩) n c)) 1 (.int .i64 ((i:Nat):Int))) 2 (.int .i64 ((j:Nat):Int)))->(Dc r o).wp P (bodyPost P fn λx w'=>x= .returned (.slice (some ⟨g,0,none⟩) (i+(n-j)) c)/\w'=w2) a w:=by intro a ao;unfold Dc;refine wp_seq (wp_region ?_);rw [show AI (#[o 0]:Array Oper).size=[0] from rfl];refine ao.step (v:= .slice none 0 0) rfl hf.ops.h0 (by decide) (bP hf.ops.h0 _) (λa ao=> ?_);refine wp_seq (wp_region ?_);rw [show AI (#[o 1,o 2,o 3,o 4,o 5,o 6]:Array Oper).size=[0,1,2,3,4,5] from rfl];refine ao.step (v:= .slice (some ⟨g,0,none⟩) n c) rfl hf.ops.h1 (by decide) (aA hf.ops.h1 _) (λa ao=> ?_);refine ao.step (v:= .int .i64 ((i:Nat):Int)) rfl hf.ops.h2 (by decide) (aA hf.ops.h2 _) (λa ao=> ?_);refine ao.step (v:= .int .i64 ((j:Nat):Int)) rfl hf.ops.h3 (by decide) (aA hf.ops.h3 _) (λa ao=> ?_);refine ao.step (v:= .slice (some ⟨g,0,none⟩) n c) rfl hf.ops.h4 (by decide) (aA hf.ops.h4 _) (λa ao=> ?_);refine ao.step (v:= .int .i64 ((n:Nat):Int)) rfl hf.ops.h5 (by decide) (mC hf.ops.h5 hf.xb rfl _) (λa ao=> ?_);refine ao.step rfl hf.ops.h6 (by decide) (Md hf.ops.h6 hf.xb pH rfl rfl rfl rfl (Nat.le_of_lt Tw) hj hn _) (λa ao=> ?_);refine wp_seq ?_;refine wp_seq (wp_region ?_);rw [show AI (#[o 7,o 8,o 9]:Array Oper).size=[0,1,2] from rfl];refine ao.step (v:= .int .i64 ((i:Nat):Int)) rfl hf.ops.h7 (by decide) (aA hf.ops.h7 _) (λa ao=> ?_);refine ao.step (v:= .int .i64 ((j:Nat):Int)) rfl hf.ops.h8 (by decide) (aA hf.ops.h8 _) (λa ao=> ?_);refine ao.step (v:= .bool (decide (((i:Nat):Int)=((j:Nat):Int)))) rfl hf.ops.h9 (by decide) (nG hf.ops.h9 rfl rfl _) (λa ao=> ?_);refine ao.cond (b:=false) (by show acu (decide (((i:Nat):Int)=((j:Nat):Int)))=_;rw [decide_eq_false (by omega)]) ?_;simp only [IT,if_false];refine wp_skip ?_;refine wp_seq (wp_region ?_);rw [show AI (#[o 12,o 13,o 14]:Array Oper).size=[0,1,2] from rfl];refine ao.step (v:= .slice (some ⟨g,0,none⟩) n c) rfl hf.ops.FD (by decide) (aA hf.ops.FD _) (λa ao=> ?_);refine ao.step (v:= .int .i64 ((n:Nat):Int)) rfl hf.ops.FE (by decide) (mC hf.ops.FE hf.xb rfl _) (λa ao=> ?_);refine ao.step (v:= .int .i64 ((n:Nat):Int)) rfl hf.ops.FF (by decide) (bP hf.ops.FF _) (λa ao=> ?_);refine wp_seq (ZO hf.mix hf.ops.d5 (k:=6) rfl λgx=> ?_);refine ao.Mc (v:= .slice (some ⟨g,0,none⟩) n c) rfl hf.ops.FG (by decide) gx (λw=>aA hf.ops.FG _) (λa ao gx=> ?_);refine ao.Mc (v:= .int .i64 ((i:Nat):Int)) rfl hf.ops.FH (by decide) gx (λw=>aA hf.ops.FH _) (λa ao gx=> ?_);refine ao.Mc (v:= .slice (some ⟨g,0,none⟩) i c) rfl hf.ops.Ko (by decide) gx (λw=>Da hf.ops.Ko hf.xb pH vE rfl rfl (by omega) _) (λa ao gx=> ?_);refine ao.Mc (v:= .slice (some ⟨g,0,none⟩) n c) rfl hf.ops.NT (by decide) gx (λw=>aA hf.ops.NT _) (λa ao gx=> ?_);refine ao.Mc (v:= .int .i64 ((j:Nat):Int)) rfl hf.ops.OR (by decide) gx (λw=>aA hf.ops.OR _) (λa ao gx=> ?_);refine ao.Mc (v:= .slice (if c=j then (some ⟨g,0,none⟩:Option Addr) else some ⟨g,j *size,none⟩) (n-j) (c-j)) rfl hf.ops.OS (by decide) gx (λw=>by refine (z1 (P:=P) hf.ops.OS hf.xb pH vE (ad:=some ⟨g,0,none⟩) (m:=n) (c:=c) (l:=j) rfl rfl hj w).trans ?_;rw [show (some (⟨g,0,none⟩:Addr)).map (·.add (j *size))=some ⟨g,j *size,none⟩ from congrArg some (h0 _)]) (λa ao gx=> ?_);refine ao.akt (v:= .slice (some ⟨g,0,none⟩) (i+(n-j)) c) (v2:= .slice (some ⟨g,0,none⟩) (i+(n-j)) c) rfl hf.ops.L6 (by decide) rfl hf.ops.L7 (by decide) gx (HZ hf.ops.L6 rfl rfl (hA _)) (bP hf.ops.L7 _) (λa ao=> ?_);refine wp_seq (wp_region ?_);rw [show AI (#[o 23,o 24,o 25,o 26,o 27,o 28]:Array Oper).size=[0,1,2,3,4,5] from rfl];refine ao.step (v:= .slice (some ⟨g,0,none⟩) (i+(n-j)) c) rfl hf.ops.L8 (by decide) (aA hf.ops.L8 _) (λa ao=> ?_);refine ao.step (v:= .slice (some ⟨g,0,none⟩) (i+(n-j)) c) rfl hf.ops.L9 (by decide) (aA hf.ops.L9 _) (λa ao=> ?_);refine ao.step (v:= .int .i64 ((i+(n-j):Nat):Int)) rfl hf.ops.Ma (by decide) (mC hf.ops.Ma hf.xb rfl _) (λa ao=> ?_);refine ao.step (v:= .int .i64 ((n:Nat):Int)) rfl hf.ops.PZ (by decide) (aA hf.ops.PZ _) (λa ao=> ?_);refine ao.step (v:= .slice (some ⟨g,(i+(n-j)) *size,none⟩) (n-(i+(n-j))) (c-(i+(n-j)))) rfl hf.ops.Sh (by decide) (by refine (P1 (P:=P) hf.ops.Sh hf.xb pH vE (ad:=some ⟨g,0,none⟩) (m:=i+(n-j)) (c:=c) (l:=i+(n-j)) (h:=n) rfl rfl rfl (by omega) (by omega) w1).trans ?_;rw [if_neg (show¬c=i+(n-j) by omega)];rw [show (some (⟨g,0,none⟩:Addr)).map (·.add ((i+(n-j)) *size))=some ⟨g,(i+(n-j)) *size,none⟩ from congrArg some (h0 _)]) (λa ao=> ?_);refine ao.afD (v:= .tuple #[]) rfl hf.ops.Si (Ud hf.ops.Si rfl (hC _)) ?_;refine wp_seq (wp_region ?_);rw [show AI (#[o 29,o 30]:Array Oper).size=[0,1] from rfl];refine ao.step (v:= .slice (some ⟨g,0,none⟩) (i+(n-j)) c) rfl hf.ops.Sj (by decide) (aA hf.ops.Sj _) (λa ao=> ?_);refine ao.step (v:= .slice (some ⟨g,0,none⟩) (i+(n-j)) c) rfl hf.ops.P0 (by decide) (bP hf.ops.P0 _) (λa ao=> ?_);refine wp_ret ?_;show bodyPost P fn (λx wq=>x= .returned (.slice (some ⟨g,0,none⟩) (i+(n-j)) c)/\wq=w2) .ret a w2;refine Ue hf.res ao (v:= .slice (some ⟨g,0,none⟩) (i+(n-j)) c) rfl ?_;exact ⟨rfl,rfl⟩
 exact key _ (tm3 _ _ _ 30)
end
section
variable {P:Program}{c:Ctx}{f:Nat}
theorem Me {t ti el:Nat}{fn:Func}{r:Nat->Nat}{o:Nat->Oper}{I E:TI}{xs:List MV}{i j:Nat}(hf:P2 P f t ti el fn r o)(hT:ia P c.ti)(hI:c.tv t=some I)(hL:I.yr=true)(hE:c.tv I.elem=some E)(hel:el=I.elem)(Es:c.nU (c.key f)=I.elem)(hg:c.dA (c.key f)=true)(Tw:i<=j)(hj:j<=xs.length):gh P c f [.fresh xs,.i .i64 i,.i .i64 j] (.fresh (xs.take i++xs.drop j)):=by
 subst hel;obtain ⟨hIt,Q5⟩:=bj hI;obtain ⟨lN,om⟩:=bj hE;obtain ⟨hu,E2,v7,_,eD⟩:=TI.lm (hT t I hIt) hL;rw [lN] at v7;cases v7;obtain ⟨ie,z,pH,vE,XB,ZL,Kn⟩:=lc (hT _ E lN) om;obtain ⟨ie2,z2,ZR,Yf,hzr⟩:=Ca hE hT;rw [pH] at ZR;cases ZR;rw [ZL] at Yf;cases Yf;have hz1: ∀v∈z.cells.toList,v.oneCell'=true:=(hzr (na c.key λ_ _=>none)).cells;intro φ W Z vs hz dL iQ;simp only [dS,hg,if_true] at dL;obtain ⟨v0,v1,v2,xs',m1,m2,rfl,NA,ara,F0,A1,A2⟩:=(dL.resolve_left (by
  rintro ⟨_,_,_,_,_,ys,_,h1,_⟩;simp only [acw,and_true] at h1;exact absurd h1.2.2 (by simp))).resolve_right (by
  rintro ⟨pos,_,_,_,_,_,_,h1,_⟩;rcases pos with _|_|_|pos<;>simp at h1)
 simp only [acw,MV.fresh.injEq,and_true] at NA;obtain ⟨rfl,rfl,rfl⟩:=NA;have num: ∀{v:Value} {n:Nat},di c.key φ v (.i .i64 (n:Int))->v= .int .i64 (n:Int):=by intro v n h;obtain ⟨_,h⟩:=h;generalize yt:[v]=l at h;cases h;simpa using yt
 have U8:=num A1;have Q4:=num A2;subst U8;subst Q4;rw [Es] at F0;obtain ⟨I0,cells,XD,_,wA,uU,Mb⟩:=F0;have XD:c.ti I.elem=some I0:=XD;rw [lN] at XD;cases XD;have wA:W.ownsRow 0 I.elem E.size v0 xs.length cells:=wA;have uU:aX c.key φ E.size cells xs:=uU;have TM: ∀b,v0.ownBlock=some b->Z b/\ ∀off,φ b off=none:=by
  intro b hb;refine ⟨(Mb b hb).1,λoff=> ?_⟩;cases h:φ b off with
  |none=>rfl
  |some u=>have:=((Mb b hb).2.1 off u h).1;cases this
 have oq:cells.length=xs.length *E.size:=uU.length;have bF:(callFunc f [v0,.int .i64 (i:Int),.int .i64 (j:Int)].toArray).run P W= .ok (.enter f #[v0,.int .i64 (i:Int),.int .i64 (j:Int)]) W:=by
  have Hi: ¬fn.name= "runtime.NumGoroutine" :=by simpa using hf.name
  simp [callFunc,hf.pos,Hi,hf.body]
 unfold dR;rw [bF];rcases Nat.lt_or_ge i j with cI|TA
 ·
  obtain ⟨g,cp,cY,rfl,_,XF,Pe,CD,uq,Lu⟩: ∃g cp cY,v0= .slice (some ⟨g,0,none⟩) xs.length cp/\0<=g/\W.heap[g]? =some (.cells cY I.elem (0,0))/\xs.length<=cp/\cp<=maxLen/\cY.size=cp *E.size/\cY.toList.take (xs.length *E.size)=cells:=by
   rcases wA.2 with ⟨_,h0⟩|h
   ·omega
   ·exact h
  have hl0:cells.length<=cY.size:=by rw [oq,uq];exact abY _ Pe
  obtain ⟨news,Uf⟩: ∃news,news=cells.drop (j *E.size):=⟨_,rfl⟩
  have Ej:news.length=(xs.length-j) *E.size:=by rw [Uf,abN,oq,afr]
  have KB: ∀u∈news,u.oneCell'=true:=λu hu=>uU.zN u (by rw [Uf] at hu;exact ahd hu);have hmul: ∀{a b:Nat},a<=b->a *E.size<=b *E.size:=λh=>abY _ h;have atu:i *E.size<=j *E.size:=hmul (by omega);have hjn:j *E.size<=xs.length *E.size:=hmul hj;have atv:xs.length *E.size<=cp *E.size:=hmul Pe;have hlo:(i+(xs.length-j)) *E.size=i *E.size+news.length:=by rw [adk,Ej]
  have Gc:news.length+j *E.size=xs.length *E.size:=by rw [Ej,afr];omega
  obtain ⟨z7,Ug⟩: ∃z7:Array Value,z7=(cY.toList.take (i *E.size)++news++cY.toList.drop (i *E.size+news.length)).toArray:=⟨_,rfl⟩
  have aku:cY.toList.length=cY.size:=abL;have afE:z7.toList.length=z7.size:=abL;have hA: ∀ty,(acU #[t,t] ty #[.slice (some ⟨g,0,none⟩) i cp,.slice (if cp=j then (some ⟨g,0,none⟩:Option Addr) else some ⟨g,j *E.size,none⟩) (xs.length-j) (cp-j)]).run P {W with drawn:=W.drawn+1}= .ok (.slice (some ⟨g,0,none⟩) (i+(xs.length-j)) cp) (({W with drawn:=W.drawn+1}:World).setRow g z7):=by
   intro ty;have yU:i *ie.size+news.length<=cY.size:=by rw [vE,uq];omega
   by_cases hcj:cp=j
   ·rw [if_pos hcj];refine run_append_room (P:=P) (w:={W with drawn:=W.drawn+1}) t ty I.elem ie hu pH g i cp cY XF ⟨g,0,none⟩ (xs.length-j) (cp-j) news (by rw [vE];exact Ej) ?_ KB (by omega) yU|>.trans ?_
    ·intro q u hq;have:=(ab0.1 hq).1;rw [Ej,show xs.length-j=0 by omega] at this;omega
    ·rw [vE,Ug]
   ·rw [if_neg hcj];refine run_append_room (P:=P) (w:={W with drawn:=W.drawn+1}) t ty I.elem ie hu pH g i cp cY XF ⟨g,j *E.size,none⟩ (xs.length-j) (cp-j) news (by rw [vE];exact Ej) ?_ KB (by omega) yU|>.trans ?_
    ·intro q u hq;have h1:=wA.cells (g:=g) rfl (j *E.size+q) u (by rw [Uf,afX] at hq;exact hq);rw [ac3] at h1⊢;rw [afz] at h1;exact h1
    ·rw [vE,Ug]
  have Fi:z7.size=cY.size:=by rw [Ug];simp only [abQ,BY,aaG,abN,aku];omega
  have OP:(({W with drawn:=W.drawn+1}:World).setRow g z7).heap[g]? =some (.cells z7 I.elem (0,0)):=gV _ XF;obtain ⟨zs,hzl,hC0⟩:=z6 (P:=P) (t:=t) (ty:=0) (c:=cp-(i+(xs.length-j))) (w:=({W with drawn:=W.drawn+1}:World).setRow g z7) (off:=(i+(xs.length-j)) *E.size) (n:=xs.length-(i+(xs.length-j))) hu pH ZL Kn hz1 OP (by omega) (by rw [Fi,uq,<-adk];exact hmul (by omega));obtain ⟨we,Pc⟩: ∃we:Array Value,we=(z7.toList.take ((i+(xs.length-j)) *E.size)++zs++z7.toList.drop ((i+(xs.length-j)) *E.size+zs.length)).toArray:=⟨_,rfl⟩
  rw [<-Pc] at hC0;have hC: ∀ty,(ae5 #[t] ty #[.slice (some ⟨g,(i+(xs.length-j)) *E.size,none⟩) (xs.length-(i+(xs.length-j))) (cp-(i+(xs.length-j)))]).run P (({W with drawn:=W.drawn+1}:World).setRow g z7)= .ok (.tuple #[]) ((({W with drawn:=W.drawn+1}:World).setRow g z7).setRow g we):=λty=>hC0;refine (ZQ (w:=W) hf pH vE Pe cI hj hA hC).mono ?_;rintro x w' ⟨rfl,rfl⟩;refine ⟨_,rfl,?_⟩;have aoT:zs.length=(j-i) *E.size:=by rw [hzl];congr 1;omega
  have hc2:we.size=cY.size:=by rw [Pc];simp only [abQ,BY,aaG,abN,afE,Fi];rw [aoT,afr,hlo];omega
  have akp:we.toList.take ((i+(xs.length-j)) *E.size)=cells.take (i *E.size)++cells.drop (j *E.size):=by
   rw [Pc];have l1:(z7.toList.take ((i+(xs.length-j)) *E.size)).length=(i+(xs.length-j)) *E.size:=by rw [aaG,afE,Fi,uq,hlo];omega
   rw [show∀l:List Value,l.toArray.toList=l from λ_=>rfl,ade,abM (by rw [l1];exact abU _),abT (by rw [l1];exact abU _),hlo,Ug];have l2:(cY.toList.take (i *E.size)).length=i *E.size:=by rw [aaG,aku,uq];omega
   rw [show∀l:List Value,l.toArray.toList=l from λ_=>rfl,abM (by rw [BY,l2];exact abU _),abT (by rw [BY,l2];exact abU _),Uf];congr 1;rw [<-Lu,ahs,ac9 (by omega)]
  have e2:(({W with drawn:=W.drawn+1}:World).setRow g z7).setRow g we=({W with drawn:=W.drawn+1}:World).setRow g we:=setRow_setRow _ _ _ _;have TB:((({W with drawn:=W.drawn+1}:World).setRow g z7).setRow g we).heap[g]? =some (.cells we I.elem (0,0)):=gV _ OP;have hrl:(xs.take i++xs.drop j).length=i+(xs.length-j):=by rw [BY,aaG,abN];omega
  refine GP (n:=i+(xs.length-j)) (cells:=cells.take (i *E.size)++cells.drop (j *E.size)) hz iQ lN om Es ?_ ?_ ?_ TM ?_ hrl ((uU.take i).append (uU.drop j)) ?_
  ·intro b _ cR;have hbg:b≠g:=λe=>cR (by rw [e];rfl);rw [setRow_other _ _ _ _ hbg,setRow_other _ _ _ _ hbg]
  ·simp [ac5]
  ·have r1:Rest W ({W with drawn:=W.drawn+1}:World):=⟨rfl,rfl,rfl⟩
   exact (r1.trans (Rest.setRow _ g z7)).trans (Rest.setRow _ g we)
  ·refine ⟨?_,.inr ⟨g,cp,we,rfl,adG _,TB,by omega,CD,by rw [hc2,uq],akp⟩⟩;rw [BY,aaG,abN,oq,hlo,Ej,afr];omega
  ·intro b hb;exact .inl hb
 ·
  have XG:j=i:=by omega
  subst XG;obtain ⟨ad,cp,hv,Pe⟩: ∃ad cp,v0= .slice ad xs.length cp/\xs.length<=cp:=by
   rcases wA.2 with ⟨h1,h2⟩|⟨g,cp,cY,h1,_,_,h4,_⟩
   ·exact ⟨none,0,by rw [h1,h2],by omega⟩
   ·exact ⟨_,cp,h1,h4⟩
  have hvv:=hv;subst hv;refine (ZP (w:=W) (ad:=ad) hf pH Pe hj).mono ?_;rintro x w' ⟨rfl,rfl⟩;refine ⟨_,rfl,φ,⟨.refl _,λ_ _ _=>rfl,λ_ _ _=>rfl,abU _,.refl _⟩,iQ,?_⟩;show cu c (bC.plain Z) (na c.key φ) w' _ ⟨c.nU (c.key f),false,xs.take j++xs.drop j⟩;rw [Es,acv];exact ⟨E,cells,lN,om,wA,uU,Mb⟩
end
def qt:List MV->Option MV
 |[.fresh xs,.i .i64 i,.i .i64 j]=>bif decide (0<=i)&&(decide (i<=j)&&decide (j<=(xs.length:Int))) then some (.fresh (xs.take i.toNat++xs.drop j.toNat)) else none
 |_=>none
theorem Dd {ms:List MV}{r:MV}(h:qt ms=some r): ∃xs i j,ms=[.fresh xs,.i .i64 ((i:Nat):Int),.i .i64 ((j:Nat):Int)]/\r= .fresh (xs.take i++xs.drop j)/\i<=j/\j<=xs.length:=by
 unfold qt at h;split at h
 ·rename_i xs i j;cases hb:decide (0<=i)&&(decide (i<=j)&&decide (j<=(xs.length:Int))) with
  |false=>rw [hb] at h;cases h
  |true=>simp only [hb,cond_true,AS] at h;simp only [bN,decide_eq_true_eq] at hb;obtain ⟨h1,h2,h3⟩:=hb;refine ⟨xs,i.toNat,j.toNat,?_,h.symm,by omega,by omega⟩;rw [ahE h1,ahE (by omega)]
 ·cases h
end Dn
/-
  slices.IndexFunc and slices.DeleteFunc of the library, walked, with whatever function. Conditions: none.
-/
namespace Dn
open Go
section
variable {P:Program}{Q:Exit->Act->World->Prop}{ops:Array Oper}{o:Oper}{a:Act} {w w':World}{n:Nat} {σ:Nat->Value}
theorem tm2 (v0 v1:Value)(k:Nat):Tm {tmps:= #[v0,v1]++IN k undef,defers:=[]} (k+2) (rl (rl (λ_=>undef) 0 v0) 1 v1):=by
 refine ⟨rfl,by simp [agE],λq=> ?_⟩;by_cases h0:q=0
 ·subst h0;show (#[v0,v1]++IN k undef).getD 0 undef=v0;simp [abW]
 by_cases h1:q=1
 ·subst h1;show (#[v0,v1]++IN k undef).getD 1 undef=v1;simp [abW]
 have e: ∀{x y:Nat},x≠y->No x y=false:=λ{x y} h=>by
  cases hq:No x y with
  |false=>rfl
  |true=>exact absurd (sh hq) h
 simp only [rl,e h0,e h1,cond_false];have h3:2<=q:=by omega
 simp [abW,agf,show¬q<2 by omega];by_cases hk:q-2<k<;>simp [hk]
theorem Tm.call {i d:Nat}{op:Op}{rest:List Nat}{f:Nat}{args:Array Value}{Rp:Value->World->Prop}(ao:Tm a n σ)(hi:ops[i]? =some o)(ho:ak o d op)(hd:d<n)(bF:(execOp (ev σ) o).run P w=(callFunc f args).run P w)(hc:dR P f args w Rp)(h: ∀v w' a',Rp v w'->Tm a' n (rl σ d v)->wpOps P ops Q rest a' w'):wpOps P ops Q (i::rest) a w:=by rw [wpOps_cons];unfold wpOp;simp only [hi,aaW,ho.guard,if_true];left;refine wi (by rw [ao.eval];exact bF) hc ?_;intro v w' hr;rw [ho.dst];exact h v w' _ hr (ao.put hd v)
theorem NY {d:Nat}{t el:TypeId}{x y:Operand}{e:Operand->Value}{g n c j size:Nat}{i:TypeInfo}(ho:ak o d (.indexAddr t x y))(hu:P.underlying t=some (.slice el))(hi:P.info? el=some i)(hs:i.size=size)(hx:e x= .slice (some ⟨g,0,none⟩) n c)(hy:e y= .int .i64 ((j:Nat):Int))(hj:j<n)(w:World):(execOp e o).run P w= .ok (.value (.pointer (some ⟨g,j *size,none⟩))) w:=by
 have h2: ¬n<=j:=by omega
 simp [execOp,ho.op,hx,hy,Instr.indexAt,asIntOf,run_underlying hu,h2,ae7,typeInfo,hi,hs,ac3]
theorem GQ {c:Ctx}{d:Nat}{t:TypeId}{I:TI}{x:Operand}{e:Operand->Value}{g off:Nat}{vs:List Value}(ho:ak o d (.load t x))(hr:oh c.ti P t I)(hc:I.ct=[])(dK:I.st=true)(hl:vs.length=I.size)(hx:e x= .pointer (some ⟨g,off,none⟩))(hm:w.rangeAt g off vs):(execOp e o).run P w= .ok (.value (.agg vs.toArray)) w:=by
 rcases jQ (P:=P) hr hc hl hm with ⟨_,h⟩|⟨h,_⟩
 ·have:=h w hm;simp [execOp,ho.op,hx,this]
 ·rw [dK] at h;cases h
theorem NZ {d:Nat}{t:TypeId}{e:Operand->Value}{i:TypeInfo}{z:Value}(ho:ak o d (.alloc t))(hi:P.info? t=some i)(hz:i.zero=some z)(w:World): (execOp e o).run P w= .ok (.value (.pointer (some ⟨w.heap.size,0,none⟩))) (w.alloc (.cells z.cells t)):=by simp [execOp,ho.op,Instr.alloc,zeroValue,typeInfo,hi,hz,newVar,newRow,newObj,Sem.run]
theorem GR {c:Ctx}{t:TypeId}{I:TI}{x y:Operand}{e:Operand->Value}{g off:Nat}{v:Value}{arr:Array Value}{T:TypeId}(ho:gq o (.store t x y))(hr:oh c.ti P t I)(hc:I.ct=[])(hx:e x= .pointer (some ⟨g,off,none⟩))(hy:e y=v)(hs:v.cells.toList.length=I.size)(jd: ∀u∈v.cells.toList,u.oneCell'=true)(cz:w.heap[g]? =some (.cells arr T (0,0)))(yU:off+I.size<=arr.size): (execOp e o).run P w= .ok .skip (w.setRow g (arr.toList.take off++v.cells.toList++arr.toList.drop (off+I.size)).toArray):=by have:=nE (P:=P) (w:=w) hr hc hs jd cz yU;simp [execOp,ho.op,hx,hy,this]
theorem Tm.BG {i:Nat}{op:Op}{rest:List Nat}(ao:Tm a n σ)(hi:ops[i]? =some o)(ho:gq o op)(bF:(execOp (ev σ) o).run P w= .ok .skip w')(h:wpOps P ops Q rest a w'):wpOps P ops Q (i::rest) a w:=by rw [wpOps_cons];unfold wpOp;simp only [hi,aaW,ho.guard,if_true];left;unfold afA;rw [ao.eval,bF];simp only [afF];rw [ho.dst];exact h
theorem H4 {d:Nat} {t t':TypeId}{x y:Operand}{e:Operand->Value}{p q:Int}(ho:ak o d (.binOp .lss t x y t'))(hx:e x= .int .i64 p)(hy:e y= .int .i64 q)(w:World): (execOp e o).run P w= .ok (.value (.bool (decide (p<q)))) w:=wz ho hx hy (λw=>by simp [agr,aiy]) w
theorem Uh {d:Nat}{x y:Operand}{t:Array TypeId}{e:Operand->Value}{g:Nat}{lb:Array Value}{v:Value}(ho:ak o d (.call {callee:= .value x,args:= #[y],argTypes:=t})) (hx:e x= .func (.func g) #[] lb) (hy:e y=v) (w:World): (execOp e o).run P w=(callFunc g (#[v]++lb)).run P w:=by simp [execOp,ho.op,resolve,invoke,hx,hy,ae8]
theorem adm {d:Nat}{x y:Operand}{t:Array TypeId}{e:Operand->Value}{g:Nat}{v u:Value}(ho:ak o d (.call {callee:= .value (.func g),args:= #[x,y],argTypes:=t})) (he:e (.func g)= .func (.func g) #[] #[]) (hx:e x=v) (hy:e y=u) (w:World): (execOp e o).run P w=(callFunc g #[v,u]).run P w:=by simp [execOp,ho.op,resolve,invoke,he,hx,hy,ae8]
end
def N0 (r:Nat->Nat)(o:Nat->Oper):Code:= .seq (.region (r 0) #[o 0] false) (.seq (.seq (.region (r 1) #[o 1,o 2,o 3] false) (.block 0 (.loop (.seq (.region (r 2) #[o 4] false) (.seq (.cond (.tmp 9) .skip (.exit 0)) (.seq (.block 1 (.seq (.region (r 3) #[o 5,o 6] false) (.seq (.region (r 4) #[o 7,o 8,o 9,o 10,o 11,o 12] false) (.cond (.tmp 16) (.seq (.region (r 5) #[o 13,o 14] false) .ret) .skip)))) (.region (r 6) #[o 15,o 16] false))))))) (.seq (.region (r 7) #[o 17] false) .ret))
structure ahe (t el ti:Nat) (o:Nat->Oper):Prop where
 h0:ak (o 0) 4 (.assign (.const (.int .i64 0)))
 h1:ak (o 1) 6 (.move (.tmp 0))
 h2:ak (o 2) 7 (.call {callee:= .builtin .len,args:= #[.tmp 6],argTypes:= #[t]})
 h3:ak (o 3) 8 (.move (.const (.int .i64 0)))
 h4:ak (o 4) 9 (.binOp .lss ti (.tmp 8) (.tmp 7) ti)
 h5:ak (o 5) 10 (.move (.tmp 8))
 h6:ak (o 6) 5 (.assign (.tmp 10))
 h7:ak (o 7) 11 (.move (.tmp 1))
 h8:ak (o 8) 12 (.move (.tmp 0))
 h9:ak (o 9) 13 (.move (.tmp 5))
 B9:ak (o 10) 14 (.indexAddr t (.tmp 12) (.tmp 13))
 FC:ak (o 11) 15 (.load el (.tmp 14))
 FD:ak (o 12) 16 (.call {callee:= .value (.tmp 11),args:= #[.tmp 15],argTypes:= #[el]})
 FE:ak (o 13) 17 (.move (.tmp 5))
 FF:ak (o 14) 4 (.assign (.tmp 17))
 FG:ak (o 15) 18 (.binOp .add ti (.tmp 8) (.const (.int .i64 1)) ti)
 FH:ak (o 16) 8 (.move (.tmp 18))
 Ko:ak (o 17) 4 (.assign (.const (.int .i64 (-1))))
structure ZS (P:Program) (f t ti el:Nat) (fn:Func) (r:Nat->Nat) (o:Nat->Oper):Prop where
 pos:P.funcs[f]? =some fn
 name:(fn.name== "runtime.NumGoroutine")=false
 tmps:fn.ntmps=19
 res:fn.results= #[.tmp 4]
 body:fn.body=some (N0 r o)
 ops:ahe t el ti o
 xb:P.underlying t=some (.slice el)
theorem N1 {P:Program}{fn:Func}{n:Nat}{a:Act}{w:World} {σ:Nat->Value}{R:Ending->World->Prop}{v:Value}(hr:fn.results= #[.tmp 4])(ao:Tm a n σ)(h6:σ 4=v)(h:R (.returned v) w):bodyPost P fn R .ret a w:=by
 refine ⟨ao.defers,v,?_,h⟩;have h2:a.tmps[4]?.getD undef=v:=by have:=ao.get 4;rw [h6] at this;simpa using this
 simp [results,hr,h2]
theorem P3 {key:Nat->Nat} {φ:Ph}{size:Nat}{xs:List MV}{cells:List Value}(h:aX key φ size cells xs){k:Nat}(hk:k<xs.length): ((cells.drop (k *size)).take size).length=size/\gY key φ ((cells.drop (k *size)).take size) xs[k]:=by
 obtain ⟨p1,v1,p2,he,CE,sv,eK⟩:=h.at (ab6 hk);have:(cells.drop (k *size)).take size=v1:=by rw [he,ade,<-CE,aiv,<-sv,aiu]
 rw [this];exact ⟨sv,eK⟩
theorem H5 {key:Nat->Nat} {φ:Ph}{vs:List Value}{x:MV}(h:gY key φ vs x){ms:List MV}(hx:x= .agg ms):di key φ (.agg vs.toArray) x:=by
 subst hx;cases h with
 |agg _ _ h=>exact ⟨vs.toArray,rfl,by simpa using h⟩
section
variable {P:Program}{c:Ctx}{f t ti el:Nat}{fn:Func}{r:Nat->Nat}{o:Nat->Oper}{E:TI}{n cp g0 g:Nat}{ad:Option Addr}{ob:Option Nat}{w:World}{lb:Array Value}{S:Type}{Inv:S->(Nat->Prop)->Ph->World->Prop}{step:S->MV->Option (Bool×S)}
theorem ZT (hf:ZS P f t ti el fn r o)(hp:xA P c g lb Inv step)(hT:ia P c.ti)(hE:c.tv el=some E)(dK:E.st=true){xs:List MV}{cells:List Value}{cY:Array Value}{T:TypeId} {φ0:Ph}{Z0:Nat->Prop} {s0 s':S}{ys:List MV}(HU: ∀x∈xs,∃ms,x= .agg ms)(Pd:0<xs.length->ad=some ⟨g0,0,none⟩/\ob=some g0/\w.heap[g0]? =some (.cells cY T (0,0))/\cY.toList.take (xs.length *E.size)=cells)(XF: ∀b,ob=some b-> ¬Z0 b/\b<w.heap.size/\ ∀off,φ0 b off=none)(ib:aX c.key φ0 E.size cells xs)(akv:xs.length<2^63)(hinv:Inv s0 Z0 φ0 w)(jC: ∀b,w.heap.size<=b->Z0 b)(iQ:oS φ0 w)(hd:nm step s0 xs=some (ys,s')): Calls P f #[.slice ad xs.length cp,.func (.func g) #[] lb] w λe W=> ∃Z φ,(∀b,ob=some b->W.heap[b]? =w.heap[b]?)/\ ((e= .returned (.int .i64 (-1))/\ys=xs/\Bk c ob Inv Z0 φ0 w s' Z φ W)\/ ∃k,∃hk:k<xs.length,∃sk,e= .returned (.int .i64 (k:Int))/\nm step s0 (xs.take (k+1))=some (xs.take k,sk)/\Bk c ob Inv Z0 φ0 w sk Z φ W):=by
 obtain ⟨lN,om⟩:=bj hE;obtain ⟨ie,z,pH,vE,XB,ZL,Kn⟩:=lc (hT _ E lN) om;refine calls_of_wp hf.pos hf.body ?_;rw [hf.tmps];generalize P4:(λ(e:Ending) (W:World)=> ∃Z φ,(∀b,ob=some b->W.heap[b]? =w.heap[b]?)/\ ((e= .returned (.int .i64 (-1))/\ys=xs/\Bk c ob Inv Z0 φ0 w s' Z φ W)\/ ∃k,∃hk:k<xs.length,∃sk,e= .returned (.int .i64 (k:Int))/\nm step s0 (xs.take (k+1))=some (xs.take k,sk)/\Bk c ob Inv Z0 φ0 w sk Z φ W))=ahf;have key: ∀a:Act,Tm a 19 (rl (rl (λ_=>undef) 0 (.slice ad xs.length cp)) 1 (.func (.func g) #[] lb))->(N0 r o).wp P (bodyPost P fn ahf) a w:=by
  intro a ao;unfold N0;refine wp_seq (wp_region ?_);rw [show AI (#[o 0]:Array Oper).size=[0] from rfl];refine ao.step (v:= .int .i64 0) rfl hf.ops.h0 (by decide) (bP hf.ops.h0 _) (λa ao=> ?_);refine wp_seq (wp_seq (wp_region ?_));rw [show AI (#[o 1,o 2,o 3]:Array Oper).size=[0,1,2] from rfl];refine ao.step (v:= .slice ad xs.length cp) rfl hf.ops.h1 (by decide) (aA hf.ops.h1 _) (λa ao=> ?_);refine ao.step (v:= .int .i64 ((xs.length:Nat):Int)) rfl hf.ops.h2 (by decide) (mC hf.ops.h2 hf.xb rfl _) (λa ao=> ?_);refine ao.step (v:= .int .i64 0) rfl hf.ops.h3 (by decide) (aA hf.ops.h3 _) (λa ao=> ?_);refine wp_block (wp_loop (λa W=> ∃σ,Tm a 19 σ/\σ 0= .slice ad xs.length cp/\σ 1= .func (.func g) #[] lb/\σ 7= .int .i64 ((xs.length:Nat):Int)/\ ∃k:Nat,k<=xs.length/\σ 8= .int .i64 (k:Int)/\ (∀b,ob=some b->W.heap[b]? =w.heap[b]?)/\ ∃s Z φ,nm step s0 (xs.take k)=some (xs.take k,s)/\Bk c ob Inv Z0 φ0 w s Z φ W) (λa W=>match a.tmps.getD 8 undef with| .int _ k=>xs.length-k.toNat|_=>0) ?_ ?_)
  ·refine ⟨_,ao,rfl,rfl,rfl,0,adG _,rfl,λ_ _=>rfl,s0,Z0,φ0,rfl,⟨hinv,jC,λb hb=> .inl hb,iQ,.refl _ _ _,λb off hb=>(XF b hb).2.2 off⟩⟩
  ·clear ao;rintro a W ⟨σ,ao,h0,h1,h7,k,hk,h8,Bj,s,Z,φ,hdk,hW⟩;refine wp_seq (wp_region ?_);rw [show AI (#[o 4]:Array Oper).size=[0] from rfl];have hm8:(match a.tmps.getD 8 undef with| .int _ k=>xs.length-k.toNat|_=>0)=xs.length-k:=by rw [ao.get 8,h8];simp
   rw [hm8];clear hm8;refine ao.step (v:= .bool (decide ((k:Int)<(xs.length:Int)))) rfl hf.ops.h4 (by decide) (H4 hf.ops.h4 h8 h7 _) (λa ao=> ?_);refine wp_seq ?_;by_cases cI:k<xs.length;rotate_left
   ·refine ao.cond (b:=false) (by show acu (decide ((k:Int)<(xs.length:Int)))=_;rw [decide_eq_false (by omega)]) ?_;simp only [IT,if_false];refine wp_exit ?_;have hkn:k=xs.length:=by omega
    subst hkn;rw [ain] at hdk;rw [hd] at hdk;simp only [AS,ab2] at hdk;obtain ⟨rfl,rfl⟩:=hdk;show Exit.then _ _ _ _ _;refine wp_seq (wp_region ?_);rw [show AI (#[o 17]:Array Oper).size=[0] from rfl];refine ao.step (v:= .int .i64 (-1)) rfl hf.ops.Ko (by decide) (bP hf.ops.Ko _) (λa ao=> ?_);refine wp_ret ?_;refine N1 hf.res ao (v:= .int .i64 (-1)) rfl ?_;rw [<-P4];exact ⟨Z,φ,Bj,.inl ⟨rfl,rfl,hW⟩⟩
   ·refine ao.cond (b:=true) (by show acu (decide ((k:Int)<(xs.length:Int)))=_;rw [decide_eq_true (by omega)]) ?_;simp only [if_true];refine wp_skip ?_;obtain ⟨ahg,Vx,cz,bq⟩:=Pd (by omega);have h0':=h0;rw [ahg] at h0';obtain ⟨yk,sk,b,sk',e1,e2,e3⟩:=T3 hd cI;rw [hdk] at e1;simp only [AS,ab2] at e1;obtain ⟨rfl,rfl⟩:=e1;have ZU:=ib.mono hW.tr.ph;obtain ⟨hl,eK⟩:=P3 ZU cI;have ahh:W.rangeAt g0 (k *E.size) ((cells.drop (k *E.size)).take E.size):=by
     intro j v hj;have Kl:j<E.size:=by have:=(ab0.1 hj).1;omega
     have ZV:W.heap[g0]? =some (.cells cY T (0,0)):=(Bj g0 Vx).trans cz;rw [cell_of ZV,<-ae6];rw [List.getElem?_take_of_lt Kl,afX,<-bq,aib] at hj;split at hj
     ·exact hj
     ·cases hj
    obtain ⟨ms,NA⟩:=HU _ (aij cI);have Sd:di c.key φ (.agg ((cells.drop (k *E.size)).take E.size).toArray) xs[k]:=H5 eK NA;refine wp_seq (wp_block ?_);refine wp_seq (wp_region ?_);rw [show AI (#[o 5,o 6]:Array Oper).size=[0,1] from rfl];refine ao.step (v:= .int .i64 (k:Int)) rfl hf.ops.h5 (by decide) ((aA hf.ops.h5 _).trans (by show aiz (aiw (σ 8)) W=_;rw [h8])) (λa ao=> ?_);refine ao.step (v:= .int .i64 (k:Int)) rfl hf.ops.h6 (by decide) (bP hf.ops.h6 _) (λa ao=> ?_);refine wp_seq (wp_region ?_);rw [show AI (#[o 7,o 8,o 9,o 10,o 11,o 12]:Array Oper).size=[0,1,2,3,4,5] from rfl];refine ao.step (v:= .func (.func g) #[] lb) rfl hf.ops.h7 (by decide) ((aA hf.ops.h7 _).trans (by show aiz (aiw (σ 1)) W=_;rw [h1])) (λa ao=> ?_);refine ao.step (v:= .slice (some ⟨g0,0,none⟩) xs.length cp) rfl hf.ops.h8 (by decide) ((aA hf.ops.h8 _).trans (by show aiz (aiw (σ 0)) W=_;rw [h0'])) (λa ao=> ?_);refine ao.step (v:= .int .i64 (k:Int)) rfl hf.ops.h9 (by decide) (aA hf.ops.h9 _) (λa ao=> ?_);refine ao.step rfl hf.ops.B9 (by decide) (NY hf.ops.B9 hf.xb pH vE rfl rfl cI _) (λa ao=> ?_);refine ao.step rfl hf.ops.FC (by decide) (GQ hf.ops.FC (hT _ E lN) om dK hl rfl ahh) (λa ao=> ?_);refine ao.call rfl hf.ops.FD (by decide) (Uh hf.ops.FD rfl rfl _) (hp.call hW.inv hW.new hW.kZ Sd e2) ?_;rintro v W2 a ⟨rfl,φ',t1,t2,t3⟩ ao;have hnz: ∀b,ob=some b-> ¬Z b:=λb hb hz=>by
     have:=XF b hb;rcases hW.sub _ hz with h|h
     ·exact this.1 h
     ·omega
    have TF: ∀b,ob=some b->W2.heap[b]? =w.heap[b]? :=λb hb=>(t1.heap b (hnz b hb) (ah9 (XF b hb).2.1 hW.tr.size)).trans (Bj b hb);have NW:Bk c ob Inv Z0 φ0 w sk' Z φ' W2:=⟨t3,λb hb=>hW.new b (adr t1.size hb),hW.sub,t2,hW.tr.trans (t1.sup λb hb=> .inl (hW.sub b hb)),λb off hb=>by rw [t1.free b off (hnz b hb)];exact hW.free b off hb⟩
    cases b with
    |true=>refine ao.cond (b:=true) rfl ?_;simp only [if_true];refine wp_seq (wp_region ?_);rw [show AI (#[o 13,o 14]:Array Oper).size=[0,1] from rfl];refine ao.step (v:= .int .i64 (k:Int)) rfl hf.ops.FE (by decide) (aA hf.ops.FE _) (λa ao=> ?_);refine ao.step (v:= .int .i64 (k:Int)) rfl hf.ops.FF (by decide) (bP hf.ops.FF _) (λa ao=> ?_);refine wp_ret ?_;refine N1 hf.res ao (v:= .int .i64 (k:Int)) rfl ?_;rw [<-P4];exact ⟨Z,φ',TF,.inr ⟨k,cI,sk',rfl,e3,NW⟩⟩
    |false=>
     refine ao.cond (b:=false) rfl ?_;simp only [IT,if_false];refine wp_skip ?_;show Code.wp P (aip (r 6) #[o 15,o 16] false) _ a W2;refine wp_region ?_;rw [show AI (#[o 15,o 16]:Array Oper).size=[0,1] from rfl];refine ao.step (v:= .int .i64 ((k+1:Nat):Int)) rfl hf.ops.FG (by decide) (jU (q:=1) hf.ops.FG h8 rfl (by omega) _) (λa ao=> ?_);refine ao.step (v:= .int .i64 ((k+1:Nat):Int)) rfl hf.ops.FH (by decide) (aA hf.ops.FH _) (λa ao=> ?_);refine ⟨⟨_,ao,h0,h1,h7,k+1,by omega,rfl,TF,sk',Z,φ',?_,NW⟩,?_⟩
     ·rw [e3];have e4:xs.take (k+1)=xs.take k++[xs[k]]:=by rw [aif,ab6 cI];rfl
      rw [e4];rfl
     ·have:a.tmps.getD 8 undef= .int .i64 ((k+1:Nat):Int):=by rw [ao.get 8];rfl
      rw [this];simp;omega
 exact key _ (tm2 _ _ 17)
end
end Dn
