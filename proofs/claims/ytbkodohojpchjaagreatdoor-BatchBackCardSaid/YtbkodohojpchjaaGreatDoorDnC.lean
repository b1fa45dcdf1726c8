import Derived.Test.YtbkodohojpchjaaGreatDoorDnB
import Derived.Laws.CopyRow
import Derived.Lib.AppendZerosOnto
import Derived.Lib.Overlaps
import Derived.Laws.Externs
import Derived.Control
/- How code runs. Conditions: none. -/
set_option linter.unusedSimpArgs false
set_option linter.unusedVariables false
set_option linter.constructorNameAsVariable false
open Bool renaming and_eq_true→bB,false_eq_true→IT,not_eq_true'→OF,or_eq_false_iff→adu,and_true→aeh,or_eq_true→aeB,not_true→afd,eq_iff_iff→agi,false_or→agu,true_and→agv,not_eq_false'→agx
open Nat renaming eq_of_beq_eq_true→sh,beq→No,le_of_ble_eq_true→aaW,le_refl→aa1,mul_le_mul_right→aa8,min_eq_left→acP,add_mul→adx,le_trans→adz,zero_le→adL,ble→aed,sub_mul→aeA,zero_add→aeK,add_comm→af4,ble_eq_true_of_le→agk,min_def→agp,lt_of_lt_of_le→agy,succ_mul→ahd,add_zero→ahk
open List renaming range→AI,mem_cons→By,length_append→BY,length_take→aar,all_eq_true→aaR,take_append_of_le_length→aaT,length_drop→aaU,length_cons→aaV,size_toArray→aaX,getElem?_append_right→aaY,mem_map→aaZ,take_of_length_le→aa0,mem_append→aa9,getElem?_eq_some_iff→aba,cons_append→abi,getElem?_eq_getElem→abk,take_append_drop→abS,nil_append→abZ,nodup_cons→ab4,forall_mem_cons→aci,drop_eq_nil_of_le→acn,getElem?_eq_none→acQ,append_assoc→adm,drop_drop→adr,map_append→adE,getElem?_cons_succ→adM,flatMap_cons→adS,map_cons→aeg,mem_of_getElem?→aey,mem_cons_of_mem→aez,replicate→aeV,mem_singleton→aeZ,getElem?_drop→ae0,getElem?_append_left→ae8,any_eq_true→afE,sublist_cons_self→afN,mem_of_mem_drop→ago,take_take→agq,getElem?_range→ags,getElem?_take→agA,nodup_append→agD,take_add_one→agE,ext_getElem?→agF,getElem?_map→agG,getElem_mem→agH,take_append→agJ,take_length→agL,mem_range'→agO,append_nil→agP,range_add→agR,take_left→agS,drop_left→agU,range'→aho
open Option.some renaming injEq→AS,inj→aht
open Go.Region renaming ready→AT,wanted→aas,binds→ady,noSelect→aeJ
open Array renaming replicate→IN,length_toList→aaS,getElem?_append→aa3,getD_eq_getD_getElem?→abv,toList_inj→abC,getElem?_eq_some_iff→abD,getElem?_toList→ad0,setIfInBounds_comm→afe,getElem?_replicate→aft,toList_map→afH,getElem?_modify→agl,size_append→agC
open Go.Region.linearise renaming go→aaC
open Go.Builtin renaming zeroCells→aa2,copy_→abB,append_→acb,clear_→adZ,firstCells→agz
open Go.Act renaming put_comm→aa4
open Prod.mk renaming injEq→abj
open Go.World renaming block_lt_of_cell?→abu,setRow→acw,cell?_of_block→adv
open Go.Value renaming bool→abQ,pointer→adA,ownBlock→adX,cells→agM,int→ag2,okWide→ahc
open List.cons renaming injEq→abW
open Go.Addr renaming add_mid→acv
open Go.Result renaming andThen_ok→adl,ok→aha
open Go.Oper renaming upon_value→adK,wp→aeM,wp_mono→aeN,upon→aeQ,apart_spec→agj
open Go.Sem renaming run_bind→adR,run_pure→ahe
open Go.Instr renaming sliceBounds→adY,sliceBound→ad8,sliceAt→afz,checkKey→agm,slice→agn,sameNow→agw
open Go renaming sizeOf→ad1,binOp→afI,part→agQ
open Go.Deferred renaming ofValue→ad7
open Option renaming map_some→aeI
open List.Sublist renaming append_left→afi
open Go.Op renaming equalIn→afL,equal→agB,intCmp→ag3
open Go.Code renaming wp_mono→af3,region→agN
open Go.ByteArray renaming toList_eq→agr
open Int renaming toNat_of_nonneg→agt
open Go.IntKind renaming wrap_i64→agI
open Go.Extern.SlicesOverlaps renaming overlaps→agK
open Go.Next renaming value→agV
open Ne renaming symm→ahi
open Go.Value.pointer renaming injEq→ahr
namespace Dn
open Go Go.WideShapes Go.ChangeShapes Go.RowKit
section
variable {H:Type}{enc:TypeId×Value->H}{P:Program} {W W':World}{c:Ctx}
theorem B8 (hl:laidOutB P=true)(hb:Below W.heap.size W W'): ∀{ts:List TypeId} {vs:List Value} {ds:List (DataW H)} {ps:List MemPlace},(∀t∈ts,P.readableRec t=true/\t<P.types.size)-> DataW.TrodAll enc P W 0 (λ_=>true) true ts vs ds ps->(∀x∈ps,x.block<W.heap.size)->DataW.TrodAll enc P W' 0 (λb=>decide (b<W.heap.size)) true ts vs ds ps
 |[],[],[],_,_,h,_=>h
 |t::ts,v::vs,d::ds,_,ht,⟨p,q,h1,h2,e⟩,hs=>⟨p,q,Below.trod hl (ht t (by simp)).1 (ht t (by simp)).2 h1 hb (λx hx=>hs x (by rw [e];exact List.mem_append_left _ hx)),B8 hl hb (λu hu=>ht u (by simp [hu])) h2 (λx hx=>hs x (by rw [e];exact List.mem_append_right _ hx)),e⟩
def DO (P:Program):List TypeId->List MV->Prop
 |[],ms=>ms=[]
 |t::ts,ms=> ∃m r,ms=m::r/\(∃n,ME P (MT P n) t m)/\DO P ts r
theorem MI {base:Nat}{sp:Nat->Bool}{held:Bool}{key:Nat->Nat}{r:Reach}{b0:Nat}: ∀{ts:List TypeId} {vs:List Value} {ds:List (DataW H)} {ps:List MemPlace},(∀t∈ts,∃D,okT P D t=true)-> (∀(j:Nat) t v,ts[j]? =some t->vs[j]? =some v->ahc P W r b0 t v)->DataW.TrodAll enc P W base sp held ts vs ds ps-> ∃ms,aY key (Ff W) vs ms/\DO P ts ms/\ds.length=ts.length
 |[],[],[],_,_,_,_=>⟨[],rfl,rfl,rfl⟩
 |t::ts,v::vs,d::ds,_,ht,hv,⟨p,q,h1,h2,e⟩=>by obtain ⟨D,hD⟩:=ht t (by simp);obtain ⟨m,n,r1,t1⟩:=YP (key:=key) hD (hv 0 t v rfl rfl) h1;obtain ⟨ms,r2,t2,hl⟩:=MI (key:=key) (λu hu=>ht u (by simp [hu])) (λj u x hu hx=>hv (j+1) u x (by simpa using hu) (by simpa using hx)) h2;exact ⟨m::ms,⟨v,vs,rfl,r1,r2⟩,⟨m,ms,rfl,⟨n,t1⟩,t2⟩,by simp [hl]⟩
theorem Vy {fn:Func}{f:FuncId}{s:ChangeSpec}{args:Array Value}{ds gs:List (DataW H)}{before:List MemPlace}{tb:TypeId}{base:Nat}(hf:P.funcs[f]? =some fn)(iN:fn.body.isSome=true)(Aj:(fn.name== "runtime.NumGoroutine")=false)
 (hl:laidOutB P=true) (ahW: ∀t∈fn.params.toList,(∃D,okT P D t=true)/\P.readableRec t=true/\t<P.types.size) (mP:fn.resultTypes= #[tb]) (Yv:P.underlying tb=some .bool) (hv:s.vars=[])
 (hfn: ∀ds:List (DataW H),ds.length=fn.params.toList.length->s.fn H ds={results:=[.lit (.bool true)],args:=ds})
 (N4: ∀(j:Nat) t v,fn.params[j]? =some t->args[j]? =some v->ahc P W .any base t v)
 (hW:DataW.Whole enc P fn.params.toList s.vars false W args.toList ds gs before) (hg:c.cR (c.key f)=false)
 (rM: ∀ms,DO P fn.params.toList ms->fh P c f ms (.b true)):
 Calls P f args W λe W'=> ∃v,e= .returned v/\s.post enc P fn false true false false W args v W':=by
 have hW':=hW;obtain ⟨p,q,hA,hV,rfl,hfz,hnd⟩:=hW;rw [hv] at hV;obtain ⟨rfl,rfl⟩:=trodVars_none hV;have dO: ∀x∈p,x.block<W.heap.size:=λx hx=>by simpa using hW'.lt x (by simp [hx])
 obtain ⟨ms,r1,t1,Rj⟩:=MI (key:=c.key) (λt ht=>(ahW t ht).1) (λj t v h1 h2=>N4 j t v (by simpa using h1) (by simpa using h2)) hA;have hc:=rM ms t1 (Ff W) W (λb=>W.heap.size<=b) args.toList (λb hb=>hb) (by simp only [dz,hg,IT,if_false];exact r1) (YM W);have bA:(callFunc f args).run P W= .ok (.enter f args) W:=by
  have Ik: ¬fn.name= "runtime.NumGoroutine" :=by simpa using Aj
  cases hb:fn.body with
  |none=>rw [hb] at iN;cases iN
  |some b=>simp [callFunc,hf,Ik,hb]
 unfold cm at hc;rw [Array.toArray_toList,bA] at hc;refine hc.mono ?_;rintro x W' ⟨v,rfl,φ',ht,iu,hr⟩;have hvb:v= .bool true:=by obtain ⟨_,hr⟩:=hr;generalize yU:[v]=vs at hr;cases hr;simpa using yU
 subst hvb;have YQ:Below W.heap.size W W':=⟨ht.rest.1,ht.rest.2.1,ht.rest.2.2,ht.size,λk hk=>ht.heap k (by omega) hk⟩
 have afa:=hfn (ds++[]) (by simpa using Rj);refine ⟨_,rfl,ds,[],_,[],p,[],hW',?_,?_,?_,YQ.frame _,λh=>by cases h⟩
 ·rw [afa,mP];exact trodAll_mk1 (shut_bool Yv _)
 ·rw [afa];simpa using B8 hl YQ (λt ht=>(ahW t ht).2) hA dO
 ·rw [afa,hv];rfl
end
theorem abU {α:Type}{f:α->MV}{Q:α->Prop}{R:MV->Prop}{xs:List MV}(h: ∀x,R x-> ∃y,x=f y/\Q y)(hx: ∀x∈xs,R x): ∃L:List α,xs=L.map f/\ ∀y∈L,Q y:=by
 induction xs with
 |nil=>exact ⟨[],rfl,by simp⟩
 |cons x xs ih=>obtain ⟨y,rfl,hq⟩:=h x (hx x (by simp));obtain ⟨L,rfl,hL⟩:=ih λz hz=>hx z (by simp [hz]);exact ⟨y::L,rfl,by simp only [By];rintro z (rfl|hz);exact hq;exact hL z hz⟩
theorem YR {n:Int}(h:(Lit.int .i64 n).wf=true): -9223372036854775808<=n/\n<=9223372036854775807:=by simp only [Lit.wf,bB,decide_eq_true_eq] at h;exact h
end Dn
/-
  A program's type table, looked through. Conditions: none.
-/
namespace Dn
open Go
theorem YS {a b:Kd}(h:kdB a b=true):a=b:=by cases a<;>cases b<;>simp [kdB,kB] at h<;>first|rfl|(subst h;rfl)
def lF:List Kd->Kd->Bool
 |[k],k'=>kdB k k'
 |_,_=>false
theorem ea {l:List Kd}{k:Kd}(h:lF l k=true):l=[k]:=by
 cases l with
 |nil=>simp [lF] at h
 |cons a l=>cases l with
  |nil=>simp only [lF] at h;rw [YS h]
  |cons=>simp [lF] at h
def GB:List Nat->List Nat->Bool
 |[],[]=>true
 |a::l,b::m=>No a b&&GB l m
 |_,_=>false
theorem I3 {l m:List Nat}(h:GB l m=true):l=m:=by
 induction l generalizing m with
 |nil=>cases m<;>simp [GB] at h;rfl
 |cons a l ih=>
  cases m with
  |nil=>simp [GB] at h
  |cons b m=>simp only [GB,bB] at h;rw [sh h.1,ih h.2]
def xI {α:Type}:List α->Bool
 |[]=>true
 |_=>false
theorem qx {α:Type}{l:List α}(h:xI l=true):l=[]:=by cases l<;>simp [xI] at h;rfl
def Of (ti:Nat->Option TI)(t:Nat):Bool:=match ti t with|some J=>xI J.ch&&aed 1 J.size|none=>false
theorem MJ {ti:Nat->Option TI}{t:Nat}(h:Of ti t=true): ∃J,ti t=some J/\J.ch=[]/\0<J.size:=by
 unfold Of at h;cases hJ:ti t with
 |none=>simp [hJ] at h
 |some J=>simp only [hJ,bB] at h;exact ⟨J,rfl,qx h.1,aaW h.2⟩
def I4:List Value->Nat->Bool
 |[],n=>No n 0
 | .int .u8 k::r,n+1=>decide (k=0)&&I4 r n
 |_,_=>false
theorem P1 {l:List Value}{n:Nat}(h:I4 l n=true):l=aeV n (.int .u8 0):=by
 induction l generalizing n with
 |nil=>have:=sh h;subst this;rfl
 |cons v l ih=>
  cases n with
  |zero=>cases v<;>simp [I4] at h
  |succ n=>
   unfold I4 at h;split at h
   ·rename_i h1;simp at h1
   ·rename_i k _ _ h1 h2;simp only [abW] at h1;obtain ⟨rfl,rfl⟩:=h1;cases h2;simp only [bB,decide_eq_true_eq] at h;rw [h.1,ih h.2];rfl
   ·cases h
def Fh:List aD->aD->Bool
 |[.nil],.nil=>true
 |[.p (.b false)],.p (.b false)=>true
 |[.p (.i k n)],.p (.i k' m)=>kB k k'&&decide (n=m)
 |[.p (.s [])],.p (.s [])=>true
 |_,_=>false
theorem Bg {l:List aD}{x:aD}(h:Fh l x=true):l=[x]:=by
 unfold Fh at h;split at h<;>first|rfl|skip
 ·simp [kB] at h;rw [h.1,h.2]
 ·cases h
def YT:List aD->Bool
 |[.hs x]=>decide (x=kv.zero)
 |_=>false
theorem YU {l:List aD}(h:YT l=true):l=[.hs kv.zero]:=by
 unfold YT at h;split at h
 ·rw [of_decide_eq_true h]
 ·cases h
def YV (ti:Nat->Option TI)(P:Program)(I:TI)(z:Option Value):TypeDesc->Bool
 | .struct fs=>I.st&&xI I.ch&&aed 1 I.size&&No (G4 I.lay) I.size&&GB (fs.toList.map (·.offset)) I.ES&&GB (fs.toList.map (·.type)) I.UT&& (fs.toList.all λf=>Of ti f.type)&&(match z with|some (.agg cs)=>uJ I.zero cs.toList&&No cs.size I.size|_=>false)
 | .tuple ts=>GB I.ch ts.toList&&!xI I.ch&&xI I.lay&&!I.st
 | .slice el=>!I.st&&xI I.ch&&No I.size 1&&No I.elem el&&Of ti el&&(match z with|some (.slice none 0 0)=>true|_=>false)&&Fh I.zero .nil&&lF I.lay .l
 | .array n el=>!I.st&&xI I.ch&&No I.size 32&&No n 32&&No I.elem el&&(match P.underlying el with|some (.int .u8)=>true|_=>false)&&(match P.info? el with|some i=>No i.size 1|none=>false)&& lF I.lay .h&&YT I.zero&&(match z with|some (.agg cs)=>I4 cs.toList 32|_=>false)
 | .bool=>!I.st&&xI I.ch&&No I.size 1&&lF I.lay .b&&Fh I.zero (.p (.b false))&&(match z with|some (.bool false)=>true|_=>false)
 | .int k=>!I.st&&xI I.ch&&No I.size 1&&lF I.lay (.i k)&&Fh I.zero (.p (.i k 0))&&(match z with|some (.int k' n)=>kB k' k&&decide (n=0)|_=>false)
 | .string=>!I.st&&xI I.ch&&No I.size 1&&lF I.lay .s&&Fh I.zero (.p (.s []))&&(match z with|some (.string b)=>xI b.data.toList|_=>false)
 |_=>!I.st&&xI I.ch&&No I.size 1&&lF I.lay .raw&&(match z with|some v=>v.oneCell'&&uJ I.zero [v]|none=>false)
theorem YW {ti:Nat->Option TI}{P:Program}{I:TI}{z:Option Value}{d:TypeDesc}(h:YV ti P I z d=true):rU ti P I z d:=by
 cases d<;>simp only [YV,bB,OF] at h<;>simp only [rU];case struct fs=>
  obtain ⟨⟨⟨⟨⟨⟨⟨h1,h2⟩,h3⟩,h4⟩,h5⟩,h6⟩,h7⟩,h8⟩:=h;refine ⟨h1,qx h2,⟨aaW h3,sh h4⟩,I3 h5,I3 h6,λk f hk=> ?_,?_⟩
  ·exact MJ (aaR.1 h7 f (by
    have:fs.toList[k]? =some f:=by simpa using hk
    exact aey this))
  ·split at h8
   ·rename_i cs;simp only [bB] at h8;exact ⟨cs,rfl,h8.1,sh h8.2⟩
   ·cases h8
 case tuple ts=>obtain ⟨⟨⟨h1,h2⟩,h3⟩,h4⟩:=h;exact ⟨I3 h1,λhe=>(by rw [he] at h2;simp [xI] at h2),qx h3,h4⟩
 case slice el=>
  obtain ⟨⟨⟨⟨⟨⟨⟨h1,h2⟩,h3⟩,h4⟩,h5⟩,h6⟩,h7⟩,h8⟩:=h;refine ⟨h1,qx h2,sh h3,sh h4,MJ h5,?_,Bg h7,.l,ea h8,rfl⟩;split at h6
  ·rfl
  ·cases h6
 case array n el=>
  obtain ⟨⟨⟨⟨⟨⟨⟨⟨⟨h1,h2⟩,h3⟩,h4⟩,h5⟩,h6⟩,h7⟩,h8⟩,h9⟩,wg⟩:=h;refine ⟨h1,qx h2,sh h3,sh h4,sh h5,?_,ea h8,YU h9,?_⟩
  ·split at h6
   ·rename_i hu;split at h7
    ·rename_i i hi;exact ⟨i,hu,hi,sh h7⟩
    ·cases h7
   ·cases h6
  ·split at wg
   ·rename_i cs;have:=P1 wg;congr 1;congr 1;apply abC.1;rw [this];rfl
   ·cases wg
 case bool=>
  obtain ⟨⟨⟨⟨⟨h1,h2⟩,h3⟩,h4⟩,h5⟩,h6⟩:=h;refine ⟨h1,qx h2,sh h3,ea h4,Bg h5,?_⟩;split at h6
  ·rfl
  ·cases h6
 case int k=>
  obtain ⟨⟨⟨⟨⟨h1,h2⟩,h3⟩,h4⟩,h5⟩,h6⟩:=h;refine ⟨h1,qx h2,sh h3,ea h4,Bg h5,?_⟩;split at h6
  ·simp only [kB,bB,decide_eq_true_eq] at h6;rw [h6.1,h6.2]
  ·cases h6
 case string=>
  obtain ⟨⟨⟨⟨⟨h1,h2⟩,h3⟩,h4⟩,h5⟩,h6⟩:=h;refine ⟨h1,qx h2,sh h3,ea h4,Bg h5,?_⟩;split at h6
  ·rename_i b;exact ⟨b,rfl,qx h6⟩
  ·cases h6
 all_goals
  obtain ⟨⟨⟨⟨h1,h2⟩,h3⟩,h4⟩,h5⟩:=h;refine ⟨h1,qx h2,sh h3,ea h4,?_⟩;split at h5
  ·rename_i v;simp only [bB] at h5;exact ⟨v,rfl,h5.1,h5.2⟩
  ·cases h5
def afb (ti:Nat->Option TI)(P:Program)(t:Nat)(I:TI):Bool:=match P.underlying t,P.info? t with
 |some d,some i=>(!xI I.ch||(No i.size I.size&&No i.bytes I.bytes))&&YV ti P I i.zero d
 |_,_=>false
theorem abV {ti:Nat->Option TI}{P:Program}{t:Nat}{I:TI}(h:afb ti P t I=true):oa ti P t I:=by
 unfold afb at h;split at h
 ·rename_i d i hu hi;simp only [bB,aeB,OF] at h;refine ⟨d,i,hu,hi,λhc=> ?_,YW h.2⟩;rcases h.1 with h1|h1
  ·rw [hc] at h1;simp [xI] at h1
  ·exact ⟨sh h1.1,sh h1.2⟩
 ·cases h
def yY:List (Nat×TI)->Nat->Option TI
 |[],_=>none
 |(k,s)::r,t=>bif No k t then some s else yY r t
def P2 (P:Program)(tab:List (Nat×TI)):Bool:=tab.all λp=>afb (yY tab) P p.1 p.2
theorem MK {l:List (Nat×TI)}{t:Nat}{I:TI}(h:yY l t=some I):(t,I)∈l:=by
 induction l with
 |nil=>simp [yY] at h
 |cons p l ih=>
  obtain ⟨k,s⟩:=p;simp only [yY,eY] at h;by_cases hk:k=t
  ·subst hk;simp at h;subst h;simp
  ·simp only [hk,decide_false,cond_false] at h;exact aez _ (ih h)
theorem Og {P:Program}{tab:List (Nat×TI)}(h:P2 P tab=true):fZ P (yY tab):=λt I hI=>abV (aaR.1 h (t,I) (MK hI))
end Dn
/-
  Comparing values of plain types. Conditions: none.
-/
namespace Dn
open Go
def cks:List Kd->List Kd
 |[]=>[]
 | .h::r=>aeV 32 (.i .u8)++cks r
 |k::r=>k::cks r
def Oh:Kd->Value->Bool
 | .b,.bool _=>true
 | .i k,.int k' _=>decide (k'=k)
 | .s,.string _=>true
 |_,_=>false
def jD:List Kd->List Value->Prop
 |[],vs=>vs=[]
 |k::ks,vs=> ∃v r,vs=v::r/\Oh k v=true/\jD ks r
def YX:Value->Value->Bool
 | .bool a,.bool b=>decide (a=b)
 | .int _ a,.int _ b=>decide (a=b)
 | .string a,.string b=>decide (a.data.toList=b.data.toList)
 |_,_=>false
def kT:List Value->List Value->Bool
 |[],[]=>true
 |x::xs,y::ys=>YX x y&&kT xs ys
 |_,_=>false
theorem uU {xs ys us vs:List Value}(h:xs.length=ys.length):kT (xs++us) (ys++vs)=(kT xs ys&&kT us vs):=by
 induction xs generalizing ys with
 |nil=>cases ys with|nil=>simp [kT]|cons=>simp at h
 |cons x xs ih=>cases ys with|nil=>simp at h|cons y ys=>simp only [abi,kT,ih (by simpa using h),Bool.and_assoc]
theorem jD.length {ks:List Kd}: ∀{vs:List Value},jD ks vs->vs.length=ks.length:=by
 induction ks with
 |nil=>intro vs h;cases h;rfl
 |cons k ks ih=>intro vs h;obtain ⟨v,r,rfl,_,h2⟩:=h;simp [ih h2]
theorem jD.append {ks js:List Kd}: ∀{vs us:List Value},jD ks vs->jD js us->jD (ks++js) (vs++us):=by
 induction ks with
 |nil=>intro vs us h h';cases h;simpa using h'
 |cons k ks ih=>intro vs us h h';obtain ⟨v,r,rfl,h1,h2⟩:=h;exact ⟨v,r++us,rfl,h1,ih h2 h'⟩
theorem jD.split {ks js:List Kd}: ∀{vs:List Value},jD (ks++js) vs->jD ks (vs.take ks.length)/\jD js (vs.drop ks.length):=by
 induction ks with
 |nil=>intro vs h;exact ⟨by simp [jD],by simpa using h⟩
 |cons k ks ih=>intro vs h;obtain ⟨v,r,rfl,h1,h2⟩:=h;obtain ⟨h3,h4⟩:=ih h2;exact ⟨⟨v,_,rfl,h1,h3⟩,by simpa using h4⟩
theorem I5 (x:kv):jD (aeV 32 (.i .u8)) (a8 x):=by
 have: ∀(l:List UInt8),jD (aeV l.length (.i .u8)) (l.map λb=>ag2 .u8 (b.toNat:Int)):=by
  intro l;induction l with
  |nil=>rfl
  |cons b l ih=>exact ⟨_,_,rfl,by simp [Oh],ih⟩
 have h:=this x.l;rw [x.h] at h;exact h
theorem ML (x y:kv):kT (a8 x) (a8 y)=decide (x=y):=by
 have: ∀(l m:List UInt8),l.length=m.length->kT (l.map λb=>ag2 .u8 (b.toNat:Int)) (m.map λb=>ag2 .u8 (b.toNat:Int))=decide (l=m):=by
  intro l;induction l with
  |nil=>intro m h;cases m with|nil=>rfl|cons=>simp at h
  |cons b l ih=>
   intro m h;cases m with
   |nil=>simp at h
   |cons b' m=>
    simp only [aeg,kT,YX,ih m (by simpa using h),abW];have:((b.toNat:Int)=(b'.toNat:Int))↔b=b':=by
     constructor
     ·intro he;apply UInt8.toNat_inj.1;omega
     ·intro he;rw [he]
    simp [this]
 rw [a8,a8,this x.l y.l (by rw [x.h,y.h])];by_cases h:x=y
 ·subst h;simp
 ·have:x.l≠y.l:=λhe=>h (kv.ext' he);simp [h,this]
section
variable {e:Env}
theorem MM {lay:List Kd}: ∀{ls:List aD} {vs:List Value},aw e vs ls->eQ lay ls=true->jD (cks lay) vs:=by
 induction lay with
 |nil=>
  intro ls vs h hf;cases ls with
  |nil=>cases h;rfl
  |cons=>simp [eQ] at hf
 |cons k lay ih=>
  intro ls vs h hf;cases ls with
  |nil=>simp [eQ] at hf
  |cons l ls=>
   simp only [eQ] at hf;cases h1:nL k l with
   |false=>simp [h1] at hf
   |true=>
    simp only [h1,cond_true] at hf;obtain ⟨v,u,rfl,g1,g2⟩:=h;have hr:=ih g2 hf;have one: ∀m:MV,∀kd:Kd,l= .p m->(∀w:List Value,gk e.key e.φ w m-> ∃x,w=[x]/\Oh kd x=true)->jD (kd::cks lay) (v++u):=by intro m kd hl hm;subst hl;obtain ⟨x,rfl,hx⟩:=hm v g1.2;exact ⟨x,u,rfl,hx,hr⟩
    cases k<;>cases l<;>simp only [nL] at h1<;>try (cases h1;done)
    ·rename_i m;cases m<;>simp only [nL] at h1<;>try (cases h1;done)
     exact one _ _ rfl (λw hw=>by cases hw;exact ⟨_,rfl,rfl⟩)
    ·rename_i k m;cases m<;>simp only [nL] at h1<;>try (cases h1;done)
     exact one _ _ rfl (λw hw=>by cases hw;exact ⟨_,rfl,h1⟩)
    ·rename_i m;cases m<;>simp only [nL] at h1<;>try (cases h1;done)
     exact one _ _ rfl (λw hw=>by cases hw;exact ⟨_,rfl,rfl⟩)
    ·rename_i x;have g1:v=a8 x:=g1;subst g1;exact (I5 x).append hr
theorem Lo {l l':aD} {v v':List Value}{b:Bool}(h:aJ e v l) (h':aJ e v' l')(hb:EV l l'=some b):kT v v'=b/\v.length=v'.length:=by
 unfold EV at hb;split at hb
 ·obtain ⟨_,h⟩:=h;obtain ⟨_,h'⟩:=h';cases h;cases h';simp at hb;exact ⟨by simp [kT,YX,<-hb],rfl⟩
 ·obtain ⟨_,h⟩:=h;obtain ⟨_,h'⟩:=h';cases h;cases h';rename_i k x k' y _ _;cases hk:decide (k=k') with
  |false=>simp [hk] at hb
  |true=>simp [hk] at hb;exact ⟨by simp [kT,YX,<-hb],rfl⟩
 ·obtain ⟨_,h⟩:=h;obtain ⟨_,h'⟩:=h';cases h;cases h';simp at hb;exact ⟨by simp [kT,YX,<-hb],rfl⟩
 ·rename_i x y;have h:v=a8 x:=h;have h':v'=a8 y:=h';subst h;subst h';simp at hb;exact ⟨by rw [ML,<-hb],by rw [cS,cS]⟩
 ·cases hb
theorem YY {ls:List aD}: ∀{yX:List aD} {vs La:List Value} {b:Bool},aw e vs ls->aw e La yX->jA ls yX=some b->kT vs La=b:=by
 induction ls with
 |nil=>
  intro yX vs La b h h' hb;cases yX with
  |nil=>cases h;cases h';simp [jA] at hb;subst hb;rfl
  |cons l' yX=>simp [jA] at hb
 |cons l ls ih=>
  intro yX vs La b h h' hb;cases yX with
  |nil=>simp [jA] at hb
  |cons l' yX=>
   obtain ⟨v,u,rfl,h1,h2⟩:=h;obtain ⟨v',u',rfl,HH,Ld⟩:=h';have two: ∀x y,EV l l'=some x->jA ls yX=some y->b=(x&&y)->kT (v++u) (v'++u')=b:=by intro x y hx hy hxy;obtain ⟨g1,g2⟩:=Lo h1 HH hx;rw [uU g2,g1,ih h2 Ld hy,hxy]
   cases ls with
   |nil=>
    cases yX with
    |nil=>have hb:EV l l'=some b:=hb;exact two b true hb rfl (by simp)
    |cons p q=>
     simp only [jA] at hb;split at hb
     ·rename_i x y hx hy;exact two x y hx hy (by simpa using hb.symm)
     ·cases hb
   |cons p q=>
    simp only [jA] at hb;split at hb
    ·rename_i x y hx hy;exact two x y hx hy (by simpa using hb.symm)
    ·cases hb
end
def vG (F:TypeId->Option (List Kd))(P:Program):List Field->Nat->Nat->Option (List Kd)
 |[],o,n=>bif No o n then some [] else none
 |f::fs,o,n=>match F f.type with
  |some ks=>bif No f.offset o&&No ks.length (P.cellsOf f.type)&&!(f.name== "_") then (match vG F P fs (o+ks.length) n with|some r=>some (ks++r)|none=>none) else none
  |none=>none
def P4:Nat->List Kd->List Kd
 |0,_=>[]
 |n+1,ks=>ks++P4 n ks
def nz (P:Program):Nat->TypeId->Option (List Kd)
 |0,_=>none
 |d+1,t=>match P.underlying t with
  |some .bool=>some [.b]
  |some (.int k)=>some [.i k]
  |some .string=>some [.s]
  |some (.array n e)=>match nz P d e with
   |some ks=>bif No ks.length (P.cellsOf e)&&(match P.info? e with|some _=>true|none=>false) then some (P4 n ks) else none
   |none=>none
  |some (.struct fs)=>bif P.stoodInHeld t then none else vG (nz P d) P fs.toList 0 (P.cellsOf t)
  |_=>none
def Lp:TypeDesc->Bool
 | .struct _=>true
 | .array _ _=>true
 |_=>false
theorem I6 {F:TypeId->Option (List Kd)}{P:Program}: ∀(fs:List Field) (o n:Nat) (ks:List Kd),vG F P fs o n=some ks->o+ks.length=n:=by
 intro fs;induction fs with
 |nil=>
  intro o n ks hk;simp only [vG] at hk;cases hb:No o n with
  |false=>simp [hb] at hk
  |true=>simp [hb] at hk;subst hk;simpa using sh hb
 |cons f fs ihf=>
  intro o n ks hk;simp only [vG] at hk;cases hf:F f.type with
  |none=>simp [hf] at hk
  |some js=>
   simp only [hf] at hk
   cases hc:No f.offset o&&No js.length (P.cellsOf f.type)&&!(f.name== "_") with
   |false=>simp [hc] at hk
   |true=>
    simp only [hc,cond_true] at hk;cases hr:vG F P fs (o+js.length) n with
    |none=>simp [hr] at hk
    |some rs=>simp only [hr,AS] at hk;subst hk;have:=ihf _ _ _ hr;simp only [BY];omega
def ur (P:Program)(t:TypeId)(v:Value)(cs:List Value):Prop:=match P.underlying t with
 |some (.struct _)|some (.array _ _)=>v= .agg cs.toArray
 |_=>cs=[v]
theorem P5 (n:Nat)(ks:List Kd):(P4 n ks).length=n *ks.length:=by
 induction n with
 |zero=>simp [P4]
 |succ n ih=>simp only [P4,BY,ih,ahd];omega
section
variable {P:Program}{w:World}
theorem Bh {t:TypeId}{xs:Array Value}{off:Nat}{n:Nat}{d:TypeDesc}(hu:P.underlying t=some d)(hn:P.cellsOf t=n)(ic:Lp d=false->n=1)(hl:off+n<=xs.size): ∃v,(agQ t xs off).run P w= .ok v w/\ur P t v ((xs.toList.drop off).take n):=by
 obtain ⟨i,hi⟩:=info_of_underlying hu;have nM:i.size=n:=by rw [<-hn];simp [Program.cellsOf,hi]
 cases hd:Lp d with
 |true=>
  refine ⟨.agg (xs.extract off (off+n)),?_,?_⟩
  ·cases d<;>simp [Lp] at hd<;>simp [agQ,isAgg,run_underlying hu,ad1,typeInfo,hi,nM]
  ·have he:(xs.extract off (off+n))=((xs.toList.drop off).take n).toArray:=by apply abC.1;rw [Array.toList_extract];simp [List.extract]
   unfold ur;cases d<;>simp [Lp] at hd<;>simp only [hu]<;>rw [he]
 |false=>
  have K9:=ic hd;subst K9;have dO:off<xs.size:=by omega
  refine ⟨xs[off],?_,?_⟩
  ·cases d<;>simp [Lp] at hd<;>simp [agQ,isAgg,run_underlying hu,dO]
  ·have he:(xs.toList.drop off).take 1=[xs[off]]:=by rw [List.take_one,List.head?_drop];simp [dO]
   unfold ur;cases d<;>simp [Lp] at hd<;>simp only [hu]<;>exact he
theorem Vz {F:TypeId->Option (List Kd)}{dd:Nat}{xs ys:Array Value}: ∀(fs:List Field) (o n:Nat) (ks:List Kd),vG F P fs o n=some ks->xs.size=n->ys.size=n->jD ks (xs.toList.drop o)->jD ks (ys.toList.drop o)-> (∀f∈fs,∀js,F f.type=some js->(∃d,P.underlying f.type=some d/\(Lp d=false->js.length=1))/\ ∀(x y:Value) (us vs:List Value),ur P f.type x us->ur P f.type y vs->jD js us->jD js vs->(afL dd f.type x y).run P w= .ok (kT us vs) w)-> (Op.eqFields dd xs ys fs).run P w= .ok (kT (xs.toList.drop o) (ys.toList.drop o)) w:=by
 intro fs;induction fs with
 |nil=>
  intro o n ks hk hx hy _ _ _;simp only [vG] at hk;cases hb:No o n with
  |false=>simp [hb] at hk
  |true=>have hb:=sh hb;have h1:xs.toList.drop o=[]:=acn (by simp [hx,hb]);have h2:ys.toList.drop o=[]:=acn (by simp [hy,hb]);rw [h1,h2];simp [Op.eqFields,kT]
 |cons f fs ih=>
  intro o n ks hk hx hy fx fy hF;simp only [vG] at hk;cases hf:F f.type with
  |none=>simp [hf] at hk
  |some js=>
   simp only [hf] at hk
   cases hc:No f.offset o&&No js.length (P.cellsOf f.type)&&!(f.name== "_") with
   |false=>simp [hc] at hk
   |true=>
    simp only [hc,cond_true] at hk;simp only [bB,OF] at hc;obtain ⟨⟨h1,h2⟩,h3⟩:=hc;have h1:=sh h1;have h2:=sh h2
    have h3:f.name≠ "_" :=by intro he;rw [he] at h3;simp at h3
    cases hr:vG F P fs (o+js.length) n with
    |none=>simp [hr] at hk
    |some rs=>
     simp only [hr,AS] at hk;subst hk;obtain ⟨fx1,fx2⟩:=fx.split;obtain ⟨fy1,fy2⟩:=fy.split;rw [adr] at fx2 fy2;have lx:=fx.length;have ly:=fy.length;simp only [aaU,BY,aaS] at lx ly;obtain ⟨⟨d,hu,ic⟩,jP⟩:=hF f (by simp) js hf;by_cases hz:o+js.length<=xs.size/\o+js.length<=ys.size
     ·obtain ⟨x,px,wx⟩:=Bh (w:=w) (xs:=xs) (off:=f.offset) hu h2.symm ic (by rw [h1];exact hz.1);obtain ⟨y,py,wy⟩:=Bh (w:=w) (xs:=ys) (off:=f.offset) hu h2.symm ic (by rw [h1];exact hz.2);rw [h1] at wx wy;have he:=jP x y _ _ wx wy fx1 fy1;have uV:=ih (o+js.length) n rs hr hx hy fx2 fy2 (λg hg=>hF g (by simp [hg]));simp only [Op.eqFields,h3,ne_eq,not_false_eq_true,if_true,adR,px,py,he,adl];have IJ:kT (xs.toList.drop o) (ys.toList.drop o)=(kT ((xs.toList.drop o).take js.length) ((ys.toList.drop o).take js.length)&&kT (xs.toList.drop (o+js.length)) (ys.toList.drop (o+js.length))):=by rw [<-adr,<-adr,<-uU (by rw [fx1.length,fy1.length]),abS,abS]
      rw [IJ];cases kT ((xs.toList.drop o).take js.length) ((ys.toList.drop o).take js.length)
      ·simp
      ·simpa using uV
     ·exfalso;have:=I6 _ _ _ _ hr;omega
theorem YZ {e:TypeId}{dd:Nat}{xs ys:Array Value}{js:List Kd}(Lb:js.length=P.cellsOf e)(hd: ∃d,P.underlying e=some d/\(Lp d=false->js.length=1))(jP: ∀(x y:Value)(us vs:List Value),ur P e x us->ur P e y vs->jD js us->jD js vs->(afL dd e x y).run P w= .ok (kT us vs) w): ∀(m i:Nat),xs.size=(i+m) *js.length->ys.size=(i+m) *js.length->jD (P4 m js) (xs.toList.drop (i *js.length))->jD (P4 m js) (ys.toList.drop (i *js.length))-> (Op.eqItems dd e (P.cellsOf e) xs ys (aho i m)).run P w= .ok (kT (xs.toList.drop (i *js.length)) (ys.toList.drop (i *js.length))) w:=by
 intro m;induction m with
 |zero=>intro i hx hy _ _;have h1:xs.toList.drop (i *js.length)=[]:=acn (by simp [hx]);have h2:ys.toList.drop (i *js.length)=[]:=acn (by simp [hy]);rw [h1,h2];simp [Op.eqItems,kT]
 |succ m ih=>
  intro i hx hy fx fy;simp only [P4] at fx fy;obtain ⟨fx1,fx2⟩:=fx.split;obtain ⟨fy1,fy2⟩:=fy.split;have hmul:i *js.length+js.length=(i+1) *js.length:=by rw [ahd]
  rw [adr,hmul] at fx2 fy2;obtain ⟨d,hu,ic⟩:=hd;have hle:(i+1) *js.length<=(i+(m+1)) *js.length:=aa8 _ (by omega);obtain ⟨x,px,wx⟩:=Bh (w:=w) (xs:=xs) (off:=i *js.length) hu Lb.symm ic (by omega);obtain ⟨y,py,wy⟩:=Bh (w:=w) (xs:=ys) (off:=i *js.length) hu Lb.symm ic (by omega);have he:=jP x y _ _ wx wy fx1 fy1;have uV:=ih (i+1) (by rw [hx];congr 1;omega) (by rw [hy];congr 1;omega) fx2 fy2;rw [List.range'_succ];simp only [Op.eqItems,adR,<-Lb,px,py,he,adl];have IJ:kT (xs.toList.drop (i *js.length)) (ys.toList.drop (i *js.length))=(kT ((xs.toList.drop (i *js.length)).take js.length) ((ys.toList.drop (i *js.length)).take js.length)&&kT (xs.toList.drop ((i+1) *js.length)) (ys.toList.drop ((i+1) *js.length))):=by rw [<-hmul,<-adr,<-adr,<-uU (by rw [fx1.length,fy1.length]),abS,abS]
  rw [IJ];cases kT ((xs.toList.drop (i *js.length)).take js.length) ((ys.toList.drop (i *js.length)).take js.length)
  ·simp
  ·rw [<-Lb] at uV;simpa using uV
theorem MN: ∀(d:Nat) (t:TypeId) (ks:List Kd),nz P d t=some ks-> ∃k,P.underlying t=some k/\(Lp k=false->ks.length=1):=by
 intro d t ks h;cases d with
 |zero=>simp [nz] at h
 |succ d=>
  simp only [nz] at h;cases hu:P.underlying t with
  |none=>simp [hu] at h
  |some k=>
   refine ⟨k,rfl,λha=> ?_⟩;cases k<;>simp only [hu] at h<;>first
    |(simp only [AS] at h;subst h;rfl)
    |(cases h;done)
    |(simp [Lp] at ha;done)
theorem GC: ∀(d:Nat) (t:TypeId) (ks:List Kd),nz P d t=some ks-> ∀(m:Nat) (x y:Value) (us vs:List Value),ur P t x us->ur P t y vs->jD ks us->jD ks vs-> (afL (m+d) t x y).run P w= .ok (kT us vs) w:=by
 intro d;induction d with
 |zero=>intro t ks h;simp [nz] at h
 |succ d ih=>
  intro t ks h m x y us vs hx hy fx fy;simp only [nz] at h;have hmd:m+(d+1)=(m+d)+1:=rfl;rw [hmd];cases hu:P.underlying t with
  |none=>simp [hu] at h
  |some k=>
   cases k<;>simp only [hu] at h<;>try (cases h;done)
   case bool=>simp only [AS] at h;subst h;simp only [ur,hu] at hx hy;subst hx;subst hy;obtain ⟨v,r,h1,h2,h3⟩:=fx;obtain ⟨v',r',HH,Ld,h3'⟩:=fy;simp at h1 HH;obtain ⟨rfl,_⟩:=h1;obtain ⟨rfl,_⟩:=HH;cases x<;>simp [Oh] at h2;cases y<;>simp [Oh] at Ld;rename_i a b;rw [run_equalIn_bool' w _ t a b hu];simp [kT,YX];cases a<;>cases b<;>rfl
   case int k=>simp only [AS] at h;subst h;simp only [ur,hu] at hx hy;subst hx;subst hy;obtain ⟨v,r,h1,h2,h3⟩:=fx;obtain ⟨v',r',HH,Ld,h3'⟩:=fy;simp at h1 HH;obtain ⟨rfl,_⟩:=h1;obtain ⟨rfl,_⟩:=HH;cases x<;>simp [Oh] at h2;cases y<;>simp [Oh] at Ld;subst h2;subst Ld;rw [run_equalIn_int w _ t _ _ _ _ hu];simp only [kT,YX,aeh];congr 1
   case string=>simp only [AS] at h;subst h;simp only [ur,hu] at hx hy;subst hx;subst hy;obtain ⟨v,r,h1,h2,h3⟩:=fx;obtain ⟨v',r',HH,Ld,h3'⟩:=fy;simp at h1 HH;obtain ⟨rfl,_⟩:=h1;obtain ⟨rfl,_⟩:=HH;cases x<;>simp [Oh] at h2;cases y<;>simp [Oh] at Ld;rw [run_equalIn_string w _ t _ _ hu];simp only [kT,YX,aeh,toList_data];congr 1;exact Bool.beq_eq_decide_eq _ _
   case array n e=>
    cases hke:nz P d e with
    |none=>simp [hke] at h
    |some js=>
     simp only [hke] at h;cases hc:No js.length (P.cellsOf e)&&(match P.info? e with|some _=>true|none=>false) with
     |false=>simp [hc] at h
     |true=>
      simp only [hc,cond_true,AS] at h;subst h;simp only [bB] at hc;have Lb:=sh hc.1;obtain ⟨i,hi⟩: ∃i,P.info? e=some i:=by
       cases hi:P.info? e with
       |none=>rw [hi] at hc;simp at hc
       |some i=>exact ⟨i,rfl⟩
      simp only [ur,hu] at hx hy;subst hx;subst hy;rw [run_equalIn_array w (m+d) us.toArray vs.toArray hu hi,List.range_eq_range'];have l1:=fx.length;have l2:=fy.length;rw [P5] at l1 l2;have:=YZ (w:=w) (xs:=us.toArray) (ys:=vs.toArray) (js:=js) (dd:=m+d) Lb (MN d e js hke) (λx y us vs a b c d'=>ih e js hke m x y us vs a b c d') n 0 (by simpa using l1) (by simpa using l2) (by simpa using fx) (by simpa using fy);simpa using this
   case struct fs=>
    cases dB:P.stoodInHeld t with
    |true=>simp [dB] at h
    |false=>
     simp only [dB,cond_false] at h;simp only [ur,hu] at hx hy;subst hx;subst hy;have Yz:P.fieldsOf t=fs:=by simp [Program.fieldsOf,hu]
     rw [run_equalIn_struct w (m+d) t us.toArray vs.toArray (by rw [Yz];exact hu) dB,Yz];have hl:=I6 _ _ _ _ h;have:=Vz (w:=w) (dd:=m+d) (xs:=us.toArray) (ys:=vs.toArray) fs.toList 0 (P.cellsOf t) ks h (by simp [fx.length];omega) (by simp [fy.length];omega) (by simpa using fx) (by simpa using fy) (λf hf js hjs=>⟨MN d f.type js hjs,λx y us vs a b c d'=>ih f.type js hjs m x y us vs a b c d'⟩);simpa using this
end
theorem T3 {l m:List Kd}(h:GZ l m=true):l=m:=by
 induction l generalizing m with
 |nil=>cases m<;>simp [GZ] at h;rfl
 |cons a l ih=>
  cases m with
  |nil=>simp [GZ] at h
  |cons b m=>simp only [GZ,bB] at h;rw [YS h.1,ih h.2]
def Si:List Kd->Bool
 |[]=>true
 | .l::_=>false
 | .raw::_=>false
 |_::r=>Si r
def eqB (P:Program)(t:Nat)(I:TI):Bool:=!Si I.lay||!xI I.ch||((match nz P 20 t with|some ks=>GZ ks (cks I.lay)|none=>false)&&!P.eqGuardType P.depth t&& (match P.underlying t with|some (.struct _)=>I.st|some (.array _ _)=>!I.st&&lF I.lay .h|some .bool=>!I.st&&lF I.lay .b|some (.int k)=>!I.st&&lF I.lay (.i k)|some .string=>!I.st&&lF I.lay .s|_=>false))
def afc (P:Program)(tab:List (Nat×TI)):Bool:=tab.all λp=>eqB P p.1 p.2
theorem VA {lay:List Kd}: ∀{ls:List aD},eQ lay ls=true->Si lay=true:=by
 induction lay with
 |nil=>intro ls _;rfl
 |cons k lay ih=>
  intro ls h;cases ls with
  |nil=>simp [eQ] at h
  |cons l ls=>
   simp only [eQ] at h;cases h1:nL k l with
   |false=>simp [h1] at h
   |true=>simp only [h1,cond_true] at h;have:=ih h;cases k<;>first|exact this|(cases l<;>simp [nL] at h1)
theorem VB {t:TypeId}{x y:Value}(h:(∃b,x= .bool b)\/ ∃cs,x= .agg cs)(op:BinOp): (op= .eql->binOp op t x y=(do pure (.bool (<-agB t x y))))/\(op= .neq->binOp op t x y=(do pure (.bool (!(<-agB t x y))))):=by rcases h with ⟨b,rfl⟩|⟨cs,rfl⟩<;>refine ⟨?_,?_⟩<;>rintro rfl<;>cases y<;>rfl
theorem VC {P:Program}{tab:List (Nat×TI)}(h:afc P tab=true):RR P (yY tab):=by
 intro t I hI hc e w vx vy sx sy b rx ry fx fy shx shy hb n1 n2;have hr:=aaR.1 h (t,I) (MK hI);simp only [eqB,VA fx,afd,agu] at hr;rw [hc] at hr;simp only [xI,afd,agu,bB,OF] at hr;obtain ⟨⟨hk,hg⟩,hd⟩:=hr;cases Vc:nz P 20 t with
 |none=>simp [Vc] at hk
 |some ks=>
  simp only [Vc] at hk;have hk:=T3 hk;subst hk;have cells: ∀(v:Value) (s:Slot),aa e v s->eQ I.lay (aH s)=true->mI I.st s=true->(∃us,ur P t v us/\aw e us (aH s))/\((∃b,v= .bool b)\/(∃cs,v= .agg cs)\/(∃k n,s= .sc (.p (.i k n)))\/ ∃l,s= .sc (.p (.s l))):=by
   intro v s hv hf hs;cases s<;>simp only [mI] at hs<;>try (cases hs;done)
   ·rename_i l;have dB:I.st=false:=by simpa using hs
    cases hu:P.underlying t with
    |none=>simp [hu] at hd
    |some d=>
     simp only [hu] at hd;cases d<;>simp only [dB,Bool.not_false,agv] at hd<;>try (cases hd;done)
     ·have hl:=ea hd;rw [hl] at hf;simp only [aH,eQ] at hf;cases l<;>simp [nL] at hf;rename_i m;cases m<;>simp [nL] at hf;have:=Gj hv;exact ⟨⟨[v],by simp [ur,hu],[v],[],rfl,hv,rfl⟩,.inl ⟨_,this⟩⟩
     ·have hl:=ea hd;rw [hl] at hf;simp only [aH,eQ] at hf;cases l<;>simp [nL] at hf;rename_i m;cases m<;>simp [nL] at hf;exact ⟨⟨[v],by simp [ur,hu],[v],[],rfl,hv,rfl⟩,.inr (.inr (.inl ⟨_,_,rfl⟩))⟩
     ·have hl:=ea hd;rw [hl] at hf;simp only [aH,eQ] at hf;cases l<;>simp [nL] at hf;rename_i m;cases m<;>simp [nL] at hf;exact ⟨⟨[v],by simp [ur,hu],[v],[],rfl,hv,rfl⟩,.inr (.inr (.inr ⟨_,rfl⟩))⟩
     ·have hl:=ea hd;rw [hl] at hf;simp only [aH,eQ] at hf;cases l<;>simp [nL] at hf;rename_i x;have hv:v= .agg (a8 x).toArray:=hv;exact ⟨⟨a8 x,by simp [ur,hu,hv],a8 x,[],by simp,rfl,rfl⟩,.inr (.inl ⟨_,hv⟩)⟩
   ·rename_i cs;cases hu:P.underlying t with
    |none=>simp [hu] at hd
    |some d=>
     simp only [hu] at hd;cases d<;>simp only [hs,afd,Bool.false_and] at hd<;>try (cases hd;done)
     obtain ⟨arr,hv,pG⟩:=hv;exact ⟨⟨arr.toList,by simp [ur,hu,hv],pG⟩,.inr (.inl ⟨_,hv⟩)⟩
  obtain ⟨⟨us,wx,lx⟩,kx⟩:=cells vx sx rx fx shx;obtain ⟨⟨vs,wy,ly⟩,ky⟩:=cells vy sy ry fy shy;have jP:(agB t vx vy).run P w= .ok b w:=by have:=GC (P:=P) (w:=w) 20 t _ Vc 9980 vx vy us vs wx wy (MM lx fx) (MM ly fy);rw [YY lx ly hb] at this;exact this
  refine ⟨jP,λx y op=> ?_⟩;have hxk:(∃b,vx= .bool b)\/ ∃cs,vx= .agg cs:=by
   rcases kx with h1|h1|⟨k,n,h1⟩|⟨l,h1⟩
   ·exact .inl h1
   ·exact .inr h1
   ·exfalso;subst h1;cases hu:P.underlying t with
    |none=>simp [hu] at hd
    |some d=>
     simp only [aH] at fx fy hb;cases Y0:I.lay with
     |nil=>rw [Y0] at fx;simp [eQ] at fx
     |cons k0 r0=>
      rw [Y0] at fx fy;simp only [eQ] at fx;cases k0<;>simp [nL] at fx;obtain ⟨hk0,Sa⟩:=fx;have Sa:r0=[]:=by cases r0<;>simp [eQ] at Sa;rfl
      subst Sa;cases sy<;>simp only [mI] at shx shy<;>try (cases shy;done)
      ·rename_i l;simp only [aH,eQ] at fy;cases l<;>simp [nL] at fy;rename_i m;cases m<;>simp [nL] at fy;exact n1 _ _ _ _ rfl rfl
      ·rw [shy] at shx;cases shx
   ·exfalso;subst h1;simp only [aH] at fx fy hb;cases Y0:I.lay with
    |nil=>rw [Y0] at fx;simp [eQ] at fx
    |cons k0 r0=>
     rw [Y0] at fx fy;simp only [eQ] at fx;cases k0<;>simp [nL] at fx;have Sa:r0=[]:=by cases r0<;>simp [eQ] at fx;rfl
     subst Sa;cases sy<;>simp only [mI] at shx shy<;>try (cases shy;done)
     ·rename_i l;simp only [aH,eQ] at fy;cases l<;>simp [nL] at fy;rename_i m;cases m<;>simp [nL] at fy;exact n2 _ _ rfl rfl
     ·rw [shy] at shx;cases shx
  refine ⟨?_,VB hxk op⟩;have hg':P.eqGuardType P.depth t=false:=hg;rcases hxk with ⟨bb,rfl⟩|⟨cs,rfl⟩
  ·cases op<;>rfl
  ·cases vy<;>cases op<;>first|rfl|(simp [eqGuard,hg'])
end Dn
/-
  A program's types of maps, looked through. Conditions: none.
-/
namespace Dn
open Go
theorem Oi {lay:List Kd}: ∀{ks:List MV},dn lay ks=true->jD (cks lay) (ks.flatMap EP):=by
 induction lay with
 |nil=>intro ks h;cases ks with|nil=>rfl|cons=>simp [dn] at h
 |cons k lay ih=>
  intro ks h;cases ks with
  |nil=>simp [dn] at h
  |cons m ks=>
   simp only [dn,bB] at h;have h2:=ih h.2;have h1:=h.1;cases k<;>cases m<;>simp only [E4] at h1<;>try (cases h1;done)
   ·exact ⟨_,_,rfl,rfl,h2⟩
   ·exact ⟨_,_,rfl,h1,h2⟩
   ·exact ⟨_,_,rfl,rfl,h2⟩
   ·exact (I5 _).append h2
theorem abX {lay:List Kd}: ∀{a b:List MV},dn lay a=true->dn lay b=true->kT (a.flatMap EP) (b.flatMap EP)=jo b a:=by
 induction lay with
 |nil=>intro a b ha hb;cases a<;>cases b<;>simp [dn] at ha hb;rfl
 |cons k lay ih=>
  intro a b ha hb;cases a with
  |nil=>simp [dn] at ha
  |cons x a=>
   cases b with
   |nil=>simp [dn] at hb
   |cons y b=>
    simp only [dn,bB] at ha hb;have ih:=ih ha.2 hb.2;have h1:=ha.1;have h2:=hb.1;cases k<;>cases x<;>simp only [E4] at h1<;>try (cases h1;done)
    all_goals cases y<;>simp only [E4] at h2<;>try (cases h2;done)
    ·rename_i p q;simp only [adS,EP,abi,abZ,kT,YX,jo,K3,ih];congr 1;rw [decide_eq_decide];exact eq_comm
    ·rename_i k1 p k2 q;have e1:=of_decide_eq_true h1;have e2:=of_decide_eq_true h2;subst e1;subst e2;simp only [adS,EP,abi,abZ,kT,YX,jo,K3,ih,decide_true,agv];congr 1;rw [decide_eq_decide];exact eq_comm
    ·rename_i p q;simp only [adS,EP,abi,abZ,kT,YX,jo,K3,ih];congr 1;rw [decide_eq_decide];simp [eq_comm]
    ·rename_i p q;simp only [adS,EP,jo,K3];rw [uU (by rw [cS,cS]),ML,ih];congr 1;rw [decide_eq_decide];exact eq_comm
def Fi:TypeDesc->Bool
 | .bool| .int _| .string=>true
 |_=>false
def ah1 (P:Program)(n:Nat)(fs:List Field):Bool:=fs.all λf=>(match P.underlying f.type with|some d=>Fi d|none=>false)&&aed (f.offset+1) n
def adO (P:Program)(kt:Nat)(I:TI):Bool:=match P.underlying kt with
 |some .bool=>!I.st&&lF I.lay .b
 |some (.int k)=>!I.st&&lF I.lay (.i k)
 |some .string=>!I.st&&lF I.lay .s
 |some (.struct fs)=>I.st&&(match nz P 20 kt with|some ks=>GZ ks (cks I.lay)|none=>false)&&ah1 P (cks I.lay).length fs.toList
 |_=>false
def adP (b:Bool):Option Value->Bool
 |some (.bool false)=>b
 |some (.int .i64 n)=>!b&&decide (n=0)
 |_=>false
def ah2 (P:Program)(ti:Nat->Option TI)(t kt:Nat)(b:Bool):Bool:=match P.underlying t with
 |some (.map kt' el)=>No kt' kt&&(match P.info? el with|some i=>adP b i.zero|none=>false)&&(match ti kt with|some I=>xI I.ch&&adO P kt I|none=>false)
 |_=>false
def I7:List (Nat×(Nat×Bool))->Nat->Option (Nat×Bool)
 |[],_=>none
 |(k,s)::r,t=>bif No k t then some s else I7 r t
theorem VD {l:List (Nat×(Nat×Bool))}{t:Nat}{I:Nat×Bool}(h:I7 l t=some I):(t,I)∈l:=by
 induction l with
 |nil=>simp [I7] at h
 |cons p l ih=>
  obtain ⟨k,s⟩:=p;simp only [I7,eY] at h;by_cases hk:k=t
  ·subst hk;simp at h;subst h;simp
  ·simp only [hk,decide_false,cond_false] at h;exact aez _ (ih h)
def abY (P:Program)(ti:Nat->Option TI)(l:List (Nat×(Nat×Bool))):Bool:=l.all λp=>ah2 P ti p.1 p.2.1 p.2.2
theorem Bi {k:Kd}{ks:List MV}(h:dn [k] ks=true): ∃m,ks=[m]/\E4 k m=true:=by
 cases ks with
 |nil=>simp [dn] at h
 |cons m r=>
  cases r with
  |cons=>simp [dn] at h
  |nil=>exact ⟨m,rfl,by simpa [dn] using h⟩
theorem j6 {P:Program}{t:TypeId}{d:TypeDesc}(hu:P.underlying t=some d)(hd:Fi d=true)(em:Bool)(n:Nat)(v:Value)(w:World):(agm em (n+1) t v).run P w= .ok () w:=by rw [agm];simp only [adR,run_underlying hu,Result.andThen];cases d<;>simp [Fi] at hd<;>cases v<;>rfl
theorem I8 {P:Program}{t:TypeId}{d:TypeDesc}(hu:P.underlying t=some d)(hd:Fi d=true){xs:Array Value}{off:Nat}(h:off<xs.size)(w:World):(agQ t xs off).run P w= .ok xs[off] w:=by cases d<;>simp [Fi] at hd<;>simp [agQ,isAgg,run_underlying hu,h]
theorem Sj {P:Program}{c:Ctx}{l:List (Nat×(Nat×Bool))}(h:abY P c.ti l=true)(hm: ∀t p,c.mt t=some p->I7 l t=some p):Fb P c:=by
 intro t s hs;unfold xl at hs;cases TX:c.mt t with
 |none=>simp [TX] at hs
 |some p=>
  obtain ⟨kt,b⟩:=p;simp only [TX] at hs;cases hI:c.tv kt with
  |none=>simp [hI] at hs
  |some I=>
   simp only [hI] at hs;cases hit:GY ⟨I.st,I.lay,b⟩ with
   |true=>simp [hit] at hs
   |false=>
   simp only [hit,cond_false,AS] at hs;subst hs;obtain ⟨HI,zY⟩:=aV hI;have hb:=aaR.1 h _ (VD (hm t _ TX));simp only [ah2] at hb;split at hb
   ·rename_i kt' el hu;simp only [bB] at hb;obtain ⟨⟨ul,sW⟩,hb3⟩:=hb;have ul:=sh ul;subst ul;split at sW
    ·rename_i inf amb;rw [HI] at hb3;simp only [bB] at hb3;have hk:=hb3.2;have hz: ∀w:World,(zeroValue el).run P w= .ok (BC b (jq b)) w:=by
      intro w;have:inf.zero=some (BC b (jq b)):=by
       generalize inf.zero=z at sW;unfold adP at sW;split at sW
       ·subst sW;rfl
       ·simp only [bB,OF] at sW;obtain ⟨h1,h2⟩:=sW;subst h1;rw [of_decide_eq_true h2];rfl
       ·cases sW
      simp [zeroValue,typeInfo,amb,this]
     unfold adO at hk;refine ⟨kt',el,hu,hz,?_⟩;split at hk
     ·rename_i hd;simp only [bB,OF] at hk;have hl:=ea hk.2;refine ⟨λem ks w hf=>j6 hd rfl em 9999 _ w,_,hd,.inl λa b' ha G5=> ?_⟩;rw [hl] at ha G5;obtain ⟨x,rfl,hx⟩:=Bi ha;obtain ⟨y,rfl,hy⟩:=Bi G5;cases x<;>simp [E4] at hx;cases y<;>simp [E4] at hy;rename_i p q;simp only [hk.1,fJ,agw,jo,K3,aeh];congr 1;rw [agi];simp only [beq_iff_eq,decide_eq_true_eq];exact eq_comm
     ·rename_i k hd;simp only [bB,OF] at hk;have hl:=ea hk.2;refine ⟨λem ks w hf=>j6 hd rfl em 9999 _ w,_,hd,.inl λa b' ha G5=> ?_⟩;rw [hl] at ha G5;obtain ⟨x,rfl,hx⟩:=Bi ha;obtain ⟨y,rfl,hy⟩:=Bi G5;cases x<;>simp [E4] at hx;cases y<;>simp [E4] at hy;subst hx;subst hy;rename_i p q;simp only [hk.1,fJ,agw,jo,K3,aeh,if_true,decide_true,agv];congr 1;rw [agi];simp only [beq_iff_eq,decide_eq_true_eq];exact eq_comm
     ·rename_i hd;simp only [bB,OF] at hk;have hl:=ea hk.2;refine ⟨λem ks w hf=>j6 hd rfl em 9999 _ w,_,hd,.inl λa b' ha G5=> ?_⟩;rw [hl] at ha G5;obtain ⟨x,rfl,hx⟩:=Bi ha;obtain ⟨y,rfl,hy⟩:=Bi G5;cases x<;>simp [E4] at hx;cases y<;>simp [E4] at hy;rename_i p q;simp only [hk.1,fJ,agw,jo,K3,aeh];congr 1;rw [beq_toListBytes,agr,agr,agi];simp only [beq_iff_eq,decide_eq_true_eq,List.toList_toArray];exact eq_comm
     ·rename_i fs hd;simp only [bB] at hk;obtain ⟨⟨dB,hkk⟩,Yz⟩:=hk;split at hkk
      ·rename_i ks Vc;have hkk:=T3 hkk;subst hkk;have hkv: ∀q,fJ true q= .agg (q.flatMap EP).toArray:=by intro q;rfl
       refine ⟨λem q w hf=> ?_,_,hd,.inr λx y hx hy=>⟨?_,λw=> ?_⟩⟩
       ·have hlen:(q.flatMap EP).length=(cks I.lay).length:=(Oi hf).length;rw [dB,hkv,show (10000:Nat)=9999+1 from rfl,agm];simp only [adR,run_underlying hd,adl];rw [<-Array.forIn_toList];have each: ∀f∈fs.toList,(∃d,P.underlying f.type=some d/\Fi d=true)/\f.offset<(q.flatMap EP).toArray.size:=by
         intro f hf;have:=aaR.1 Yz f hf;simp only [bB] at this;obtain ⟨h1,h2⟩:=this;split at h1
         ·rename_i d hd;exact ⟨⟨d,hd,h1⟩,by have:=aaW h2;simp only [aaX];omega⟩
         ·cases h1
        clear Yz;generalize fs.toList=L at each;generalize (q.flatMap EP).toArray=xs at each;induction L with
        |nil=>simp
        |cons f L ih=>
         obtain ⟨⟨d,h1,h2⟩,h3⟩:=each f (by simp);have ul:=j6 h1 h2 em 9998 xs[f.offset] w;have sW:=I8 (P:=P) h1 h2 h3 w
         by_cases hn:f.name= "_"
         ·simp only [List.forIn_cons,adR,hn,ne_eq,not_true_eq_false,if_false,adl,ahe];exact ih (λy hy=>each y (by simp [hy]))
         ·simp only [List.forIn_cons,adR,hn,ne_eq,not_false_eq_true,if_true,adl,ul,sW,ahe];exact ih (λy hy=>each y (by simp [hy]))
       ·rw [dB,hkv,hkv];rfl
       ·rw [dB,hkv,hkv];have:=GC (P:=P) (w:=w) 20 kt' _ Vc 9980 (.agg (x.flatMap EP).toArray) (.agg (y.flatMap EP).toArray) (x.flatMap EP) (y.flatMap EP) (by simp [ur,hd]) (by simp [ur,hd]) (Oi hx) (Oi hy);rw [abX hx hy] at this;exact this
      ·cases hkk
     ·cases hk
    ·cases sW
   ·cases hb
end Dn
/-
  Functions that are handed a variable do what their abstract run says. Conditions: none.
-/
namespace Dn
open Go
section
variable {P:Program}{c:Ctx}{Z:bu} {e e':Env}{st bT:St} {a a':Act} {w w':World}{R:Type}{r:R}
theorem VE {rs:List ResultVar}(hT:fZ P c.ti): ∀{e:Env} {st:St} {K:List MV->St->Option R},bO c Z e st a w->U0 c st rs K=some r-> ∃e' bT ms vs,bO c Z e' bT a w/\Ext Z.In e e'/\(rs.mapM (gM a.tmps)).run P w= .ok vs w/\aY e'.key e'.φ vs ms/\K ms bT=some r:=by
 induction rs with
 |nil=>intro e st K h hK;exact ⟨e,st,[],[],h,.refl _ _,by simp,rfl,hK⟩
 |cons x rs ih=>
  intro e st K h hK;have go: ∀(s:Slot) (v:Value),aa e v s->(gM a.tmps x).run P w= .ok v w->(mH st s λm st=>U0 c st rs λms st=>K (m::ms) st)=some r-> ∃e' bT ms vs,bO c Z e' bT a w/\Ext Z.In e e'/\((x::rs).mapM (gM a.tmps)).run P w= .ok vs w/\aY e'.key e'.φ vs ms/\K ms bT=some r:=by
   intro s v hs bA hK;obtain ⟨e1,dc,m,h1,h2,h3,h4,hK⟩:=oc h hs hK;obtain ⟨e2,ek,ms,vs,q1,q2,q3,q4,hK⟩:=ih h1 hK;refine ⟨e2,ek,m::ms,v::vs,q1,h2.trans q2,?_,⟨v,vs,rfl,?_,q4⟩,hK⟩
   ·simp [List.mapM_cons,bA,q3]
   ·have:=h4.mono q2.on.φ;rw [<-q2.on.key] at this;exact this
  simp only [U0] at hK;cases x with
  |tmp t=>
   simp only at hK;have hs:=h.slot t;by_cases hb: ∃cs,al st.fr t= .box cs
   ·obtain ⟨cs,hb⟩:=hb;rw [hb] at hK;simp [mH] at hK
   ·refine go (al st.fr t) (a.tmps.getD t undef) ?_ rfl hK;generalize al st.fr t=s at hs hb;cases s<;>first|exact hs|exact absurd ⟨_,rfl⟩ hb
  |cell b t=>
   simp only at hK;have hs:=h.slot b;split at hK
   ·rename_i I cs hI hb;obtain ⟨HI,zY⟩:=aV hI;rw [hb] at hs;obtain ⟨hv,DE⟩:=hs;cases Ah:eI cs||zP b with
    |true=>simp [Ah] at hK
    |false=>
    obtain ⟨uL,hpb⟩:=adu.1 Ah;simp only [Ah,cond_false] at hK;have hv:=hv.1 hpb;rw [sS uL] at hv;obtain ⟨arr,T,ct,pG⟩:=DE.cells uL;have hm:w.rangeAt (e.B b) 0 arr.toList:=by intro j v hj;rw [aeK,cell_of ct];simpa using hj
    obtain ⟨v,s,h1,h2,h3,h4⟩:=iM (P:=P) (st:=st) (s:= .skip) (hT t I HI) zY pG hm hK;refine go s v h2 ?_ h4;simpa [gM,hv,asAddr,Instr.loadAt,Instr.sureAddr] using h1 w hm
   ·simp at hK
theorem I9 {key:Nat->Nat} {φ:Ph}{v:Value}{m:MV}(h:cV key φ v (.cell m)):False:=by have:=h.1;simp [MV.one] at this
theorem ah4 (off pos:Nat):zP (1000000+off *1000+pos)=true:=agk (by omega)
theorem Y1 {f pos:Nat}{ks:List LK}{fn:Func}{bR:List (List Kd)}{ms:List MV}{m:MV}(hG:Good P c)(hD:TZ P c)(hf:P.funcs[f]? =some fn)(Aj:(fn.name== "runtime.NumGoroutine")=false)
 (hn:c.n=fn.ntmps) (hnp:fn.ntmps<=1000000) (nM:fn.params.size+bR.length<=fn.ntmps) (hg:c.cR (c.key f)=true) (xG:c.sig (c.key f)=some (pos,ks)) (hb:Mi c bR pos ks fn ms=some m):fh P c f ms m:=by
 intro φ w Z vs hz dy iu;unfold Mi at hb;cases iN:fn.body with
 |none=>simp [iN] at hb
 |some b=>
 simp only [iN] at hb;split at hb;rotate_left
 ·simp at hb
 rename_i b' off ls G5 Ah;cases G5;cases mD:!ik c ks||!aed pos 999 with
 |true=>simp [mD] at hb
 |false=>
 simp only [mD,cond_false] at hb;simp only [adu,agx] at mD;obtain ⟨ig,eL⟩:=mD;have eL:=aaW eL;simp only [dz,hg,if_true] at dy;have hC:adF c Z φ w (c.key f) vs ms:=by
  rcases dy with ⟨v0,v1,v2,xs,m1,ys,_,rfl,_,h4,_⟩|⟨v0,v1,v2,xs,m1,m2,_,rfl,_,_,h4,h5⟩|h
  ·exfalso;rcases pos with _|_|_|pos<;>simp at Ah;subst Ah;exact I9 h4
  ·exfalso;rcases pos with _|_|_|pos<;>simp at Ah
   ·subst Ah;exact I9 h4
   ·subst Ah;exact I9 h5
  ·exact h
 obtain ⟨pos',ks',Pq,yX,aR,xy,hvp,aff,wC,pL⟩:=hC;rw [xG] at xy;simp only [AS,abj] at xy;obtain ⟨rfl,rfl⟩:=xy;rw [Ah] at aff;simp only [AS,MV.cell.injEq,MV.func.injEq] at aff;obtain ⟨rfl,rfl⟩:=aff;obtain ⟨cs,mm,E,arr,T,Ag,ct,hzb,ol,pG,fS,eJ⟩:=pL;let e:Env:=⟨c.key,φ,E,λ_=>aR,mm⟩
 have bA:(callFunc f vs.toArray).run P w= .ok (.enter f vs.toArray) w:=by
  have Ik: ¬fn.name= "runtime.NumGoroutine" :=by simpa using Aj
  simp [callFunc,hf,Ik,iN]
 unfold cm;rw [bA];refine calls_of_wp hf iN ?_;have wC:aY e.key e.φ vs (ms.set pos (.rp [])):=wC;obtain ⟨fr,rest,mX,uq,hb,rfl,l1,a2,k1,s1⟩:=GA wC hb;obtain ⟨pT,hb,l2,k2,s2⟩:=MG a2 hb;simp only [xp] at hb;obtain ⟨fL,ah5,A8,g1,hb⟩:=jT hb;cases ah5 with
 |cons=>simp [gN] at hb
 |nil=>
 simp only [gN] at hb;have jP:cs=fL/\mm=A8.aM:=by unfold Gq at Ag;rw [g1] at Ag;simp only [gN,AS,abj] at Ag;exact ⟨Ag.1.symm,Ag.2.symm⟩
 obtain ⟨rfl,hmm⟩:=jP;rw [<-hmm] at hb;have htn:(mX++uq).toArray.size=fn.params.size+bR.length:=by simp [l1,l2]
 let a:Act:={tmps:=(mX++uq).toArray++IN (fn.ntmps-(mX++uq).toArray.size) undef,defers:=[]}
 have Lg: ∀(t:Nat) (v:Value),(mX++uq)[t]? =some v->a.tmps.getD t undef=v:=by intro t v ht;have dO:t<(mX++uq).length:=(aba.1 ht).1;rw [abv];show (((mX++uq).toArray++IN _ undef)[t]?).getD undef=v;rw [Array.getElem?_append_left (by simpa using dO)];simp only [List.getElem?_toArray];rw [ht];rfl
 have IX: ∀t,dm (al (fr++pT) t)=false/\(∀cs,al (fr++pT) t≠ .box cs)/\aa e (a.tmps.getD t undef) (al (fr++pT) t):=by
  intro t;rw [zV];by_cases h1:t∈aK fr
  ·simp only [h1,if_true];obtain ⟨g1,g2,v,g3,g4⟩:=s1 _ (DN h1);refine ⟨g1,?_,?_⟩
   ·intro cs hc;simp only [hc,cO] at g2;cases g2
   ·rw [Lg t v ?_];exact g4;have dO:t<mX.length:=(aba.1 g3).1;rw [ae8 dO];exact g3
  ·simp only [h1,if_false];by_cases h2:t∈aK pT
   ·obtain ⟨g1,g2,v,g3,g4⟩:=s2 _ (DN h2);refine ⟨g1,g2,?_⟩;rw [Lg t v ?_];exact g4;have hk:=h2;rw [k2,agO] at hk;obtain ⟨i,hi,he⟩:=hk;have Ab:fn.params.size=mX.length:=by rw [l1];simp
    rw [aaY (by omega),<-Ab];exact g3
   ·rw [sH _ _ h2];exact ⟨rfl,λcs hc=>(by cases hc),by simp [aa]⟩
 obtain ⟨q,hq⟩: ∃q,q=1000000+off *1000+pos:=⟨_,rfl⟩
 have Sd:zP q=true:=by rw [hq];exact ah4 off pos
 have hpo:posOf q=pos:=by rw [hq];unfold posOf;omega
 have hof:Pj q=off:=by rw [hq];unfold Pj;omega
 rw [<-hq] at hb;let Zc:bu:={bu.plain Z with cu:=[pos],T:=λ_=> .pointer (some ⟨aR,off,none⟩)}
 have ah6:a.tmps.getD pos undef= .pointer (some ⟨aR,off,none⟩):=Lg pos _ hvp;have PS: ∀t,al ((q,Slot.box cs)::(fr++pT)) t=if t=q then .box cs else al (fr++pT) t:=by
  intro t;simp only [al,eY];by_cases VF:t=q
  ·subst VF;simp
  ·have: ¬q=t:=λh=>VF h.symm;simp [VF,this]
 have ah7:aK (fr++pT)=aho 0 (fn.params.toList.length+bR.length):=by
  have:aK (fr++pT)=aK fr++aK pT:=by simp [aK]
  rw [this,k1,k2];have:=List.range'_append_1 (s:=0) (m:=fn.params.toList.length) (n:=bR.length);simpa using this
 have adQ: ∀t ds,al ((q,Slot.box cs)::(fr++pT)) t= .box ds->t=q:=by
  intro t ds ht;rw [PS] at ht;by_cases VF:t=q
  ·exact VF
  ·rw [if_neg VF] at ht;exact absurd ht ((IX t).2.1 ds)
 have oJ:bO c Zc e ⟨[pos],[],(q,.box cs)::(fr++pT),mm⟩ a w:=by
  refine ⟨⟨rfl,rfl,rfl,λt ht=> ?_⟩,?_,rfl,rfl,?_,?_,?_,λf o ho=> ?_,λt t' cs fL h1 h2 df=> ?_,λt ds f o h1 ho=> ?_,λf f' o o' k h1 h2 h3 h4=>eJ f f' o o' k h1 h2 h3 h4,iu,hz⟩
  ·have:t=pos:=by simpa [Zc] using ht
   rw [this];exact ah6
  ·show ((mX++uq).toArray++IN (fn.ntmps-(mX++uq).toArray.size) undef).size=c.n;rw [agC,Array.size_replicate,htn,hn];omega
  ·show (aK ((q,Slot.box cs)::(fr++pT))).Nodup;show (q::aK (fr++pT)).Nodup;rw [ah7];refine ab4.2 ⟨λhm=> ?_,List.nodup_range'⟩;rw [agO] at hm;obtain ⟨i,hi,he⟩:=hm;have:fn.params.toList.length=fn.params.size:=by simp
   omega
  ·intro t;show bS Zc e w t _ (al ((q,Slot.box cs)::(fr++pT)) t);rw [PS];by_cases VF:t=q
   ·rw [if_pos VF,VF];exact ⟨⟨λhp=>(by rw [Sd] at hp;cases hp),λ_=>⟨by rw [hpo];simp [Zc],by rw [hof]⟩⟩,⟨.inr hzb,⟨_,ct,rfl,pG⟩,ol⟩⟩
   ·rw [if_neg VF];obtain ⟨g1,g2,g3⟩:=IX t;generalize al (fr++pT) t=s at g1 g2 g3;cases s<;>first|exact g3|exact absurd rfl (g2 _)
  ·intro t;show cy _ (al ((q,Slot.box cs)::(fr++pT)) t);rw [PS];by_cases VF:t=q
   ·rw [if_pos VF];trivial
   ·rw [if_neg VF];exact wB (IX t).1
  ·obtain ⟨I,cells,q1,q2,q3,q4,q5⟩:=(fS f o ho).1.row;exact ⟨I,cells,q1,q2,q3,q4,λb hb=>⟨.inr (q5 b hb).1,(q5 b hb).2.1,λhc=>by simp [Zc,bu.fz,bu.plain] at hc⟩⟩
  ·exact absurd ((adQ t _ h1).trans (adQ t' _ h2).symm) df
  ·exact (fS f o ho).2
 refine T0 hG hD b oJ hb ?_;intro n e' bT a' w' h' t' hK;cases hle:aed n 1 with
 |false=>simp [hle] at hK
 |true=>
  simp only [hle,cond_true] at hK;obtain ⟨e2,ek,ns,us,q1,q2,q3,q4,hK⟩:=VE (P:=P) hG.ti h' hK;split at hK;rotate_left
  ·simp at hK
  rename_i BE B4;cases Rf:eI BE with
  |true=>simp [Rf] at hK
  |false=>
  simp only [Rf,cond_false] at hK;obtain ⟨outs,ps,ht,hK⟩:=Cu hK;simp only [AS] at hK;have mP:(results fn a'.tmps).run P w'= .ok (if h:us.toArray.size=1 then us.toArray[0] else .tuple us.toArray) w':=by
   have hm:(fn.results.mapM (gM a'.tmps)).run P w'= .ok us.toArray w':=by rw [Array.mapM_eq_mapM_toList];simp [q3]
   have Rf:results fn a'.tmps=(do let vs<-fn.results.mapM (gM a'.tmps);pure (if h:vs.size=1 then vs[0] else .tuple vs)):=by unfold results;congr 1
   rw [Rf];simp [hm]
  have ah8:=q1.slot q;rw [B4] at ah8;obtain ⟨_,hT⟩:=ah8.1.2 Sd;have hB:e2.B q=aR:=by have hT:adA (some ⟨aR,off,none⟩)= .pointer (some ⟨e2.B q,Pj q,none⟩):=hT;simp only [ahr,AS,Addr.mk.injEq] at hT;exact hT.1.symm
  have ah9:bn ek.cu q=false:=by
   rw [q1.defers.2.1];cases hh:bn Zc.cu q with
   |false=>rfl
   |true=>
    have:=(bk _ _).1 hh;have:q=pos:=by simpa [Zc] using this
    omega
  have hco:=(Iz q1 B4 Rf ig ht).wide (DK q1 B4 ah9 ht);have TG:e2.key=c.key:=q1.key;have PZ: ∃φ',Trans Z φ w φ' w'/\mb φ' w'/\B5 c Z φ' w' (c.key f) (mX++uq) (if h:us.toArray.size=1 then us.toArray[0] else .tuple us.toArray) m:=by
   refine ⟨e2.φ,t'.trans q2.tr,q1.iK,?_⟩;rw [TG] at q4;subst hK;refine ⟨?_,pos,ks,aR,off,xG,hvp,by rw [<-hB];exact hco⟩;by_cases Yn: ∃m',ns=[m']
   ·obtain ⟨m',rfl⟩:=Yn;obtain ⟨v,u,rfl,g1,g2⟩:=q4;have g2:u=[]:=g2;subst g2;simp only [aaX,List.length_singleton,dite_true];cases m'<;>first|exact g1|exact absurd g1.1 (by simp [MV.one])
   ·have hm:ag1 ns= .bW ns:=by
     cases ns with
     |nil=>rfl
     |cons x l=>
      cases l with
      |nil=>exact absurd ⟨x,rfl⟩ Yn
      |cons=>rfl
    have df:us.toArray.size≠1:=by intro h1;have:=q4.length;rw [aaX] at h1;rw [h1] at this;obtain ⟨m1,h2⟩:=List.length_eq_one_iff.1 this.symm;exact Yn ⟨m1,h2⟩
    rw [hm,dif_neg df];exact NY.args (by simpa using q4)
  match n,hle with
  |0,_=>exact ⟨h'.defers.1,_,mP,_,rfl,PZ⟩
  |1,_=>exact ⟨h'.defers.1,_,mP,_,rfl,PZ⟩
  |n+2,hle=>simp [aed] at hle
end
end Dn
/-
  Operations whose order is open. Conditions: none.
-/
namespace Dn
open Go
section
variable {P:Program}{c:Ctx}{ops:Array Oper}{N:Act->World->Prop}
def oS (N:Act->World->Prop):Exit->Act->World->Prop
 | .normal,a,w=>N a w
 |_,_,_=>False
def oT (c:Ctx)(oi:Oper)(ops:Array Oper)(i:Nat):Bool:=match ops[i]? with|some o=>E0 c o||pI oi o|none=>true
def zq (P:Program)(c:Ctx)(ops:Array Oper)(N:Act->World->Prop) (φ:Ph):Nat->Array Bool->Act->World->Prop
 |0,listed,a,w=>AT .any ops listed=[]/\N a w
 |fuel+1,listed,a,w=>(AT .any ops listed=[]->N a w)/\ ∀i∈AT .any ops listed,wpOp P ops (oS N) i (λa' w'=>((∀oi,oT c oi ops i=true->eu c oi w w')/\mb φ w')/\zq P c ops N φ fuel (listed.setIfInBounds i true) a' w') a w
theorem VG {φ φ':Ph}(hp:fY φ φ'): ∀(fuel:Nat) (listed:Array Bool) (a:Act) (w:World),zq P c ops N φ' fuel listed a w->zq P c ops N φ fuel listed a w:=by
 intro fuel;induction fuel with
 |zero=>intro listed a w h;exact h
 |succ fuel ih=>intro listed a w h;exact ⟨h.1,λi hi=>wpOp_mono (λa w h=>⟨⟨h.1.1,λb o v hv=>h.1.2 b o v (hp b o v hv)⟩,ih _ _ _ h.2⟩) (h.2 i hi)⟩
theorem P6 {φ:Ph}: ∀(fuel:Nat) (listed:Array Bool) (a:Act) (w:World),zq P c ops N φ fuel listed a w->wpAny P .any ops (oS N) fuel listed a w:=by
 intro fuel;induction fuel with
 |zero=>intro listed a w h;exact h
 |succ fuel ih=>intro listed a w h;exact ⟨h.1,λi hi=>wpOp_mono (λa w h=>ih _ _ _ h.2) (h.2 i hi)⟩
theorem Sk {oi oj p:Oper} {w w':World}(h1:pI oi p=true)(h2:pI oj p=true)(h:eu c oi w w'):eu c oj w w':=by
 unfold pI at h1 h2;split at h1
 ·rename_i t t' g1 g2;split at h2
  ·rename_i u u' g3 g4;rw [g2] at g4;cases g4;have e1:=sh h1;have e2:=sh h2;subst e1;subst e2;simpa [eu,Sb,g1,g3] using h
  ·cases h2
 ·cases h1
theorem afg {j:Nat}{oi oj:Oper}{v:Value}(hj:ops[j]? =some oj)(wu:oi.apart ops oj=true)(hsi: ∀cs b,oi.op≠ .select cs b)(hsj: ∀cs b,oj.op≠ .select cs b){K:Act->World->Prop}{a:Act}{w:World}(h:wpOp P ops (oS N) j K (a.put oi.dst v) w): wpOp P ops (oS N) j (λa' w'=>(execOp a'.eval oi=execOp a.eval oi/\aas oi (yielded ops a'.tmps)=aas oi (yielded ops a.tmps))/\K (a'.put oi.dst v) w') a w:=by
 obtain ⟨h1,h2,h3⟩:=agj wu;have keep: ∀(a:Act) (u:Value),execOp (a.put oj.dst u).eval oi=execOp a.eval oi/\aas oi (yielded ops (a.put oj.dst u).tmps)=aas oi (yielded ops a.tmps):=λa u=>⟨execOp_put oi hsi a oj.dst u h3,wanted_put oi a oj.dst u h3⟩
 unfold wpOp at *;simp only [hj] at *;rw [wanted_put oj a oi.dst v h1] at h;split
 ·rename_i hw;simp only [hw,if_true] at h;rcases h with h|⟨aia,Y2⟩;case inr=>obtain ⟨_,_,hf⟩:=Y2;exact hf.elim
  refine .inl ?_;unfold aeM at *;rw [execOp_put oj hsj a oi.dst v h1] at h;generalize (execOp a.eval oj).run P w=r at *;cases r with
  |ok n w'=>
   cases n<;>simp only [aeQ] at h⊢;case value u=>exact ⟨keep a u,by rw [<-aa4 a v u h2];exact h⟩
   case skip=>exact ⟨keep a _,by rw [<-aa4 a v undef h2];exact h⟩
   case defer d=>refine ⟨keep _ _,?_⟩;rw [<-aa4 _ v undef h2,<-Act.put_defers];exact h
   case enter f args=>
    refine Calls.mono h λx Ba he=> ?_;cases x with
    |returned u=>exact ⟨keep a u,by rw [<-aa4 a v u h2];exact he⟩
    |panicked c=>exact he
    |outgrown=>exact he
   case row row args=>exact Rows.mono h λu Ba he=>⟨keep a u,by rw [<-aa4 a v u h2];exact he⟩
  |halt x w'=>cases x<;>simp only [aeQ] at h⊢;case panic u=>exact h
 ·rename_i hw;simp only [hw] at h;exact ⟨keep a _,by rw [<-aa4 a v undef h2];exact h⟩
def T4 (P:Program)(c:Ctx)(ops:Array Oper) (φ:Ph)(o:Oper)(v:Value)(a:Act)(w:World):Prop:=(aas o (yielded ops a.tmps)=true/\ ∀w',(jB c o=true->(still c o=false->eu c o w w')/\mb φ w')->(execOp a.eval o).run P w'= .ok (.value v) w')\/ (aas o (yielded ops a.tmps)=false/\v=undef)
theorem xJ {φ:Ph}{i:Nat}{oi:Oper}{v:Value}{D:List Nat}(hD: ∀j oj,j∈D->j≠i->ops[j]? =some oj-> ∃e∈oj.after,ady .any e=true/\e.on∈D)(hi:ops[i]? =some oi)(Lq: ∀(j:Nat)(o:Oper) cs b,ops[j]? =some o->o.op≠ .select cs b): ∀(fuel:Nat) (listed:Array Bool) (a:Act) (w:World),(∀j oj,ops[j]? =some oj->j∉D->j≠i->listed.getD j true=false->oi.apart ops oj=true/\(jB c oi=true->still c oi=false->oT c oi ops j=true))->(∀d∈D,listed.getD d false=false)-> i∈AT .any ops listed->T4 P c ops φ oi v a w->mb φ w-> zq P c ops N φ fuel (listed.setIfInBounds i true) (a.put oi.dst v) w->zq P c ops N φ (fuel+1) listed a w:=by
 have self: ∀(fuel:Nat) (listed:Array Bool) (a:Act) (w:World),T4 P c ops φ oi v a w->mb φ w->zq P c ops N φ fuel (listed.setIfInBounds i true) (a.put oi.dst v) w-> wpOp P ops (oS N) i (λa' w'=>((∀oi,oT c oi ops i=true->eu c oi w w')/\mb φ w')/\zq P c ops N φ fuel (listed.setIfInBounds i true) a' w') a w:=by
  intro fuel listed a w hy hm H;unfold wpOp;simp only [hi];rcases hy with ⟨hw,hv⟩|⟨hw,rfl⟩
  ·simp only [hw,if_true,aeM,hv w (λ_=>⟨λ_=>(cL.refl w).for,hm⟩),aeQ];exact .inl ⟨⟨λ_ _=>(cL.refl w).for,hm⟩,H⟩
  ·simp only [hw,IT,if_false];exact ⟨⟨λ_ _=>(cL.refl w).for,hm⟩,H⟩
 intro fuel;induction fuel with
 |zero=>
  intro listed a w _ _ hr hy hm H;refine ⟨λh=>(by rw [h] at hr;cases hr),λj hj=> ?_⟩;by_cases Y3:j=i
  ·subst Y3;exact self 0 listed a w hy hm H
  ·have:=ready_mono hj Y3;rw [H.1] at this;cases this
 |succ fuel ih=>
  intro listed a w ol Hb hr hy hm H;refine ⟨λh=>(by rw [h] at hr;cases hr),λj hj=> ?_⟩;by_cases Y3:j=i
  ·subst Y3;exact self (fuel+1) listed a w hy hm H
  ·have h1:=H.2 j (ready_mono hj Y3);obtain ⟨P7,oj,Sl,z7⟩:=mem_ready.1 hj;have hjD:j∉D:=by intro hjd;obtain ⟨e,he,hb,rT⟩:=hD j oj hjd Y3 Sl;have h1:=z7 e he hb;rw [Hb e.on rT] at h1;cases h1
   obtain ⟨wu,Pa⟩:=ol j oj Sl hjD Y3 P7;have h2:=afg Sl wu (λcs b=>Lq i oi cs b hi) (λcs b=>Lq j oj cs b Sl) h1;have aib: ∀d∈D,(listed.setIfInBounds j true).getD d false=false:=by intro d hd;rw [getD_set_ne false (λhe=>hjD (by rw [he];exact hd))];exact Hb d hd
   have afh: ∀k ok,ops[k]? =some ok->k∉D->k≠i->(listed.setIfInBounds j true).getD k true=false->oi.apart ops ok=true/\(jB c oi=true->still c oi=false->oT c oi ops k=true):=λk ok hk hkD hki hun=>by
    refine ol k ok hk hkD hki ?_;by_cases hjk:j=k
    ·subst hjk;exact P7
    ·rw [getD_set_ne true hjk] at hun;exact hun
   refine wpOp_mono (λa' w' h3=>⟨h3.2.1,ih (listed.setIfInBounds j true) a' w' afh aib (ready_mono hr (ahi Y3)) ?_ h3.2.1.2 ?_⟩) h2
   ·obtain ⟨⟨he,hwn⟩,⟨hg,_⟩,_⟩:=h3;rcases hy with ⟨hw,hv⟩|⟨hw,rfl⟩
    ·refine .inl ⟨by rw [hwn];exact hw,λBa TF=> ?_⟩;rw [he];exact hv Ba (λhl=>⟨λhs=>(hg oi (Pa hl hs)).trans ((TF hl).1 hs),(TF hl).2⟩)
    ·exact .inr ⟨by rw [hwn];exact hw,rfl⟩
   ·rw [afe _ _ Y3];exact h3.2.2
variable {Z:bu}{R:Type}{K:St->Option R}{r:R}
theorem VH (op:Op):RG op=op.operands.toList:=by
 cases op<;>first|rfl|simp [RG,Op.operands,Call.operands]
 all_goals first|rfl|(rename_i c;cases c.callee<;>simp)
theorem Y4 (l:List Operand):Pt l=l.filterMap λ| .tmp t=>some t|_=>none:=by
 induction l with
 |nil=>rfl
 |cons x l ih=>cases x<;>simp [Pt,ih]
theorem MO (o:Oper):NI ops.toList o=o.looksAt ops:=by
 unfold NI Oper.looksAt;rw [VH,Y4];congr 1;cases o.guard with
 |none=>rfl
 |some g=>obtain ⟨g,wnt⟩:=g;simp only [ad0];cases ops[g]? <;>rfl
theorem Bj {x y:Oper}(h:H5 ops.toList x y=true):x.apart ops y=true:=by
 unfold H5 at h;unfold Oper.apart;rw [MO,MO] at h;have hn: ∀(l:List Nat) (d:Nat),bn l d=l.contains d:=by intro l d;have:=bk l d;cases h1:bn l d<;>cases h2:l.contains d<;>simp_all
 cases hx:x.dst<;>cases hy:y.dst<;>simp_all [bne,eY]
theorem pX (e:Edge):H6 e=ady .any e:=by unfold H6 ady;cases e.ground<;>rfl
structure Xb (ops:Array Oper) (listed:Array Bool) (pre:List Nat):Prop where
 size:listed.size=ops.size
 mem: ∀i,i<ops.size->(listed.getD i true=true↔i∈pre)
theorem Xb.set {listed:Array Bool}{pre:List Nat}{x:Nat}(h:Xb ops listed pre)(hx:x<ops.size):Xb ops (listed.setIfInBounds x true) (x::pre):=by
 refine ⟨by simpa using h.size,λi hi=> ?_⟩;by_cases Hc:x=i
 ·subst Hc;have:x<listed.size:=by rw [h.size];exact hx
  simp [this]
 ·rw [getD_set_ne true Hc,h.mem i hi];simp only [By];exact ⟨.inr,λhh=>hh.resolve_left (λhe=>Hc he.symm)⟩
theorem Xb.oU {listed:Array Bool}{pre:List Nat}{i:Nat}(h:Xb ops listed pre)(hi:i<ops.size):listed.getD i true=false↔i∉pre:=by rw [<-h.mem i hi];cases listed.getD i true<;>simp
theorem Xb.done {listed:Array Bool}{pre:List Nat}{i:Nat}(h:Xb ops listed pre)(hi:i<ops.size):listed.getD i false=true↔i∈pre:=by
 rw [<-h.mem i hi];have hl:i<listed.size:=by rw [h.size];exact hi
 simp [hl]
theorem lG: ∀(rest pre:List Nat),qT c ops.toList pre rest=true-> ∀z∈rest,z∉pre:=by
 intro rest;induction rest with
 |nil=>intro pre _ z hz;cases hz
 |cons y rest ihr=>
  intro pre hd z hz;simp only [qT] at hd;cases hy:ops.toList[y]? with
  |none=>simp [hy] at hd
  |some oy=>
   simp only [hy,bB,OF] at hd;rcases By.1 hz with rfl|hz
   ·rw [<-bk,hd.1.1.1.2];simp
   ·exact λhzp=>ihr (y::pre) hd.2 z hz (by simp [hzp])
theorem vH {o:Oper}{x:Nat}: ∀(rest D0:List Nat),qS c ops.toList o D0 rest=true->(∀y,y∈D0->y≠x-> ∃p,ops[y]? =some p/\ ∃e∈p.after,ady .any e=true/\e.on∈D0)-> ∃D:List Nat,(∀y∈D0,y∈D)/\(∀y∈D,y∈D0\/y∈rest)/\(∀j oj,j∈D->j≠x->ops[j]? =some oj-> ∃e∈oj.after,ady .any e=true/\e.on∈D)/\ (∀y∈rest,y∉D-> ∃p,ops[y]? =some p/\o.apart ops p=true/\(jB c o=true->still c o=false->(E0 c p||pI o p)=true)):=by
 intro rest;induction rest with
 |nil=>intro D0 _ h0;refine ⟨D0,λy hy=>hy,λy hy=> .inl hy,λj oj hj df ho=> ?_,λy hy=>by cases hy⟩;obtain ⟨p,hp,he⟩:=h0 j hj df;rw [ho] at hp;cases hp;exact he
 |cons y rest ih=>
  intro D0 h h0;simp only [qS] at h;cases hy:ops.toList[y]? with
  |none=>simp [hy] at h
  |some p=>
   simp only [hy] at h;have hy':ops[y]? =some p:=by simpa using hy
   cases he:xm p (bn D0) with
   |true=>
    simp only [he,cond_true] at h;obtain ⟨D,D1,D2,D3,D4⟩:=ih (y::D0) h (by
     intro z hz df;rcases By.1 hz with rfl|hz
     ·unfold xm at he;obtain ⟨ed,VI,hb⟩:=afE.1 he;simp only [bB,pX] at hb;exact ⟨p,hy',ed,by simpa using VI,hb.1,by simp [(bk _ _).1 hb.2]⟩
     ·obtain ⟨q,hq,ed,h1,h2,h3⟩:=h0 z hz df;exact ⟨q,hq,ed,h1,h2,by simp [h3]⟩)
    refine ⟨D,λz hz=>D1 z (by simp [hz]),λz hz=> ?_,D3,λz hz hzD=> ?_⟩
    ·rcases D2 z hz with h1|h1
     ·rcases By.1 h1 with h1|h1
      ·exact .inr (by simp [h1])
      ·exact .inl h1
     ·exact .inr (by simp [h1])
    ·rcases By.1 hz with rfl|hz
     ·exact absurd (D1 z (by simp)) hzD
     ·exact D4 z hz hzD
   |false=>
    simp only [he,cond_false,bB,aeB,OF] at h;obtain ⟨⟨h1,h2⟩,h3⟩:=h;obtain ⟨D,D1,D2,D3,D4⟩:=ih D0 h3 h0;refine ⟨D,D1,λz hz=>(D2 z hz).imp id (λh=>by simp [h]),D3,λz hz hzD=> ?_⟩;rcases By.1 hz with rfl|hz
    ·refine ⟨p,hy',Bj h1,λhl hs=> ?_⟩;rcases h2 with ((h2|h2)|h2)|h2
     ·rw [hl] at h2;cases h2
     ·simp [h2]
     ·rw [hs] at h2;cases h2
     ·simp [h2]
    ·exact D4 z hz hzD
def bu.outs (Z:bu)(bs:List Nat):bu:={Z with In:=λb=>Z.In b/\b∉bs,Pr:=λb=>Z.Pr b/\b∉bs}
theorem bO.wD {Z Z':bu}{e:Env}{st:St}{a:Act}{w:World}(h:bO c Z e st a w)(hI: ∀b,Z.In b->Z'.In b)(hP: ∀b,Z.Pr b->Z'.Pr b)(h1:Z'.cu=Z.cu)(h2:Z'.cq=Z.cq)(h3:Z'.T=Z.T)(h4:Z'.cov=Z.cov):bO c Z' e st a w:=by
 refine ⟨by rw [h1,h2,h3];exact h.defers,h.size,h.m,h.key,h.nodup,λt=> ?_,h.root,λf o ho=> ?_,h.bb,h.bf,h.ff,h.iK,λb hb=>hI b (h.b7 b hb)⟩
 ·have hs:=h.slot t;generalize al st.fr t=s at hs;cases s<;>simp only [bS] at hs⊢ <;>first|exact hs|skip
  exact ⟨⟨hs.1.1,λhp=>by rw [h1,h3];exact hs.1.2 hp⟩,⟨by rcases hs.2.b7 with ⟨x,y⟩|x;exact .inl ⟨by rw [h1];exact x,hP _ y⟩;exact .inr (hI _ x),hs.2.obj,hs.2.free⟩⟩
 ·obtain ⟨I,cells,g1,g2,g3,g4,g5⟩:=(h.gG f o ho).row;refine ⟨I,cells,g1,g2,g3,g4,λaR hb=> ?_⟩;obtain ⟨k1,k2,k3⟩:=g5 aR hb;refine ⟨?_,k2,λhc hz j hj=>k3 (by have hc:f∈Z'.cq:=hc;rw [h2] at hc;exact hc) hz j hj⟩;rcases k1 with ⟨x,y⟩|x
  ·exact .inl ⟨by rw [h2];exact x,hP _ y⟩
  ·exact .inr (hI _ x)
theorem bO.narrow {e:Env}{st:St}{a:Act} {w w':World}{bs:List Nat}(h:bO c (Z.outs bs) e st a w)(g:cL w w')(hs:w.heap.size<w'.heap.size):bO c (Z.outs (w.heap.size::bs)) e st a w':=by
 have h':=h.grow g;have uo: ∀b,b<w.heap.size->(Z.outs bs).In b->(Z.outs (w.heap.size::bs)).In b:=λb hb hi=>⟨hi.1,by simp only [By,not_or];exact ⟨by omega,hi.2⟩⟩
 have WZ: ∀b,b<w.heap.size->(Z.outs bs).Pr b->(Z.outs (w.heap.size::bs)).Pr b:=λb hb hi=>⟨hi.1,by simp only [By,not_or];exact ⟨by omega,hi.2⟩⟩
 refine ⟨h'.defers,h'.size,h'.m,h'.key,h'.nodup,λt=> ?_,h'.root,λf o ho=> ?_,h'.bb,h'.bf,h'.ff,h'.iK,λb hb=> ?_⟩
 ·have hs:=h.slot t;have xy:=h'.slot t;generalize al st.fr t=s at hs xy;cases s<;>simp only [bS] at hs xy⊢ <;>first|exact xy|skip
  obtain ⟨o2,k1,_⟩:=hs.2.obj;have hl:=aN k1;exact ⟨xy.1,⟨by rcases xy.2.b7 with ⟨x,y⟩|x;exact .inl ⟨x,WZ _ hl y⟩;exact .inr (uo _ hl x),xy.2.obj,xy.2.free⟩⟩
 ·obtain ⟨I,cells,g1,g2,g3,g4,g5⟩:=(h'.gG f o ho).row;refine ⟨I,cells,g1,g2,g3,g4,λaR hb=> ?_⟩;obtain ⟨k1,k2,k3⟩:=g5 aR hb;refine ⟨?_,k2,k3⟩;have hl:aR<w.heap.size:=by
   obtain ⟨I',XS,l1,l2,l3,l4,l5⟩:=(h.gG f o ho).row;rcases l3.2 with ⟨hv,_⟩|⟨gg,cap,cT,hv,_,hg,_⟩
   ·rw [hv] at hb;simp [adX] at hb
   ·rw [hv] at hb;simp only [adX,AS] at hb;have:=aN hg;omega
  rcases k1 with ⟨x,y⟩|x
  ·exact .inl ⟨x,WZ _ hl y⟩
  ·exact .inr (uo _ hl x)
 ·refine ⟨(h.b7 b (by omega)).1,?_⟩;simp only [By,not_or];exact ⟨by omega,(h.b7 b (by omega)).2⟩
def vOf (b:Nat):Value:= .pointer (some ⟨b,0,none⟩)
def wE (ops:Array Oper)(i:Nat):Option Nat:=match ops[i]? with
 |some o=>o.dst
 |none=>none
def vI (ops:Array Oper):List (Nat×Nat)->Act->Act
 |[],a=>a
 |p::r,a=>(vI ops r a).put (wE ops p.1) (vOf p.2)
structure ab0 (c:Ctx) (Z:bu) (ops:Array Oper) (e:Env) (w:World) (p:Nat×Nat):Prop where
 row: ∃o t I d arr T,ops[p.1]? =some o/\Dw o=true/\o.op= .alloc t/\c.tv t=some I/\o.dst=some d/\w.heap[p.2]? =some (.cells arr T (0,0))/\ ∀e':Env,aw e' arr.toList I.zero
 free: ∀off,e.φ p.2 off=none
 b7:Z.In p.2
theorem Bk {o:Oper}(h:Dw o=true): ∃t d,o.op= .alloc t/\o.dst=some d/\o.guard=none/\ ∀e∈o.after,ady .any e=false:=by
 unfold Dw at h;split at h
 ·rename_i t d h1 h2 h3;refine ⟨t,d,h1,h2,h3,λe he=> ?_⟩;have:=aaR.1 h e (by simpa using he);simpa [pX] using this
 ·cases h
theorem Cw {t:TypeId}{I:TI}(hI:c.tv t=some I)(hT:fZ P c.ti): ∃i z,P.info? t=some i/\i.zero=some z/\ ∀e:Env,aw e z.cells.toList I.zero:=by
 obtain ⟨kR,hc⟩:=aV hI;obtain ⟨d,i,h1,h2,h3,h4⟩:=hT t I kR;suffices hz: ∃z,i.zero=some z/\ ∀e:Env,aw e z.cells.toList I.zero by obtain ⟨z,h5,h6⟩:=hz;exact ⟨i,z,h2,h5,h6⟩
 cases d<;>simp only [rU] at h4;case struct fs=>obtain ⟨_,_,_,_,_,_,cs,hz,hl,_⟩:=h4;exact ⟨_,hz,λe=>by simpa [agM] using lD hl⟩
 case tuple ts=>exact absurd hc h4.2.1
 case slice el=>obtain ⟨_,_,_,_,_,hz,hl,_⟩:=h4;exact ⟨_,hz,λe=>by rw [hl];exact ⟨[.slice none 0 0],[],rfl,rfl,rfl⟩⟩
 case array n el=>obtain ⟨_,_,_,_,_,_,_,hl,hz⟩:=h4;exact ⟨_,hz,λe=>by rw [hl];exact ⟨a8 kv.zero,[],by simp [agM],rfl,rfl⟩⟩
 case bool=>obtain ⟨_,_,_,_,hl,hz⟩:=h4;exact ⟨_,hz,λe=>by rw [hl];exact ⟨[.bool false],[],rfl,⟨rfl,.b _⟩,rfl⟩⟩
 case int k=>obtain ⟨_,_,_,_,hl,hz⟩:=h4;exact ⟨_,hz,λe=>by rw [hl];exact ⟨[.int k 0],[],rfl,⟨rfl,.i _ _⟩,rfl⟩⟩
 case string=>obtain ⟨_,_,_,_,hl,b,hz,hb⟩:=h4;refine ⟨_,hz,λe=>by rw [hl];refine ⟨[.string b],[],rfl,⟨rfl,?_⟩,rfl⟩;rw [<-hb];exact .s b⟩
 all_goals
  obtain ⟨_,_,_,_,v,hz,hv,hl⟩:=h4;refine ⟨v,hz,λe=> ?_⟩;have:v.cells.toList=[v]:=by cases v<;>simp_all [agM,Value.oneCell']
  rw [this];exact lD hl
theorem GD {o:Oper}(hs: ∀cs b,o.op≠ .select cs b)(a:Act): ∀(pd:List (Nat×Nat)),(∀p∈pd,∀d,wE ops p.1=some d->d∉o.looksAt ops)-> execOp (vI ops pd a).eval o=execOp a.eval o/\aas o (yielded ops (vI ops pd a).tmps)=aas o (yielded ops a.tmps)
 |[],_=>⟨rfl,rfl⟩
 |p::r,h=>by obtain ⟨h1,h2⟩:=GD hs a r (λq hq=>h q (by simp [hq]));have hp:=h p (by simp);exact ⟨(execOp_put o hs _ _ _ hp).trans h1,(wanted_put o _ _ _ hp).trans h2⟩
theorem DP (a:Act)(y:Option Nat)(v:Value): ∀(pd:List (Nat×Nat)),(∀p∈pd,∀d,wE ops p.1=some d->y≠some d)->(vI ops pd a).put y v=vI ops pd (a.put y v)
 |[],_=>rfl
 |p::r,h=>by simp only [vI];rw [aa4 _ _ _ (λd hd=>h p (by simp) d hd),DP a y v r (λq hq=>h q (by simp [hq]))]
theorem ab1 {j:Nat}{oj:Oper}{x:Option Nat}{v:Value}(hj:ops[j]? =some oj)(h1: ∀d,x=some d->d∉oj.looksAt ops)(h2: ∀d,x=some d->oj.dst≠some d)(hsj: ∀cs b,oj.op≠ .select cs b){K:Act->World->Prop}{a:Act}{w:World}(h:wpOp P ops (oS N) j K a w): wpOp P ops (oS N) j (λa' w'=> ∃a'',a'=a''.put x v/\K a'' w') (a.put x v) w:=by
 unfold wpOp at *;simp only [hj] at *;rw [wanted_put oj a x v h1];split
 ·rename_i hw;simp only [hw,if_true] at h;rcases h with h|⟨aia,Y2⟩;case inr=>obtain ⟨_,_,hf⟩:=Y2;exact hf.elim
  refine .inl ?_;unfold aeM at *;rw [execOp_put oj hsj a x v h1];generalize (execOp a.eval oj).run P w=r at *;cases r with
  |ok n w'=>
   cases n<;>simp only [aeQ] at h⊢;case value u=>exact ⟨_,aa4 a v u h2,h⟩
   case skip=>exact ⟨_,aa4 a v undef h2,h⟩
   case defer d=>refine ⟨{a.put oj.dst undef with defers:=d::(a.put oj.dst undef).defers},?_,by simpa [Act.put_defers] using h⟩;have:=aa4 a v undef h2;cases x<;>cases hd:oj.dst<;>simp_all [Act.put]
   case enter f args=>
    refine Calls.mono h λy Ba he=> ?_;cases y with
    |returned u=>exact ⟨_,aa4 a v u h2,he⟩
    |panicked c=>exact he
    |outgrown=>exact he
   case row row args=>exact Rows.mono h λu Ba he=>⟨_,aa4 a v u h2,he⟩
  |halt y w'=>cases y<;>simp only [aeQ] at h⊢;case panic u=>exact h
 ·rename_i hw;simp only [hw] at h;exact ⟨_,aa4 a v undef h2,h⟩
theorem T5 {j:Nat}{oj:Oper}(hj:ops[j]? =some oj)(hsj: ∀cs b,oj.op≠ .select cs b){K:Act->World->Prop}{a:Act}{w:World}(h:wpOp P ops (oS N) j K a w): ∀(pd:List (Nat×Nat)),(∀p∈pd,∀d,wE ops p.1=some d->d∉oj.looksAt ops/\oj.dst≠some d)->wpOp P ops (oS N) j (λa' w'=> ∃a'',a'=vI ops pd a''/\K a'' w') (vI ops pd a) w
 |[],_=>wpOp_mono (λa' w' hk=>⟨a',rfl,hk⟩) h
 |p::r,hp=>by have h1:=T5 hj hsj h r (λq hq=>hp q (by simp [hq]));have h2:=ab1 (v:=vOf p.2) hj (λd hd=>(hp p (by simp) d hd).1) (λd hd=>(hp p (by simp) d hd).2) hsj h1;refine wpOp_mono ?_ h2;rintro a' w' ⟨a1,rfl,a2,rfl,hk⟩;exact ⟨a2,rfl,hk⟩
theorem Fj: ∀{l m:List Nat},l.Nodup->(∀x∈l,x∈m)->l.length<=m.length
 |[],m,_,_=>adL _
 |x::l,m,hn,hs=>by have hn:=ab4.1 hn;have h1:l.length<=(m.erase x).length:=Fj hn.2 λy hy=>(List.mem_erase_of_ne (λhe=>hn.1 (by rw [<-he];exact hy))).2 (hs y (by simp [hy]));have h2:=List.length_erase_of_mem (hs x (by simp));have h3:0<m.length:=List.length_pos_of_mem (hs x (by simp));simp only [aaV];omega
theorem P8 {x b:Nat}{o:Oper}(hdo:wE ops x=o.dst)(a:Act)(pr:List (Nat×Nat)): ∀(pl:List (Nat×Nat)),(∀p∈pl++pr,∀dd,wE ops p.1=some dd->o.dst≠some dd)->vI ops (pl++(x,b)::pr) a=vI ops (pl++pr) (a.put o.dst (vOf b))
 |[],h=>by simp only [abZ,vI,hdo];exact DP a o.dst (vOf b) pr (λp hp=>h p (by simp [hp]))
 |q::pl,h=>by simp only [abi,vI];rw [P8 hdo a pr pl (λp hp=>h p (by simp only [abi,By];exact .inr hp))]
theorem Xb.congr {listed:Array Bool} {l l':List Nat}(h:Xb ops listed l)(he: ∀i,i∈l↔i∈l'):Xb ops listed l':=⟨h.size,λi hi=>by rw [h.mem i hi,he]⟩
theorem P9 {o:Oper}: ∀(rest D:List Nat),qS c ops.toList o D rest=true-> ∀y∈rest,∀p,ops[y]? =some p->Dw p=true->o.apart ops p=true:=by
 intro rest;induction rest with
 |nil=>intro D _ y hy;cases hy
 |cons z rest ih=>
  intro D h y hy p hp Ha;simp only [qS] at h;cases hz:ops.toList[z]? with
  |none=>simp [hz] at h
  |some q=>
   simp only [hz] at h;cases he:xm q (bn D) with
   |true=>
    simp only [he,cond_true] at h;rcases By.1 hy with rfl|hy
    ·exfalso;have hz':ops[y]? =some q:=by simpa using hz
     rw [hz'] at hp;cases hp;obtain ⟨_,_,_,_,_,df⟩:=Bk Ha;unfold xm at he;obtain ⟨ed,VI,hb⟩:=afE.1 he;simp only [bB,pX] at hb;rw [df ed (by simpa using VI)] at hb;exact absurd hb.1 (by simp)
    ·exact ih _ h y hy p hp Ha
   |false=>
    simp only [he,cond_false,bB] at h;rcases By.1 hy with rfl|hy
    ·have hz':ops[y]? =some q:=by simpa using hz
     rw [hz'] at hp;cases hp;exact Bj h.1.1
    ·exact ih _ h.2 y hy p hp Ha
theorem Ja {o p:Oper}{y:Nat}(hp:ops[y]? =some p)(h:p.apart ops o=true\/o.apart ops p=true): ∀d,wE ops y=some d->d∉o.looksAt ops/\o.dst≠some d:=by
 intro d hd;have hd:p.dst=some d:=by simpa [wE,hp] using hd
 rcases h with h|h
 ·obtain ⟨h1,h2,h3⟩:=agj h;exact ⟨h1 d hd,h2 d hd⟩
 ·obtain ⟨h1,h2,h3⟩:=agj h;exact ⟨h3 d hd,λhe=>h2 d he hd⟩
theorem ab0.later {Z:bu}{bs:List Nat} {e e':Env} {w w':World}{p:Nat×Nat}(h:ab0 c Z ops e w p)(hb:p.2∈bs)(t:Trans (Z.outs bs).In e.φ w e'.φ w'):ab0 c Z ops e' w' p:=by obtain ⟨o,ty,I,d,arr,T,h1,h2,h3,h4,h5,h6,h7⟩:=h.row;have hn: ¬(Z.outs bs).In p.2:=λhh=>hh.2 hb;exact ⟨⟨o,ty,I,d,arr,T,h1,h2,h3,h4,h5,by rw [t.heap _ hn (aN h6)];exact h6,h7⟩,λoff=>by rw [t.free _ off hn];exact h.free off,h.b7⟩
theorem Trans.wide {Z Z':Nat->Prop} {φ φ':Ph} {w w':World}(t:Trans Z φ w φ' w')(h: ∀b,Z b->Z' b):Trans Z' φ w φ' w':=⟨t.ph,λb hb hl=>t.heap b (λhz=>hb (h b hz)) hl,λb o hb=>t.free b o (λhz=>hb (h b hz)),t.size,t.rest⟩
theorem ab2 (hG:Good P c)(Lq: ∀(j:Nat)(o:Oper) cs b,ops[j]? =some o->o.op≠ .select cs b) {φ0:Ph}{w0:World}(hN: ∀a' w',Out c Z K r φ0 w0 a' w'->N a' w'): ∀(m:Nat) (rest pre:List Nat) (pd:List (Nat×Nat)) (l:List Oper) (listed:Array Bool) (e:Env) (st:St) (a:Act) (w:World),2 *rest.length-pd.length<=m->bO c (Z.outs (pd.map (·.2))) e st a w->BB c ops.toList l st K=some r->Trans Z.In φ0 w0 e.φ w->qv ops.toList rest=some l-> qT c ops.toList pre rest=true->Xb ops listed (pd.map (·.1)++pre)->(∀i,i<ops.size->i∈pre\/i∈rest)->(∀i∈pre,i<ops.size)->(∀p∈pd,p.1∈rest)->(pd.map (·.1)).Nodup->(pd.map (·.2)).Nodup->(∀p∈pd,ab0 c Z ops e w p)-> pd.length<=rest.length->zq P c ops N e.φ (rest.length-pd.length) listed (vI ops pd a) w:=by
 intro m;induction m with
 |zero=>
  intro rest pre pd l listed e st a w hm h hK ht hp hd hL z7 Y5 WZ K9 Ik WW hle;cases rest with
  |cons x rest=>simp only [aaV] at hm hle;omega
  |nil=>
   cases pd with
   |cons p pd=>simp at hle
   |nil=>
    cases hp;have h':bO c Z e st a w:=h.wD (λb hb=>hb.1) (λb hb=>hb.1) rfl rfl rfl rfl;refine ⟨?_,hN a w ⟨e,st,h',ht,hK⟩⟩;cases hr:AT .any ops listed with
    |nil=>rfl
    |cons i is=>
     have hi:i∈AT .any ops listed:=by rw [hr];simp
     obtain ⟨h1,o,ho,_⟩:=mem_ready.1 hi;have dO:i<ops.size:=(abD.1 ho).1;exact absurd (by simpa using (z7 i dO).resolve_right (by simp)) ((hL.oU dO).1 h1)
 |succ m ihm=>
  intro rest pre pd l listed e st a w hm h hK ht hp hd hL z7 Y5 WZ K9 Ik WW hle;cases rest with
  |nil=>
   cases pd with
   |cons p pd=>simp at hle
   |nil=>exact ihm [] pre [] l listed e st a w (by simp) h hK ht hp hd hL z7 Y5 WZ K9 Ik WW hle
  |cons x rest=>
   simp only [qv] at hp;cases hox:ops.toList[x]? with
   |none=>simp [hox] at hp
   |some o=>
    cases hpk:qv ops.toList rest with
    |none=>simp [hox,hpk] at hp
    |some l'=>
     simp only [hox,hpk,AS] at hp;subst hp;have hx:ops[x]? =some o:=by simpa using hox
     have Sn:x<ops.size:=(abD.1 hx).1;have hd0:=hd;simp only [qT,hox] at hd;simp only [bB,OF] at hd;obtain ⟨⟨⟨⟨d1,d2⟩,d3⟩,d4⟩,d5⟩:=hd;have Ak:x∉pre:=by rw [<-bk,d2];simp
     have Jb:x∉rest:=by rw [<-bk,d3];simp
     have T6: ∀i,i<ops.size->i∈x::pre\/i∈rest:=by
      intro i hi;rcases z7 i hi with h1|h1
      ·exact .inl (by simp [h1])
      ·rcases By.1 h1 with h1|h1
       ·exact .inl (by simp [h1])
       ·exact .inr h1
     have adT: ∀i∈x::pre,i<ops.size:=by
      intro i hi;rcases By.1 hi with rfl|hi
      ·exact Sn
      ·exact Y5 i hi
     have afj:=hK;simp only [BB] at hK;have Y6: ∀p∈pd,∃q,ops[p.1]? =some q/\Dw q=true:=λp hp=>by obtain ⟨q,_,_,_,_,_,h1,h2,_⟩:=(WW p hp).row;exact ⟨q,h1,h2⟩
     unfold Tx at hK;obtain ⟨bT,go,h',hK,hw⟩:=PU h hK;have adU: ∀cs b,o.op≠ .select cs b:=λcs b=>Lq x o cs b hx;by_cases hxp:x∈pd.map (·.1)
     ·
      obtain ⟨⟨x',b⟩,hpx,hxe⟩:=aaZ.1 hxp;have hxe:x'=x:=hxe;subst hxe;obtain ⟨o',t,I,d,arr,T,k1,k2,k3,k4,k5,k6,k7⟩:=(WW _ hpx).row;rw [hx] at k1;cases k1;obtain ⟨_,_,_,_,hgn,df⟩:=Bk k2;have hgo:go=true:=by rw [<-hw];simp [aas,hgn]
      subst hgo;have K8:(dY o&&!dX c o)=false:=by simp [dY,k3]
      simp only [K8,cond_false] at d4;obtain ⟨pl,pr,rfl⟩:=List.append_of_mem hpx;have hbn:b∉(pl++pr).map (·.2):=by have:((pl++(x',b)::pr).map (·.2)).Nodup:=Ik;simp only [adE,aeg,agD,ab4,By] at this;simp only [adE,aa9,not_or];exact ⟨λhm=>this.2.2 b hm b (by simp) rfl,this.2.1.1⟩
      have hxn:x'∉(pl++pr).map (·.1):=by have:((pl++(x',b)::pr).map (·.1)).Nodup:=K9;simp only [adE,aeg,agD,ab4,By] at this;simp only [adE,aa9,not_or];exact ⟨λhm=>this.2.2 x' hm x' (by simp) rfl,this.2.1.1⟩
      have Qa: ∀p∈pl++pr,p∈pl++(x',b)::pr:=λp hp=>by
       simp only [aa9,By] at hp⊢;rcases hp with hp|hp
       ·exact .inl hp
       ·exact .inr (.inr hp)
      have oJ:bO c (Z.outs ((pl++pr).map (·.2))) e bT a w:=by
       refine h'.wD (λu hu=>⟨hu.1,λhm=>hu.2 ?_⟩) (λu hu=>⟨hu.1,λhm=>hu.2 ?_⟩) rfl rfl rfl rfl<;>
       ·obtain ⟨p,hp,rfl⟩:=aaZ.1 hm;exact aaZ.2 ⟨p,Qa p hp,rfl⟩
      have ab3:b∈(pl++(x',b)::pr).map (·.2):=by simp
      have mL:rq (Z.outs ((pl++pr).map (·.2))) e w bT (vOf b) (.box I.zero):=by
       refine ⟨b,by rw [sS (k7 e).zZ];rfl,⟨⟨(WW _ hpx).b7,hbn⟩,⟨_,k6,rfl,k7 e⟩,(WW _ hpx).free⟩,λt' fL Co EQ=> ?_,λf o' Cn EQ=> ?_⟩
       ·have hs:=h'.slot t';rw [Co] at hs;rcases hs.2.b7 with ⟨_,u⟩|u
        ·exact u.2 (by rw [EQ];exact ab3)
        ·exact u.2 (by rw [EQ];exact ab3)
       ·obtain ⟨I',cells,g1,g2,g3,g4,g5⟩:=(h'.gG f o' Cn).row;rcases (g5 b EQ).1 with ⟨_,u⟩|u
        ·exact u.2 ab3
        ·exact u.2 ab3
      simp only [cond_true,opK,k3,k4] at hK;obtain ⟨e2,ek,j1,j2,j3⟩:=cP oJ mL hK;have afk:vI ops (pl++(x',b)::pr) a=vI ops (pl++pr) (a.put o.dst (vOf b)):=by
       have wu: ∀p∈pl++pr,∀dd,wE ops p.1=some dd->o.dst≠some dd:=by
        intro p hp dd hdd;obtain ⟨q,hq,Ha⟩:=Y6 p (Qa p hp);have So:p.1∈rest:=by
         rcases By.1 (WZ p (Qa p hp)) with he|he
         ·exact absurd (aaZ.2 ⟨p,hp,he⟩) hxn
         ·exact he
        have:=aaR.1 d4 p.1 So;have hq':ops.toList[p.1]? =some q:=by simpa using hq
        simp only [hq',Ha,cond_true,bB] at this;exact (Ja hq (.inl (Bj this.1)) dd hdd).2
       exact P8 (by simp [wE,hx]) a pr pl wu
      rw [afk,<-j3];have hlen:(x'::rest).length-(pl++(x',b)::pr).length=rest.length-(pl++pr).length:=by simp only [aaV,BY];omega
      rw [hlen];refine ihm rest (x'::pre) (pl++pr) l' listed e2 ek _ w ?_ j1 j2 (by rw [j3];exact ht) hpk d5 ?_ T6 adT ?_ ?_ ?_ ?_ ?_
      ·simp only [aaV,BY] at hm⊢;omega
      ·refine hL.congr (λi=> ?_);simp only [adE,aeg,aa9,By];constructor
       ·rintro ((h1|h1|h1)|h1)
        ·exact .inl (.inl h1)
        ·exact .inr (.inl h1)
        ·exact .inl (.inr h1)
        ·exact .inr (.inr h1)
       ·rintro ((h1|h1)|h1|h1)
        ·exact .inl (.inl h1)
        ·exact .inl (.inr (.inr h1))
        ·exact .inl (.inr (.inl h1))
        ·exact .inr h1
      ·intro p hp;rcases By.1 (WZ p (Qa p hp)) with he|he
       ·exact absurd (aaZ.2 ⟨p,hp,he⟩) hxn
       ·exact he
      ·have:((pl++(x',b)::pr).map (·.1)).Nodup:=K9;refine List.Nodup.sublist ?_ this;exact List.Sublist.map _ (afi (afN _ _) pl)
      ·have:((pl++(x',b)::pr).map (·.2)).Nodup:=Ik;refine List.Nodup.sublist ?_ this;exact List.Sublist.map _ (afi (afN _ _) pl)
      ·intro p hp;obtain ⟨q1,q2,q3⟩:=WW p (Qa p hp);exact ⟨q1,λoff=>by rw [j3];exact q2 off,q3⟩
      ·simp only [aaV,BY] at hle⊢;omega
     ·have So: ∀p∈pd,p.1∈rest:=λp hp=>by
       rcases By.1 (WZ p hp) with he|he
       ·exact absurd (aaZ.2 ⟨p,hp,he⟩) hxp
       ·exact he
      have hlr:pd.length<=rest.length:=by have h1:(pd.map (·.1)).length<=rest.length:=Fj K9 (λi hi=>by obtain ⟨p,hp,rfl⟩:=aaZ.1 hi;exact So p hp);simpa using h1
      have aif:(x::rest).length-pd.length=(rest.length-pd.length)+1:=by simp only [aaV];omega
      rw [aif];have hun:x∉pd.map (·.1)++pre:=by simp only [aa9,not_or];exact ⟨hxp,Ak⟩
      have s7:x∈AT .any ops listed:=by refine mem_ready.2 ⟨(hL.oU Sn).2 hun,o,hx,λed VI hb=> ?_⟩;have:=aaR.1 d1 ed (by simpa using VI);simp only [pX,hb,afd,agu] at this;have hm:=(bk _ _).1 this;exact (hL.done (Y5 _ hm)).2 (by simp [hm])
      have next: ∀(e':Env) (ek:St) (a':Act) (w':World),bO c (Z.outs (pd.map (·.2))) e' ek a' w'->Trans (Z.outs (pd.map (·.2))).In e.φ w e'.φ w'->BB c ops.toList l' ek K=some r->zq P c ops N e.φ (rest.length-pd.length) (listed.setIfInBounds x true) (vI ops pd a') w':=by
       intro e' ek a' w' h1 t1 rV;refine VG t1.ph _ _ _ _ ?_;refine ihm rest (x::pre) pd l' _ e' ek a' w' ?_ h1 rV (ht.trans (t1.wide λb hb=>hb.1)) hpk d5 ((hL.set Sn).congr λi=> ?_) T6 adT So K9 Ik (λp hp=>(WW p hp).later (aaZ.2 ⟨p,hp,rfl⟩) t1) hlr
       ·simp only [aaV] at hm;omega
       ·simp only [By,aa9];constructor
        ·rintro (h1|h1|h1)
         ·exact .inr (.inl h1)
         ·exact .inl h1
         ·exact .inr (.inr h1)
        ·rintro (h1|h1|h1)
         ·exact .inr (.inl h1)
         ·exact .inl h1
         ·exact .inr (.inr h1)
      cases K8:dY o&&!dX c o with
      |true=>
       simp only [K8,cond_true] at d4;have wu: ∀p∈pd,∀dd,wE ops p.1=some dd->dd∉o.looksAt ops/\o.dst≠some dd:=by intro p hp;obtain ⟨q,hq,Ha⟩:=Y6 p hp;exact Ja hq (.inr (P9 rest [x] d4 p.1 (So p hp) q hq Ha))
       obtain ⟨hex,hwn⟩:=GD adU a pd (λp hp d hd=>(wu p hp d hd).1);obtain ⟨D,D1,D2,D3,D4⟩:=vH rest [x] d4 (λy hy df=>absurd (by simpa using hy) df);have ol: ∀j oj,ops[j]? =some oj->j∉D->j≠x->listed.getD j true=false->o.apart ops oj=true/\(jB c o=true->still c o=false->oT c o ops j=true):=by
        intro j oj Sl hjD hjx P7;have Qb:j<ops.size:=(abD.1 Sl).1;have hjr:j∈rest:=by
         rcases T6 j Qb with h1|h1
         ·rcases By.1 h1 with h1|h1
          ·exact absurd h1 hjx
          ·exact absurd (by simp [h1]) ((hL.oU Qb).1 P7)
         ·exact h1
        obtain ⟨p,U8,KT,hp3⟩:=D4 j hjr hjD;rw [Sl] at U8;cases U8;exact ⟨KT,λhl hs=>by simp [oT,Sl,hp3 hl hs]⟩
       have Hb: ∀d∈D,listed.getD d false=false:=by
        have ame: ∀p∈pd,p.1∉D:=by intro p hp hpD;obtain ⟨q,hq,Ha⟩:=Y6 p hp;obtain ⟨ed,VI,hb,_⟩:=D3 p.1 q hpD (λhe=>hxp (aaZ.2 ⟨p,hp,he⟩)) hq;obtain ⟨_,_,_,_,_,df⟩:=Bk Ha;rw [df ed VI] at hb;cases hb
        intro d hd;have hdn:d∉pd.map (·.1)++pre:=by
         simp only [aa9,not_or];constructor
         ·intro hm;obtain ⟨p,hp,rfl⟩:=aaZ.1 hm;exact ame p hp hd
         ·rcases D2 d hd with h1|h1
          ·have h1:d=x:=by simpa using h1
           rw [h1];exact Ak
          ·exact λhp=>lG rest (x::pre) d5 d h1 (by simp [hp])
        by_cases Rj:d<ops.size
        ·cases hg:listed.getD d false with
         |false=>rfl
         |true=>exact absurd ((hL.done Rj).1 hg) hdn
        ·have hl: ¬d<listed.size:=by rw [hL.size];exact Rj
         simp [hl]
       cases go with
       |true=>simp only [cond_true] at hK;obtain ⟨v,hv,e2,ek,k1,k2,k3⟩:=(Sc (Q:=oS N) hG h' hK).alT (by simp only [bB] at K8;exact K8.1) (by simp only [bB,OF] at K8;exact K8.2);refine xJ D3 hx Lq (rest.length-pd.length) listed _ w ol Hb s7 (.inl ⟨by rw [hwn];exact hw,λw' hg=>by rw [hex];exact hv w' hg⟩) h.iK ?_;rw [DP a o.dst v pd (λp hp d hd=>(wu p hp d hd).2)];exact next e2 ek _ w k1 k2 k3
       |false=>simp only [cond_false] at hK;obtain ⟨e2,ek,k1,k2,k3⟩:=cP (v:=undef) (s:= .skip) h' ⟨rfl,trivial⟩ hK;refine xJ D3 hx Lq (rest.length-pd.length) listed _ w ol Hb s7 (.inr ⟨by rw [hwn];exact hw,rfl⟩) h.iK ?_;rw [DP a o.dst undef pd (λp hp d hd=>(wu p hp d hd).2)];exact next e2 ek _ w k1 (by rw [k3];exact .refl _ _ _) k2
      |false=>
       simp only [K8,cond_false] at d4;have wu: ∀p∈pd,∀dd,wE ops p.1=some dd->dd∉o.looksAt ops/\o.dst≠some dd:=by
        intro p hp;obtain ⟨q,hq,Ha⟩:=Y6 p hp;have:=aaR.1 d4 p.1 (So p hp);have hq':ops.toList[p.1]? =some q:=by simpa using hq
        simp only [hq',Ha,cond_true,bB] at this;exact Ja hq (.inl (Bj this.1))
       refine ⟨λSa=>(by rw [Sa] at s7;cases s7),λi hi=> ?_⟩;obtain ⟨amf,oi,VJ,Sp⟩:=mem_ready.1 hi;have VK:i<ops.size:=(abD.1 VJ).1;have uo:=(hL.oU VK).1 amf;simp only [aa9,not_or] at uo;by_cases Hc:i=x
       ·subst Hc;rw [hx] at VJ;cases VJ;have oJ:wpOp P ops (oS N) i (λa' w'=>(∀oi,oT c oi ops i=true->eu c oi w w')/\ ∃e2 ek,bO c (Z.outs (pd.map (·.2))) e2 ek a' w'/\Trans (Z.outs (pd.map (·.2))).In e.φ w e2.φ w'/\BB c ops.toList l' ek K=some r) a w:=by
         unfold wpOp;simp only [hx];rw [hw];cases go with
         |true=>
          simp only [cond_true] at hK;simp only [if_true];left;have hd:=Sc (Q:=oS N) hG h' hK;cases Pa:E0 c o with
          |true=>simp only [E0,aeB] at Pa;refine aeN ?_ (hd.alU Pa);rintro a' w' ⟨hg,e2,ek,k1,k2,k3⟩;exact ⟨λ_ _=>hg.for,e2,ek,k1,k2,k3⟩
          |false=>
           by_cases hme: ∃oi,pI oi o=true
           ·obtain ⟨oi0,hme⟩:=hme;refine aeN ?_ (ahJ (Q:=oS N) hG h' hK hme);rintro a' w' ⟨hg,e2,ek,k1,k2,k3⟩;refine ⟨λoi hh=> ?_,e2,ek,k1,k2,k3⟩;have VJ:pI oi o=true:=by simpa [oT,hx,Pa] using hh
            exact Sk hme VJ hg
           ·refine aeN ?_ hd.wp;rintro a' w' ⟨e2,ek,k1,k2,k3⟩;exact ⟨λoi hh=>absurd ⟨oi,by simpa [oT,hx,Pa] using hh⟩ hme,e2,ek,k1,k2,k3⟩
         |false=>simp only [cond_false] at hK;simp only [IT,if_false];obtain ⟨e2,ek,k1,k2,k3⟩:=cP (v:=undef) (s:= .skip) h' ⟨rfl,trivial⟩ hK;exact ⟨λ_ _=>(cL.refl w).for,e2,ek,k1,by rw [k3];exact .refl _ _ _,k2⟩
        refine wpOp_mono ?_ (T5 hx adU oJ pd wu);rintro a' w' ⟨a2,rfl,hg,e2,ek,k1,k2,k3⟩;exact ⟨⟨hg,λb o v hv=>k1.iK b o v (k2.ph b o v hv)⟩,next e2 ek a2 w' k1 k2 k3⟩
       ·have hir:i∈rest:=by
         rcases T6 i VK with h1|h1
         ·rcases By.1 h1 with h1|h1
          ·exact absurd h1 Hc
          ·exact absurd h1 uo.2
         ·exact h1
        have Sq:=aaR.1 d4 i hir;have afl:ops.toList[i]? =some oi:=by simpa using VJ
        simp only [afl] at Sq;cases Ha:Dw oi with
        |false=>
         exfalso;simp only [Ha,cond_false] at Sq;unfold xm at Sq;obtain ⟨ed,VI,hb⟩:=afE.1 Sq;simp only [bB,pX,aeB,OF] at hb;obtain ⟨ul,sW⟩:=hb;have MP:=Sp ed (by simpa using VI) ul;have Fa:ed.on∉pd.map (·.1)++pre:=by
          rcases sW with sW|⟨sW,hb3⟩
          ·rw [sh sW];exact hun
          ·simp only [aa9,not_or];refine ⟨λhm=> ?_,λhp=>lG rest (x::pre) d5 _ ((bk _ _).1 sW) (by simp [hp])⟩;obtain ⟨p,hp,he⟩:=aaZ.1 hm;obtain ⟨q,hq,hqa⟩:=Y6 p hp;have hq':ops.toList[ed.on]? =some q:=by rw [<-he];simpa using hq
           simp [aet,hq',hqa] at hb3
         by_cases rT:ed.on<ops.size
         ·exact Fa ((hL.done rT).1 MP)
         ·have:listed.getD ed.on false=false:=by
           have hl: ¬ed.on<listed.size:=by rw [hL.size];exact rT
           simp [hl]
          rw [this] at MP;cases MP
        |true=>
         obtain ⟨t,d,q1,q2,q3,q4⟩:=Bk Ha;have hI: ∃I,c.tv t=some I:=by
          simp only [Ha,cond_true,bB,aes,q1] at Sq;cases htv:c.tv t with
          |none=>rw [htv] at Sq;exact absurd Sq.2 (by simp)
          |some I=>exact ⟨I,rfl⟩
         obtain ⟨I,hI⟩:=hI;obtain ⟨inf,z,hz1,XK,hz3⟩:=Cw hI hG.ti;have hg:cL w (w.alloc (.cells z.cells t)):= .alloc w _ _;unfold wpOp;simp only [VJ];have hwn:aas oi (yielded ops (vI ops pd a).tmps)=true:=by simp [aas,q3]
         simp only [hwn,if_true];left;have bA:(execOp (vI ops pd a).eval oi).run P w= .ok (.value (vOf w.heap.size)) (w.alloc (.cells z.cells t)):=by simp [execOp,q1,Instr.alloc,zeroValue,typeInfo,hz1,XK,newVar,newRow,newObj,Sem.run,vOf]
         unfold aeM;rw [bA];simp only [aeQ];refine ⟨⟨λ_ _=>hg.for,(h.grow hg).iK⟩,?_⟩;have nM:w.heap.size<(w.alloc (.cells z.cells t)).heap.size:=by simp
         have amg: ∀p∈pd,p.2<w.heap.size:=λp hp=>by obtain ⟨_,_,_,_,_,_,_,_,_,_,_,k6,_⟩:=(WW p hp).row;exact aN k6
         have afk:(vI ops pd a).put oi.dst (vOf w.heap.size)=vI ops ((i,w.heap.size)::pd) a:=by simp [vI,wE,VJ]
         rw [afk];have dO:pd.length<rest.length:=by
          have h1:(i::pd.map (·.1)).length<=rest.length:=by
           refine Fj (ab4.2 ⟨uo.1,K9⟩) ?_;intro j hj;rcases By.1 hj with rfl|hj
           ·exact hir
           ·obtain ⟨p,hp,rfl⟩:=aaZ.1 hj;exact So p hp
          simp only [aaV,List.length_map] at h1;omega
         have B4:rest.length-pd.length=(x::rest).length-((i,w.heap.size)::pd).length:=by simp only [aaV];omega
         rw [B4];refine ihm (x::rest) pre ((i,w.heap.size)::pd) (o::l') _ e st a _ ?_ (h.narrow hg nM) ?_ (ht.trans (hg.trans (λb hb=>(h.b7 b hb).1) _)) ?_ hd0 ?_ z7 Y5 ?_ ?_ ?_ ?_ ?_
         ·simp only [aaV] at hm⊢;omega
         ·exact afj
         ·simp [qv,hox,hpk]
         ·refine (hL.set VK).congr (λj=> ?_);simp
         ·intro p hp;rcases By.1 hp with rfl|hp
          ·exact aez _ hir
          ·exact WZ p hp
         ·exact ab4.2 ⟨uo.1,K9⟩
         ·refine ab4.2 ⟨λhm=> ?_,Ik⟩;obtain ⟨p,hp,he⟩:=aaZ.1 hm;have:=amg p hp;have he:p.2=w.heap.size:=he;omega
         ·intro p hp;rcases By.1 hp with rfl|hp
          ·refine ⟨⟨oi,t,I,d,z.cells,t,VJ,Ha,q1,hI,q2,gj w _,hz3⟩,λoff=> ?_,(h.b7 _ (aa1 _)).1⟩;cases hp:e.φ w.heap.size off with
           |none=>rfl
           |some v=>have:=abu w _ (h.iK _ _ _ hp);simp at this
          ·obtain ⟨⟨o1,t1,I1,d1,amh,T1,k1,k2,k3,k4,k5,k6,k7⟩,q5,q6⟩:=WW p hp;exact ⟨⟨o1,t1,I1,d1,amh,T1,k1,k2,k3,k4,k5,by rw [hg.pF _ (aN k6)];exact k6,k7⟩,q5,q6⟩
         ·simp only [aaV];omega
theorem Qc (hG:Good P c){ops:Array Oper}{l:List Oper}{ord:List Nat}(hd:pS c ops ord=true)(hp:qv ops.toList ord=some l){Z:bu}{e:Env}{st:St}{a:Act}{w:World}{R:Type}{K:St->Option R}{r:R}(h:bO c Z e st a w)(hK:BB c ops.toList l st K=some r): wpAny P .any ops (oS λa' w'=>Out c Z K r e.φ w a' w') ops.size (IN ops.size false) a {w with drawn:=w.drawn+1}:=by
 simp only [pS,bB] at hd;obtain ⟨⟨⟨Yn,hl0⟩,z7⟩,hd⟩:=hd;have Lq: ∀(j:Nat) (o:Oper) cs b,ops[j]? =some o->o.op≠ .select cs b:=by intro j o cs b ho he;have:=aaR.1 Yn o (aey (by simpa using ho:ops.toList[j]? =some o));simp [he] at this
 have adV:cL w {w with drawn:=w.drawn+1}:=⟨aa1 _,λ_ _=>rfl,rfl,rfl,rfl⟩
 ·refine P6 (c:=c) (φ:=e.φ) _ _ _ _ ?_;have hlen:ord.length=ops.size:=by have:=sh hl0;simpa using this
  rw [<-hlen];have h0:bO c (Z.outs []) e st a {w with drawn:=w.drawn+1}:=(h.grow adV).wD (λb hb=>⟨hb,by simp⟩) (λb hb=>⟨hb,by simp⟩) rfl rfl rfl rfl;refine ab2 hG Lq (λa' w' h=>h) (2 *ord.length) ord [] [] l _ e st a _ (by simp) h0 hK (adV.trans h.b7 e.φ) hp hd ⟨by simp [hlen],λi hi=> ?_⟩ (λi hi=> .inr ((bk _ _).1 (aaR.1 z7 i (by simpa using hi)))) (by simp) (by simp) (by simp) (by simp) (by simp) (by simp);simp [hlen,hi]
end
end Dn
/-
  What is asked of slices.DeleteFunc, and of the function that it is handed. Conditions: none.
-/
namespace Dn
open Go
theorem GF {S:Type}{step:S->MV->Option (Bool×S)}: ∀{xs zs:List MV} {s:S},na step s (xs++zs)=(match na step s xs with|some (ys,s1)=>(match na step s1 zs with|some (us,s2)=>some (ys++us,s2)|none=>none)|none=>none):=by
 intro xs;induction xs with
 |nil=>intro zs s;simp only [abZ,na];cases na step s zs<;>rfl
 |cons x xs ih=>
  intro zs s;simp only [abi,na];cases step s x with
  |none=>rfl
  |some p=>
   obtain ⟨b,s1⟩:=p;simp only [ih];cases na step s1 xs with
   |none=>rfl
   |some q=>
    obtain ⟨ys,s2⟩:=q;dsimp only;cases na step s2 zs with
    |none=>rfl
    |some q2=>cases b<;>rfl
theorem T7 {S:Type}{step:S->MV->Option (Bool×S)}{xs:List MV} {s s':S}{ys:List MV}(h:na step s xs=some (ys,s')){k:Nat}(hk:k<xs.length): ∃yk sk b sk',na step s (xs.take k)=some (yk,sk)/\step sk xs[k]=some (b,sk')/\na step s (xs.take (k+1))=some (bif b then yk else yk++[xs[k]],sk'):=by
 have e:xs=xs.take k++xs[k]::xs.drop (k+1):=by simp
 rw [e,GF] at h;cases h1:na step s (xs.take k) with
 |none=>simp [h1] at h
 |some p=>
  obtain ⟨yk,sk⟩:=p;simp only [h1,na] at h;cases h2:step sk xs[k] with
  |none=>simp [h2] at h
  |some q=>
   obtain ⟨b,sk'⟩:=q;refine ⟨yk,sk,b,sk',rfl,h2,?_⟩;have e2:xs.take (k+1)=xs.take k++[xs[k]]:=by rw [agE,abk hk];rfl
   rw [e2,GF,h1];simp only [na,h2];cases b<;>simp
theorem Y7 {S:Type}{step:S->MV->Option (Bool×S)}: ∀{xs:List MV} {s s':S} {ys:List MV},na step s xs=some (ys,s')->ys.length<=xs.length:=by
 intro xs;induction xs with
 |nil=>intro s s' ys h;simp [na] at h;simp [h.1]
 |cons x xs ih=>
  intro s s' ys h;simp only [na] at h;cases h1:step s x with
  |none=>simp [h1] at h
  |some p=>
   obtain ⟨b,s1⟩:=p;simp only [h1] at h;cases h2:na step s1 xs with
   |none=>simp [h2] at h
   |some q=>obtain ⟨zs,s2⟩:=q;simp only [h2,AS,abj] at h;have:=ih h2;rw [<-h.1];cases b<;>simp<;>omega
structure xK (P:Program) (c:Ctx) (g:Nat) (lb:Array Value) {S:Type} (Inv:S->(Nat->Prop)->Ph->World->Prop) (step:S->MV->Option (Bool×S)):Prop where
 call: ∀{s Z φ W v x b s'},Inv s Z φ W->(∀b,W.heap.size<=b->Z b)->mb φ W->cV c.key φ v x->step s x=some (b,s')-> cm P g (#[v]++lb) W λr W'=>r= .bool b/\ ∃φ',Trans Z φ W φ' W'/\mb φ' W'/\Inv s' Z φ' W'
 frame: ∀{s Z φ W W'},Inv s Z φ W->W.heap.size<=W'.heap.size->(∀b,Z b->b<W.heap.size->W'.heap[b]? =W.heap[b]?)->Inv s (λb=>Z b/\b<W.heap.size) φ W'
 mono: ∀{s Z Z' φ W},Inv s Z φ W->(∀b,Z b->Z' b)->Inv s Z' φ W
structure BH (c:Ctx) (ob:Option Nat) {S:Type} (Inv:S->(Nat->Prop)->Ph->World->Prop) (Z0:Nat->Prop) (φ0:Ph) (w0:World) (s:S) (Z:Nat->Prop) (φ:Ph) (W:World):Prop where
 inv:Inv s Z φ W
 new: ∀b,W.heap.size<=b->Z b
 sub: ∀b,Z b->Z0 b\/w0.heap.size<=b
 iK:mb φ W
 tr:Trans (λb=>(Z0 b\/w0.heap.size<=b)\/ob=some b) φ0 w0 φ W
 free: ∀b off,ob=some b->φ b off=none
structure Oj (P:Program) (c:Ctx) (h el:Nat):Prop where
 run: ∀{S:Type} {Inv:S->(Nat->Prop)->Ph->World->Prop} {step:S->MV->Option (Bool×S)} {g:Nat} {lb:Array Value},xK P c g lb Inv step-> ∀{v0:Value} {xs ys:List MV} {w:World} {Z0:Nat->Prop} {φ0:Ph} {s0 s':S},(∀x∈xs,∃ms,x= .agg ms)->cj c (bu.plain λb=>v0.ownBlock=some b) (mN c.key φ0) w v0 ⟨el,false,xs⟩->(∀b,v0.ownBlock=some b-> ¬Z0 b)-> Inv s0 Z0 φ0 w->(∀b,w.heap.size<=b->Z0 b)->mb φ0 w->na step s0 xs=some (ys,s')-> cm P h #[v0,.func (.func g) #[] lb] w λv W=> ∃Z φ,BH c v0.ownBlock Inv Z0 φ0 w s' Z φ W/\cj c (bu.plain λb=>v0.ownBlock=some b) (mN c.key φ) W v ⟨el,false,ys⟩/\ ∀b,v.ownBlock=some b->v0.ownBlock=some b
def xL (P:Program)(c:Ctx):Prop:= ∀h,c.NC h=true->Oj P c h (c.mY (c.key h))
end Dn
/-
  Regions with a call of slices.DeleteFunc. Conditions: none.
-/
namespace Dn
open Go
section
variable {P:Program}{c:Ctx}{Z:bu} {Z':Nat->Prop} {e e':Env}{st bT:St}{a:Act} {w w':World}{R:Type}{K:St->Option R}{r:R}{Q:Exit->Act->World->Prop}{o:Oper}{root:Nat}{cs:List aD}{ks:List LK}{ls outs:List MV}{ps:List (Nat×Nat)} {φ':Ph}
theorem VL (h:bO c Z e st a w)(hf:al st.fr root= .box cs)(hm:eI cs=false)(hr:bn st.cu root=false)(ht:TC st [] ks cs ls ps)(hZ: ∀b,Z' b↔w.heap.size<=b\/gone e root ps b){X:Nat->Prop}(hXb: ∀t fL,al st.fr t= .box fL-> ¬X (e.B t))(hXf: ∀f o b,aE st.aM f=some o->(e.E f).ownBlock=some b-> ¬X b)(wv:Trans (λb=>Z' b\/X b) e.φ w φ' w')(hi:mb φ' w')(hc:eM c Z' φ' w' (e.B root) ks outs)(hK:Me st root ks ps outs K=some r): ∃e' bT,bO c Z e' bT a w'/\e'.φ=φ'/\(∀b,X b-> ¬Z' b->(∀t fL,al bT.fr t= .box fL->e'.B t≠b)/\ ∀f o,aE bT.aM f=some o->(e'.E f).ownBlock≠some b)/\K bT=some r:=by
 unfold Me at hK;obtain ⟨BE,rest,A8,g1,hK⟩:=jT hK;cases rest with
 |cons=>simp [gN] at hK
 |nil=>
 simp only [gN,PO] at hK;cases mD:Md (bj ks) (kC (eg ps) st.aM)||meets (bj ks) st.cq with
 |true=>simp [mD] at hK
 |false=>
 simp only [mD,cond_false,TT,ma,xp] at hK;obtain ⟨R8,IH⟩:=adu.1 mD;have R8:=IE R8;have IH:=IF IH;obtain ⟨vE,m3,E,arr,T,Ag,ct,hzb,ol,pG,fS,eJ⟩:=hc;have jP:vE=BE/\m3=A8.aM:=by unfold Gq at Ag;rw [g1] at Ag;simp only [gN,AS,abj] at Ag;exact ⟨Ag.1.symm,Ag.2.symm⟩
 obtain ⟨rfl,rfl⟩:=jP;have dk:=Af g1;have ju: ∀f o,aE A8.aM f=some o->f∈bj ks:=λf o ho=>(DJ g1 f o ho).resolve_left (by simp [aE]);have hs:=h.slot root;rw [hf] at hs;have uo: ∀b,Z' b->Z.In b:=by
  intro b hb;rcases (hZ b).1 hb with hb|hb
  ·exact h.b7 b hb
  ·exact DK h hf hr ht b hb
 have PR: ∀t fL,al st.fr t= .box fL->t≠root-> ¬Z' (e.B t):=by
  intro t fL Yv df hz;rcases (hZ _).1 hz with hz|hz|⟨x,g,hp,hz⟩
  ·have:=xC h Yv;omega
  ·exact h.bb t root fL cs Yv hf df hz
  ·obtain ⟨o,ho,_⟩:=ht.aM x g hp;exact h.bf t fL g o Yv ho hz
 have hold: ∀f o,aE (kC (eg ps) st.aM) f=some o->aE st.aM f=some o/\f∉eg ps:=by
  intro f o ho;rw [IA] at ho;cases hn:bn (eg ps) f with
  |true=>simp [hn] at ho
  |false=>simp only [hn,IT,if_false] at ho;exact ⟨ho,λhm=>by rw [(bk _ _).2 hm] at hn;cases hn⟩
 have Gw: ∀f o b,aE (kC (eg ps) st.aM) f=some o->(e.E f).ownBlock=some b-> ¬Z' b:=by
  intro f o b ho hb hz;obtain ⟨Cn,hnf⟩:=hold f o ho;rcases (hZ _).1 hz with hz|hz|⟨x,g,hp,hz⟩
  ·have:=xD h Cn hb;omega
  ·exact h.bf root cs f o hf Cn (by rw [hb,hz])
  ·obtain ⟨o2,cw,_⟩:=ht.aM x g hp;have:=h.ff f g o o2 b Cn cw hb hz;subst this;exact hnf (Gu.2 ⟨x,hp⟩)
 have afm: ∀t fL,al st.fr t= .box fL->t≠root-> ¬(Z' (e.B t)\/X (e.B t)):=λt fL h1 h2 h3=>h3.elim (PR t fL h1 h2) (hXb t fL h1);have Y8: ∀f o b,aE (kC (eg ps) st.aM) f=some o->(e.E f).ownBlock=some b-> ¬(Z' b\/X b):=λf o b h1 h2 h3=>h3.elim (Gw f o b h1 h2) (hXf f o b (hold f o h1).1 h2);let E2:Nat->Value:=λf=>if bn (bj ks) f=true then E f else e.E f
 have we: ∀f,f∈bj ks->E2 f=E f:=λf hf=>by show (if _ then _ else _)=_;rw [if_pos ((bk _ _).2 hf)]
 have Pb: ∀f,f∉bj ks->E2 f=e.E f:=λf hf=>by show (if _ then _ else _)=_;rw [if_neg (λhq=>hf ((bk _ _).1 hq))]
 have oz: ∀f o,aE (A8.aM++kC (eg ps) st.aM) f=some o->(f∈bj ks/\aE A8.aM f=some o)\/(f∉bj ks/\aE (kC (eg ps) st.aM) f=some o):=by
  intro f o ho;rw [MB] at ho;cases hq:aE A8.aM f with
  |some o2=>simp only [hq,AS] at ho;exact .inl ⟨ju f o2 hq,by rw [ho]⟩
  |none=>simp only [hq] at ho;refine .inr ⟨λhm=> ?_,ho⟩;rw [R8 f hm] at ho;cases ho
 let e2:Env:=⟨e.key,φ',E2,e.B,A8.aM++kC (eg ps) st.aM⟩
 have rT:jQ (λg=>True/\g∉bj ks) (λ_=>True) e e2:=by
  refine ⟨rfl,wv.ph,λ_ _=>rfl,λf o' Cn hS=> ?_⟩;rcases oz f o' Cn with ⟨h1,_⟩|⟨h1,h2⟩
  ·exact absurd h1 hS.2
  ·exact ⟨o',by rw [h.m];exact (hold f o' h2).1,Pb f h1,rfl⟩
 have Yw:aw e2 arr.toList vE:=by
  have aeW:jQ (λf=>f∈bj ks) (λ_=>True) ⟨c.key,φ',E,λ_=>e.B root,A8.aM⟩ ⟨c.key,φ',E2,λ_=>e.B root,A8.aM++kC (eg ps) st.aM⟩:=by
   refine ⟨rfl,.refl _,λ_ _=>rfl,λf o' Cn hS=> ?_⟩;rcases oz f o' Cn with ⟨h1,h2⟩|⟨h1,_⟩
   ·exact ⟨o',h2,we f h1,rfl⟩
   ·exact absurd hS h1
  have h1:=pG.on aeW dk;have aeX:jQ (λ_=>True) (λ_=>False) ⟨c.key,φ',E2,λ_=>e.B root,A8.aM++kC (eg ps) st.aM⟩ e2:=⟨h.key,.refl _,λ_ h=>h.elim,λf o ho _=>⟨o,ho,rfl,rfl⟩⟩
  exact h1.on aeX (λ_ _ _ _=>trivial)
 have hm3:eI vE=false:=Yw.zZ;have PS: ∀t,al (b8 (ng (bj ks) st.fr) root (.box vE)) t=if t=root then .box vE else DH (bj ks) (al st.fr t):=λt=>by rw [bL,IC]
 have vF: ∀t ds,al (b8 (ng (bj ks) st.fr) root (.box vE)) t= .box ds-> ∃ds0,al st.fr t= .box ds0:=by
  intro t ds hb;rw [PS] at hb;by_cases wv:t=root
  ·exact ⟨cs,by rw [wv];exact hf⟩
  ·rw [if_neg wv] at hb;obtain ⟨d0,h1,_⟩:=uO _ hb;exact ⟨d0,h1⟩
 refine ⟨e2,⟨st.cu,st.cq,b8 (ng (bj ks) st.fr) root (.box vE),A8.aM++kC (eg ps) st.aM⟩,⟨h.defers,h.size,rfl,h.key,?_,?_,?_,?_,?_,?_,?_,hi,λb hb=>h.b7 b (adz wv.size hb)⟩,rfl,λb hb hnz=>⟨λt ds Yv he=> ?_,λf o ho he=> ?_⟩,hK⟩;rotate_left 7
 ·obtain ⟨d0,k1⟩:=vF t ds Yv;exact hXb t d0 k1 (by have he:e.B t=b:=he;rw [he];exact hb)
 ·have he:(E2 f).ownBlock=some b:=he;rcases oz f o ho with ⟨k1,k2⟩|⟨k1,k2⟩
  ·rw [we f k1] at he;obtain ⟨I,cells,_,_,_,_,q5⟩:=(fS f o k2).1.row;exact hnz (q5 _ he).1
  ·rw [Pb f k1] at he;exact hXf f o b (hold f o k2).1 he hb
 ·show (aK (b8 (ng (bj ks) st.fr) root (.box vE))).Nodup;refine dZ ?_;rw [ID];exact h.nodup
 ·intro t;show bS Z e2 w' t _ (al (b8 (ng (bj ks) st.fr) root (.box vE)) t);rw [PS];by_cases s6:t=root
  ·subst s6;rw [if_pos rfl];exact ⟨hs.1.lB (by rw [xu hm,xu hm3]),hs.2.b7,⟨_,ct,rfl,Yw⟩,ol⟩
  ·rw [if_neg s6];have dB:=h.slot t;have hnb:=afm t;generalize al st.fr t=s at dB hnb;by_cases E8: ∃ds,s= .box ds
   ·obtain ⟨ds,rfl⟩:=E8;rw [PP];have hz:=hnb ds rfl s6;obtain ⟨o2,h1,h2⟩:=dB.2.obj;refine ⟨dB.1.lB (MA _ _),dB.2.b7,⟨o2,by show w'.heap[e.B t]? =_;rw [wv.heap _ hz (aN h1)];exact h1,?_⟩,λoff=>by show φ' (e.B t) off=none;rw [wv.free _ off hz];exact dB.2.free off⟩;exact (PQ h2).on rT (TV _ (λl _ f _=>trivial))
   ·have aeY:aa e (a.tmps.getD t undef) s:=by cases s<;>simp only [bS] at dB<;>first|exact dB|exact absurd ⟨_,rfl⟩ E8
    have h2:=(aeY.adG (bj ks)).on rT (TU _ (dF s));have Yx: ∀ds,DH (bj ks) s≠ .box ds:=λds hq=>by obtain ⟨d0,h1,_⟩:=uO _ hq;exact E8 ⟨d0,h1⟩
    generalize DH (bj ks) s=s2 at h2 Yx;cases s2<;>first|exact h2|exact absurd rfl (Yx _)
 ·intro t;show cy (b8 (ng (bj ks) st.fr) root (.box vE)) (al (b8 (ng (bj ks) st.fr) root (.box vE)) t);have Rh: ∀q,cO (al st.fr q)=true->cO (al (b8 (ng (bj ks) st.fr) root (.box vE)) q)=true:=by
   intro q hq;rw [PS];by_cases hqr:q=root
   ·rw [if_pos hqr];rfl
   ·rw [if_neg hqr];exact IG _ hq
  rw [PS];by_cases s6:t=root
  ·rw [if_pos s6];trivial
  ·rw [if_neg s6];refine Gv _ ?_;have pK:=h.root t;generalize al st.fr t=s at pK;cases s with
   |ptr q o=>exact Rh q pK
   |hp q o i=>exact Rh q pK
   |zN q=>exact Rh q pK
   |_=>trivial
 ·intro f o ho;rcases oz f o ho with ⟨h1,h2⟩|⟨h1,h2⟩
  ·have hfm:=(fS f o h2).1;have z6:f∉Z.cq:=by rw [<-h.defers.2.2.1];exact IH f h1
   refine cj.to ?_ z6;obtain ⟨I,cells,q1,q2,q3,q4,q5⟩:=hfm.row;refine ⟨I,cells,q1,q2,?_,?_,λb hb=> ?_⟩
   ·show w'.ownsRow 0 o.ty I.size (E2 f) o.xs.length cells;rw [we f h1];exact q3
   ·show aP e.key φ' I.size cells o.xs;rw [h.key];exact q4
   ·have hb:(E2 f).ownBlock=some b:=hb;rw [we f h1] at hb;exact ⟨uo b (q5 b hb).1,(q5 b hb).2.1,λhc=>hc.elim⟩
  ·obtain ⟨Cn,hnf⟩:=hold f o h2;obtain ⟨I,cells,q1,q2,q3,q4,q5⟩:=(h.gG f o Cn).row;refine ⟨I,cells,q1,q2,?_,q4.mono wv.ph,?_⟩
   ·show w'.ownsRow 0 o.ty I.size (E2 f) o.xs.length cells;rw [Pb f h1];refine ⟨q3.1,?_⟩;rcases q3.2 with h6|⟨g,cap,cT,k1,k2,k3,k4⟩
    ·exact .inl h6
    ·refine .inr ⟨g,cap,cT,k1,k2,?_,k4⟩;rw [wv.heap g (Y8 f o g h2 (by rw [k1];rfl)) (aN k3)];exact k3
   ·intro aR hb;have hb:(E2 f).ownBlock=some aR:=hb;rw [Pb f h1] at hb;refine ⟨(q5 aR hb).1,λoff u hu=>(q5 aR hb).2.1 off u ?_,λk1 k2 j hj=>wv.ph.xn ((q5 aR hb).2.2 k1 k2 j hj) hj⟩;have hu:φ' aR off=some u:=hu;rw [wv.free _ off (Y8 f o aR h2 hb)] at hu;exact hu
 ·intro t t' c1 c2 h1 h2 df;obtain ⟨d1,k1⟩:=vF t c1 h1;obtain ⟨d2,k2⟩:=vF t' c2 h2;exact h.bb t t' d1 d2 k1 k2 df
 ·intro t c1 f o h1 h2;show (E2 f).ownBlock≠some (e.B t);rcases oz f o h2 with ⟨k1,k2⟩|⟨k1,k2⟩
  ·rw [we f k1];by_cases s6:t=root
   ·rw [s6];exact (fS f o k2).2
   ·obtain ⟨d1,k3⟩:=vF t c1 h1;intro hq;obtain ⟨I,cells,_,_,_,_,q5⟩:=(fS f o k2).1.row;exact PR t d1 k3 s6 (q5 _ hq).1
  ·rw [Pb f k1];obtain ⟨d1,k3⟩:=vF t c1 h1;exact h.bf t d1 f o k3 (hold f o k2).1
 ·intro f f' o o' k h1 h2 h3 h4;have h3:(E2 f).ownBlock=some k:=h3;have h4:(E2 f').ownBlock=some k:=h4;rcases oz f o h1 with ⟨k1,k2⟩|⟨k1,k2⟩<;>rcases oz f' o' h2 with ⟨k3,k4⟩|⟨k3,k4⟩
  ·rw [we f k1] at h3;rw [we f' k3] at h4;exact eJ f f' o o' k k2 k4 h3 h4
  ·rw [we f k1] at h3;rw [Pb f' k3] at h4;obtain ⟨I,cells,_,_,_,_,q5⟩:=(fS f o k2).1.row;exact absurd (q5 _ h3).1 (Gw f' o' k k4 h4)
  ·rw [Pb f k1] at h3;rw [we f' k3] at h4;obtain ⟨I,cells,_,_,_,_,q5⟩:=(fS f' o' k4).1.row;exact absurd (q5 _ h4).1 (Gw f o k k2 h3)
  ·rw [Pb f k1] at h3;rw [Pb f' k3] at h4;exact h.ff f f' o o' k (hold f o k2).1 (hold f' o' k4).1 h3 h4
end
end Dn
/-
  A call of slices.DeleteFunc. Conditions: none.
-/
namespace Dn
open Go
section
variable {P:Program}{c:Ctx}{Z:bu} {e e':Env}{st bT:St}{a:Act} {w w':World}{R:Type}{K:St->Option R}{r:R}{Q:Exit->Act->World->Prop}{o:Oper}
theorem cm.imp {P:Program}{f:FuncId}{args:Array Value}{w:World} {R R':Value->World->Prop}(hc:cm P f args w R)(h: ∀v w',R v w'->R' v w'):cm P f args w R':=by
 unfold cm at hc⊢;split
 ·rename_i jP;rw [jP] at hc;exact Calls.mono hc (λx Ba ⟨v,e,hr⟩=>⟨v,e,h v Ba hr⟩)
 ·rename_i jP;rw [jP] at hc;exact h _ _ hc
 ·rename_i h1 h2;split at hc
  ·rename_i jP;exact absurd jP (h1 _ _ _)
  ·rename_i jP;exact absurd jP (h2 _ _)
  ·exact hc
theorem Trans.wD {I J:Nat->Prop} {φ φ':Ph}(h:Trans I φ w φ' w')(hs: ∀b,I b->J b):Trans J φ w φ' w':=⟨h.ph,λb hb=>h.heap b (λhz=>hb (hs b hz)),λb o hb=>h.free b o (λhz=>hb (hs b hz)),h.size,h.rest⟩
theorem DQ {key:Nat->Nat} {φ:Ph}{v:Value}{b:Bool}(h:cV key φ v (.b b)):v= .bool b:=by obtain ⟨_,h⟩:=h;generalize yU:[v]=l at h;cases h;simpa using yU
theorem Sr (hS:Sound P c){f:Nat}(hg:c.cR (c.key f)=false){lb:Array Value}{ms:List MV}:xK P c f lb (λ(_:Unit) (_:Nat->Prop) φ (_:World)=>aY c.key φ lb.toList ms) (Xw c.g (c.key f) ms):=by
 refine ⟨?_,λh _ _=>h,λh _=>h⟩;intro s Z φ W v x b s' hinv mL iu Ss dB;unfold Xw at dB;split at dB
 ·rename_i b' hx;simp only [AS,abj] at dB;obtain ⟨rfl,_⟩:=dB;have dy:dz c (λb=>W.heap.size<=b) φ W (c.key f) (v::lb.toList) (x::ms):=by simp only [dz,hg,IT,if_false];exact ⟨v,lb.toList,rfl,Ss,hinv⟩
  have:=hS f (x::ms) (.b b') hx φ W (λb=>W.heap.size<=b) _ (λb hb=>hb) dy iu;have e1:(v::lb.toList).toArray= #[v]++lb:=by apply abC.1;simp
  rw [e1] at this;refine this.imp ?_;rintro v' w' ⟨φ',t1,t2,t3⟩;exact ⟨DQ t3,φ',t1.wD mL,t2,hinv.mono t1.ph⟩
 ·cases dB
theorem VM (hS:Sound P c){f pos aR:Nat}{ks:List LK}{ms:List MV}{lb0:List Value}(hg:c.cR (c.key f)=true)(xG:c.sig (c.key f)=some (pos,ks))(eL:pos=ms.length+1): xK P c f (lb0++[adA (some ⟨aR,0,none⟩)]).toArray (λls Z φ W=>eM c Z φ W aR ks ls/\aY c.key φ lb0 ms) (Mh c.g (c.key f) ms):=by
 refine ⟨?_,?_,λh hz=>⟨h.1.wide hz,h.2⟩⟩
 ·intro ls Z φ W v x b s' hinv mL iu Ss dB;obtain ⟨pL,wC⟩:=hinv;unfold Mh at dB;split at dB
  ·rename_i b' outs hx;simp only [AS,abj] at dB;obtain ⟨rfl,rfl⟩:=dB;have hl:=wC.length;have dy:dz c Z φ W (c.key f) (v::(lb0++[adA (some ⟨aR,0,none⟩)])) (x::(ms++[.cell (.func 0 ls)])):=by
    simp only [dz,hg,if_true];refine .inr (.inr ⟨pos,ks,0,ls,aR,xG,?_,?_,?_,pL⟩)
    ·rw [eL,adM,<-hl,aaY (aa1 _)];simp
    ·rw [eL,adM,aaY (aa1 _)];simp
    ·rw [eL,List.set_cons_succ,List.set_append_right _ _ (aa1 _),Nat.sub_self];exact ⟨v,_,rfl,Ss,wC.append ⟨_,[],rfl,⟨rfl,.rp aR 0 [] [] .nil (by simp)⟩,rfl⟩⟩
   have:=hS f _ _ hx φ W Z _ mL dy iu;have e1:(v::(lb0++[adA (some ⟨aR,0,none⟩)])).toArray= #[v]++(lb0++[adA (some ⟨aR,0,none⟩)]).toArray:=by apply abC.1;simp
   rw [e1] at this;refine this.imp ?_;rintro v' w' ⟨φ',t1,t2,mP,pos',ks',afn,Pq,xy,O8,hc⟩;rw [xG] at xy;simp only [AS,abj] at xy;obtain ⟨rfl,rfl⟩:=xy;have hb:afn=aR:=by rw [eL,adM,<-hl,aaY (aa1 _)] at O8;simp at O8;exact O8.1.symm
   subst hb;exact ⟨DQ mP,φ',t1,t2,hc,wC.mono t1.ph⟩
  ·cases dB
 ·intro ls Z φ W W' hinv nM jr;obtain ⟨⟨cs,m,E,arr,T,k1,k2,k3,k4,k5,k6,k7⟩,wC⟩:=hinv;have dO:=aN k2;refine ⟨⟨cs,m,E,arr,T,k1,(jr aR k3 dO).trans k2,⟨k3,dO⟩,k4,k5,λf' o' ho=>⟨?_,(k6 f' o' ho).2⟩,k7⟩,wC⟩;obtain ⟨I,cells,q1,q2,q3,q4,q5⟩:=(k6 f' o' ho).1.row;refine ⟨I,cells,q1,q2,⟨q3.1,?_⟩,q4,λb hb=>⟨⟨(q5 b hb).1,Iv q3 hb⟩,(q5 b hb).2⟩⟩;rcases q3.2 with h6|⟨g,cap,cT,r1,r2,r3,r4⟩
  ·exact .inl h6
  ·exact .inr ⟨g,cap,cT,r1,r2,(jr g (q5 g (by rw [r1];rfl)).1 (aN r3)).trans r3,r4⟩
theorem T8 {xs:List MV}(h:xs.all G0=true): ∀x∈xs,∃ms,x= .agg ms:=by intro x hx;have:=aaR.1 h x hx;cases x<;>simp [G0] at this;exact ⟨_,rfl⟩
theorem put_comm {a:Act}{x y:Nat}(h:x≠y)(v u:Value):(a.put (some x) v).put (some y) u=(a.put (some y) u).put (some x) v:=by show ({a with tmps:=(a.tmps.setIfInBounds x v).setIfInBounds y u}:Act)={a with tmps:=(a.tmps.setIfInBounds y u).setIfInBounds x v};rw [afe v u h]
theorem T9 {y d:Nat}{o1 o2:Oper}{h:Nat} {v0 v' fv:Value}{ys:List MV} {φ0:Ph}{w0:World}(hs:bO c Z e st a w)(h1:o1.dst=some y)(h2:o2.dst=some d)(hyd:d≠y)(uo: ∀b,v0.ownBlock=some b->Z.In b)(fS:cj c (bu.plain λb=>v0.ownBlock=some b) (mN c.key e.φ) w v' ⟨c.mY (c.key h),false,ys⟩)(dk: ∀b,v'.ownBlock=some b->v0.ownBlock=some b)(wu: ∀b,v0.ownBlock=some b->(∀t fL,al st.fr t= .box fL->e.B t≠b)/\ ∀f o,aE st.aM f=some o->(e.E f).ownBlock≠some b)(ht:Trans Z φ0 w0 e.φ w)(hK:(ir st (o2.dst.getD 0) ⟨c.mY (c.key h),false,ys⟩ λst=>bh c st o2.dst (.sc (.own (o2.dst.getD 0))) λst=>bh c st o1.dst (.sc .un) K)=some r):Out c Z K r φ0 w0 ((a.put o1.dst fv).put o2.dst v') w:=by
 have z6:=hs.npf hK;have rV:=oh hK;have B4:cj c Z.nc e w v' ⟨c.mY (c.key h),false,ys⟩:=by obtain ⟨I,cells,g1,g2,g3,g4,g5⟩:=fS.row;refine ⟨I,cells,g1,g2,g3,by rw [hs.key];exact g4,λaR hb=>⟨uo aR (dk aR hb),(g5 aR hb).2.1,λhc=>hc.elim⟩⟩
 have Lf:=hs.NZ z6 B4 λb hb=>wu b (dk b hb);obtain ⟨I,cells,g1,g2,g3,g4,g5⟩:=fS.row;have ic:v'.oneCell'=true:=by rcases g3.2 with ⟨rfl,_⟩|⟨g,cap,cT,rfl,_⟩<;>rfl
 obtain ⟨e3,oK,q1,q2,q3⟩:=cP (v:=v') (s:= .sc (.own (o2.dst.getD 0))) Lf (.of (sV ic) trivial) rV;obtain ⟨e4,st4,q4,q5,q6⟩:=cP (v:=fv) (s:= .sc .un) q1 (.of (by simp [aa]) trivial) q2;rw [h1,h2] at q4;rw [put_comm hyd] at q4;rw [h1,h2];exact ⟨e4,st4,q4,by rw [q6,q3];exact ht,q5⟩
theorem ab5 (hS:Sound P c){h f x y d:Nat}{bR:Array Operand}{cl:Call}{o1 o2:Oper}(hd:Oj P c h (c.mY (c.key h)))(h1:o1.op= .makeFunc (.func f) #[] bR)(h2:o2.op= .call cl)(oe:cl.callee= .value (.func h))(dy:cl.args.toList=[.tmp x,.tmp y])(hd1:o1.dst=some y)(hd2:o2.dst=some d)(hxy:x≠y)(hyd:d≠y)(hyn:y<c.n)(oJ:bO c Z e st a w)(hK:Xx c h f bR.toList (.tmp x) o1 o2 st K=some r): o1.wp P a w (λa1 w1=>o2.wp P a1 w1 (Out c Z K r e.φ w) Q) Q:=by
 have ail:(execOp a.eval o1).run P w= .ok (.value (.func (.func f) #[] (bR.map a.eval))) w:=by simp [execOp,h1,Instr.makeFunc]
 unfold aeM;rw [ail,adK];have KQ: ∀v:Value,(a.put o1.dst v).eval (.tmp x)=a.eval (.tmp x)/\(a.put o1.dst v).eval (.tmp y)=v:=by
  intro v;rw [hd1];have hy:y<a.tmps.size:=by rw [oJ.size];exact hyn
  constructor
  ·show (a.put (some y) v).tmps.getD x undef=a.tmps.getD x undef;rw [Act.zX hy,if_neg hxy]
  ·show (a.put (some y) v).tmps.getD y undef=v;rw [Act.zX hy,if_pos rfl]
 have afo: ∀v:Value,cl.args.map (a.put o1.dst v).eval= #[a.eval (.tmp x),v]:=by intro v;apply abC.1;rw [afH,dy];simp [(KQ v).1,(KQ v).2]
 have MQ: ∀v:Value,(execOp (a.put o1.dst v).eval o2).run P w=(callFunc h #[a.eval (.tmp x),v]).run P w:=by intro v;have:=afo v;simp [execOp,h2,resolve,oe,this,Act.eval,ad7,invoke]
 unfold Xx at hK;cases xG:c.sig (c.key f) with
 |none=>
  simp only [xG] at hK;cases hg:c.cR (c.key f) with
  |true=>simp [hg] at hK
  |false=>
  simp only [hg,cond_false] at hK;obtain ⟨e1,dc,ms,s1,x1,r1,rV,ic⟩:=xz oJ hK;obtain ⟨e2,ek,xs,G,zo⟩:=sY s1 (s1.eval (.tmp x)).1 rV;simp only [gF] at zo;obtain ⟨Jc,Iu⟩:=dC zo;obtain ⟨p,hp,hK4⟩:=kY Iu;obtain ⟨ys,u⟩:=p;have wC:aY c.key e1.φ (bR.map a.eval).toList ms:=by have:=fe.one r1 ic;rw [s1.key] at this;simpa using this
  have Hb: ∀b,(a.eval (.tmp x)).ownBlock=some b-> ¬w.heap.size<=b:=by intro b hb;obtain ⟨I,cells,_,_,g3,_⟩:=G.row.row;have:=Iv g3 hb;omega
  have rM:=hd.run (Sr hS hg) (T8 Jc) G.row Hb wC (λb hb=>hb) s1.iK hp;refine sZ (MQ _) rM ?_;rintro v' w' ⟨Zw,φ',hW,fS,dk⟩;have ab6: ∀b,((w.heap.size<=b\/w.heap.size<=b)\/(a.eval (.tmp x)).ownBlock=some b)->Z.In b:=by
   rintro b ((hb|hb)|hb)
   ·exact s1.b7 b hb
   ·exact s1.b7 b hb
   ·exact G.In b hb
  have hzb: ∀t cs,al ek.fr t= .box cs-> ¬((w.heap.size<=e2.B t\/w.heap.size<=e2.B t)\/(a.eval (.tmp x)).ownBlock=some (e2.B t)):=by
   rintro t cs ht ((hb|hb)|hb)
   ·have:=xC G.sX ht;omega
   ·have:=xC G.sX ht;omega
   ·exact G.box t cs ht hb
  have hzf: ∀f o k,aE ek.aM f=some o->(e2.E f).ownBlock=some k-> ¬((w.heap.size<=k\/w.heap.size<=k)\/(a.eval (.tmp x)).ownBlock=some k):=by
   rintro f o k ho hk ((hb|hb)|hb)
   ·have:=xD G.sX ho hk;omega
   ·have:=xD G.sX ho hk;omega
   ·exact G.gG f o k ho hk hb
  have wv:=hW.tr;rw [<-G.φ] at wv;have hs3:=G.sX.called ab6 hzb hzf wv hW.iK;have s6:Trans Z e.φ w φ' w':=x1.tr.trans (hW.tr.wD ab6);exact T9 (e:={e2 with φ:=φ'}) hs3 hd1 hd2 hyd G.In fS dk (λb hb=>⟨λt fL ht he=>G.box t fL ht (by rw [hb,<-he]),λf o ho hk=>G.gG f o b ho hk hb⟩) s6 hK4
 |some sg=>
  obtain ⟨pos,ks⟩:=sg;simp only [xG] at hK;obtain ⟨e1,dc,ms,s1,x1,r1,rV,ic⟩:=xz oJ hK;obtain ⟨e2,ek,xs,G,zo⟩:=sY s1 (s1.eval (.tmp x)).1 rV;simp only [gF] at zo;obtain ⟨Jc,Iu⟩:=dC zo;cases Qd:bR.toList.getLast? with
  |none=>simp [Qd] at Iu
  |some y0=>
  simp only [Qd] at Iu;split at Iu;rotate_left
  ·cases Iu
  rename_i root Sf;split at Iu;rotate_left
  ·cases Iu
  rename_i cs hf;cases mD:eI cs||bn ek.cu root||!ik c ks||!No pos (ms.length+1)||!c.cR (c.key f) with
  |true=>simp [mD] at Iu
  |false=>
  simp only [mD,cond_false] at Iu;simp only [adu,agx] at mD;obtain ⟨⟨⟨⟨hm,hr⟩,ig⟩,eL⟩,hg⟩:=mD;have eL:=sh eL;obtain ⟨ls,ps,ht,hK4⟩:=Cu Iu;obtain ⟨p,hp,hK5⟩:=kY hK4;obtain ⟨ys,outs⟩:=p;have hy0:a.eval y0= .pointer (some ⟨e2.B root,0,none⟩):=by have:=(G.sX.eval y0).1;rw [Sf] at this;exact this
  have aim:(bR.map a.eval)=((bR.toList.dropLast.map a.eval)++[adA (some ⟨e2.B root,0,none⟩)]).toArray:=by
   apply abC.1;rw [afH];have df:bR.toList≠[]:=by intro e;rw [e] at Qd;simp at Qd
   have h3:bR.toList=bR.toList.dropLast++[y0]:=by have h4:=List.dropLast_concat_getLast df;have h5:=List.getLast?_eq_some_getLast df;rw [Qd] at h5;rw [aht h5];exact h4.symm
   rw [h3];simp [hy0]
  have wC:aY c.key e2.φ (bR.toList.dropLast.map a.eval) ms:=by have:=fe.one r1 ic;rw [s1.key,<-G.φ] at this;exact this
  have BG:cj c (bu.plain λb=>(a.eval (.tmp x)).ownBlock=some b) (mN c.key e2.φ) w (a.eval (.tmp x)) ⟨c.mY (c.key h),false,xs⟩:=by rw [G.φ];exact G.row
  let Z2:Nat->Prop:=λb=>w.heap.size<=b\/gone e2 root ps b;have hgx: ∀b,(a.eval (.tmp x)).ownBlock=some b-> ¬gone e2 root ps b:=by
   rintro b hb (rfl|⟨q,g,hp,hq⟩)
   ·exact G.box root cs hf hb
   ·obtain ⟨o,ho,_⟩:=ht.aM q g hp;exact G.gG g o b ho hq hb
  have dO: ∀b,(a.eval (.tmp x)).ownBlock=some b->b<w.heap.size:=by intro b hb;obtain ⟨I,cells,_,_,g3,_⟩:=G.row.row;exact Iv g3 hb
  have Hb: ∀b,(a.eval (.tmp x)).ownBlock=some b-> ¬Z2 b:=by
   rintro b hb (h'|h')
   ·have:=dO b hb;omega
   ·exact hgx b hb h'
  have pL:eM c Z2 e2.φ w (e2.B root) ks ls:=(Iz G.sX hf hm ig ht).wide λb hb=> .inr hb;have rM:=hd.run (VM hS hg xG eL) (T8 Jc) BG Hb ⟨pL,wC⟩ (λb hb=> .inl hb) G.sX.iK hp;rw [<-aim] at rM;refine sZ (MQ _) rM ?_;rintro v' w' ⟨Zw,φ',hW,fS,dk⟩;have hZ2: ∀b,Z2 b\/w.heap.size<=b->Z2 b:=λb hb=>hb.elim id .inl;have ab6: ∀b,Z2 b->Z.In b:=λb hb=>hb.elim (G.sX.b7 b) (DK G.sX hf hr ht b);have wv:Trans (λb=>Z2 b\/(a.eval (.tmp x)).ownBlock=some b) e2.φ w φ' w':=hW.tr.wD λb hb=>hb.elim (λh=> .inl (hZ2 b h)) .inr;have afp:eM c Z2 φ' w' (e2.B root) ks outs:=hW.inv.1.wide λb hb=>hZ2 b (hW.sub b hb);obtain ⟨e3,oK,h3,hφ3,hX,hK6⟩:=VL G.sX hf hm hr ht (λb=>Iff.rfl) (X:=λb=>(a.eval (.tmp x)).ownBlock=some b) (λt fL Co hb=>G.box t fL Co hb) (λf o b ho hk hb=>G.gG f o b ho hk hb) wv hW.iK afp hK5;have s6:Trans Z e.φ w φ' w':=by have t2:Trans Z e2.φ w φ' w':=wv.wD λb hb=>hb.elim (ab6 b) (G.In b);rw [G.φ] at t2;exact x1.tr.trans t2
  subst hφ3;exact T9 h3 hd1 hd2 hyd G.In fS dk (λb hb=>hX b hb (Hb b hb)) s6 hK6
end
end Dn
/-
  Regions in the order of their text. Conditions: none.
-/
namespace Dn
open Go
section
variable {P:Program}{c:Ctx}{Z:bu}{e:Env}{st:St}{a:Act}{w:World}{R:Type}{K:St->Option R}{r:R}{Q:Exit->Act->World->Prop}{ops:Array Oper}
theorem Qe (hG:Good P c){is:List Nat}{rest:List Nat}: ∀{os:List Oper} {e:Env} {st:St} {a:Act} {w:World},is.map (ops[·]?)=os.map some->bO c Z e st a w->BB c ops.toList os st K=some r-> ∀{φ0:Ph} {w0:World},Trans Z φ0 w0 e.φ w->(∀a' w',Out c Z K r φ0 w0 a' w'->wpOps P ops Q rest a' w')->wpOps P ops Q (is++rest) a w:=by
 induction is with
 |nil=>
  intro os e st a w hm h hK φ0 w0 ht hQ;cases os with
  |nil=>exact hQ a w ⟨e,st,h,ht,hK⟩
  |cons=>simp at hm
 |cons i is ih=>
  intro os e st a w hm h hK φ0 w0 ht hQ;cases os with
  |nil=>simp at hm
  |cons o os=>simp only [aeg,abW] at hm;simp only [BB] at hK;rw [abi,wpOps_cons];refine wpOp_mono ?_ (TW hG hm.1 h hK);rintro a' w' ⟨e2,ek,h1,h2,h3⟩;exact ih hm.2 h1 h3 (ht.trans h2) hQ
structure adW (c:Ctx) (l pre:List Oper) (f:Nat) (bR:List Operand) (h:Nat) (x:Operand) (o1 o2:Oper) (post:List Oper):Prop where
 eq:l=pre++o1::o2::post
 is: ∃(cs:Array Operand) (cl:Call) (x' y d:Nat),cs.toList=bR/\o1.op= .makeFunc (.func f) #[] cs/\o2.op= .call cl/\cl.callee= .value (.func h)/\cl.args.toList=[.tmp x',.tmp y]/\x= .tmp x'/\o1.dst=some y/\o2.dst=some d/\c.NC h=true/\x'≠y/\d≠y/\y<c.n
theorem Su: ∀{l pre VN:List Oper} {f:Nat} {bR:List Operand} {h:Nat} {x:Operand} {o1 o2:Oper} {post:List Oper},Dx c pre l=some (VN,f,bR,h,x,o1,o2,post)->adW c (pre.reverse++l) VN f bR h x o1 o2 post:=by
 intro l;induction l with
 |nil=>intro pre VN f bR h x o1 o2 post hd;simp [Dx] at hd
 |cons p1 l ih=>
  intro pre VN f bR h x o1 o2 post hd;cases l with
  |nil=>simp [Dx] at hd
  |cons p2 r=>
   have afq:Dx c (p1::pre) (p2::r)=some (VN,f,bR,h,x,o1,o2,post)->adW c (pre.reverse++p1::p2::r) VN f bR h x o1 o2 post:=by intro hq;have:=ih hq;simpa using this
   unfold Dx at hd;split at hd
   ·rename_i f' first cs cl h1 h2
    split at hd
    ·rename_i h' x' y' d' k1 k2 k3 k4;cases hb:c.NC h'&&No y' d'&&!No x' d'&&!aed c.n d'&&!No (p2.dst.getD d') d' with
     |false=>simp only [hb,cond_false] at hd;exact afq hd
     |true=>
      simp only [hb,cond_true,AS,abj] at hd;obtain ⟨rfl,rfl,rfl,rfl,rfl,rfl,rfl,rfl⟩:=hd;simp only [bB,OF,eY,decide_eq_true_eq,decide_eq_false_iff_not] at hb;obtain ⟨⟨⟨⟨q1,rfl⟩,q3⟩,q4⟩,q5⟩:=hb;have hf:first= #[]:=by apply abC.1;simpa using k3
      subst hf;have hd2: ∃d,p2.dst=some d/\d≠y':=by
       cases hp:p2.dst with
       |none=>rw [hp] at q5;simp at q5
       |some d=>rw [hp] at q5;exact ⟨d,rfl,q5⟩
      obtain ⟨d,hd2,hd3⟩:=hd2;refine ⟨rfl,cs,cl,x',y',d,rfl,h1,h2,k1,k2,rfl,k4,hd2,q1,q3,hd3,?_⟩;rcases Nat.lt_or_ge y' c.n with dO|X6
      ·exact dO
      ·have aqr:=agk X6;simp_all
    ·exact afq hd
   ·exact afq hd
theorem Qf: ∀{l:List Oper},H7 l=true-> ∀o∈l,o.guard=none:=by
 intro l;induction l with
 |nil=>intro _ o ho;cases ho
 |cons p l ih=>
  intro h o ho;unfold H7 at h;cases hg:p.guard with
  |none=>
   rw [hg] at h;rcases By.1 ho with rfl|ho
   ·exact hg
   ·exact ih h o ho
  |some=>rw [hg] at h;cases h
theorem VO (hG:Good P c)(Jd:xL P c)(id:Nat)(ops:Array Oper):PY P c id ops:=by
 intro Z e st a w R K r Q h hK hQ;unfold Xy at hK;split at hK;rotate_left
 ·exact MD (Vt hG id ops) h hK hQ
 rename_i pre f bR hh x o1 o2 post hda;obtain ⟨jP,cs,cl,x',y,d,rfl,k1,k2,k3,k4,rfl,k5,k6,k7,k8,k9,k10⟩:=Su hda;simp only [List.reverse_nil,abZ] at jP;cases Mn:H7 ops.toList with
 |false=>simp [Mn] at hK
 |true=>
 simp only [Mn,cond_true] at hK;obtain ⟨std,hdr,hK⟩:=qU h hK;have hgd:=Qf Mn;have Pc:o1.guard=none:=hgd o1 (by rw [jP];simp);have TF:o2.guard=none:=hgd o2 (by rw [jP];simp);refine wp_region ?_;have nM:ops.size=pre.length+(post.length+2):=by rw [<-aaS,jP];simp
 have oz: ∀i,ops[i]? =(pre++o1::o2::post)[i]? :=λi=>by rw [<-jP,ad0]
 have afr:AI ops.size=AI pre.length++(pre.length::(pre.length+1)::((AI post.length).map (· +(pre.length+2)))):=by rw [nM,agR];congr 1;rw [show post.length+2=2+post.length by omega,agR];simp [List.range_succ];intros;omega
 rw [afr];refine Qe hG (os:=pre) ?_ hdr hK (.refl _ _ _) ?_
 ·apply agF;intro i;simp only [agG];by_cases hi:i<pre.length
  ·rw [ags hi];simp only [aeI,oz,ae8 hi];rw [abk hi];rfl
  ·rw [acQ (by simp;omega),acQ (by omega)];rfl
 ·rintro a1 w1 ⟨e1,dc,s1,t1,rV⟩;have hw:=ab5 hG.fn (Jd hh k7) k1 k2 k3 k4 k5 k6 k8 k9 k10 s1 rV (P:=P) (Q:=Q);have uR:ops[pre.length]? =some o1:=by rw [oz];simp
  have WX:ops[pre.length+1]? =some o2:=by rw [oz,aaY (by omega)];simp
  rw [wpOps_cons];unfold wpOp;simp only [uR,aas,Pc,if_true];left;refine aeN ?_ hw;intro a2 w2 hw2;rw [wpOps_cons];unfold wpOp;simp only [WX,aas,TF,if_true];left;refine aeN ?_ hw2;rintro a3 w3 ⟨e3,oK,s3,t3,Iu⟩;rw [<-agP ((AI post.length).map (· +(pre.length+2)))];refine Qe hG (os:=post) ?_ s3 Iu (t1.trans t3) ?_
  ·apply agF;intro i;simp only [agG,List.map_map];by_cases hi:i<post.length
   ·rw [ags hi];simp only [aeI,Function.comp,oz];rw [aaY (by omega),show i+(pre.length+2)-pre.length=i+2 by omega];simp [abk hi]
   ·rw [acQ (by simp;omega),acQ (by omega)];rfl
  ·intro a' w' ho;exact hQ a' w' ho
end
end Dn
/-
  Open order with two operations that may be done either way round. Conditions: none.
-/
namespace Dn
open Go
section
variable {P:Program}{ops:Array Oper}{Q:Exit->Act->World->Prop}
theorem MR (A B:Nat):(K7 ops A B).size=ops.size:=by simp [K7]
theorem Je (A B i:Nat):(K7 ops A B)[i]? =(ops[i]?).map λo=>if B=i then {o with after:=o.after.push ⟨A,.data⟩} else o:=by
 unfold K7;rw [agl];by_cases h:B=i
 ·simp [h]
 ·cases ops[i]? <;>simp [h]
theorem Ok (A B:Nat)(tmps:Array Value):yielded (K7 ops A B) tmps=yielded ops tmps:=by
 funext j;unfold yielded;rw [Je];cases ops[j]? with
 |none=>rfl
 |some o=>
  have e:(if B=j then {o with after:=o.after.push ⟨A,.data⟩} else o).dst=o.dst:=by split<;>rfl
  simp only [aeI,Option.bind_some,e]
theorem VP {A B i:Nat}{K:Act->World->Prop}{a:Act}{w:World}(h:wpOp P (K7 ops A B) Q i K a w):wpOp P ops Q i K a w:=by
 unfold wpOp at h⊢;rw [Je,Ok] at h;cases hi:ops[i]? with
 |none=>rw [hi] at h;exact h
 |some o=>
  rw [hi] at h;simp only [aeI] at h;by_cases hb:B=i
  ·rw [if_pos hb] at h;exact h
  ·rw [if_neg hb] at h;exact h
theorem Sv {A B i:Nat}{listed:Array Bool}:i∈AT .any (K7 ops A B) listed↔i∈AT .any ops listed/\(i=B->listed.getD A false=true):=by
 unfold AT;rw [MR];simp only [List.mem_filter,List.mem_range,Je];cases hi:ops[i]? with
 |none=>simp
 |some o=>
  by_cases hb:B=i
  ·subst hb;simp [Array.all_push,ady];constructor
   ·rintro ⟨h1,h2,h3,h4⟩;exact ⟨⟨h1,h2,h3⟩,h4⟩
   ·rintro ⟨⟨h1,h2,h3⟩,h4⟩;exact ⟨h1,h2,h3,h4⟩
  ·have G5: ¬i=B:=λe=>hb e.symm;simp [hb,G5]
def Ahd (A B:Nat):Bool->List Nat->Prop
 |_,[]=>True
 |la,i::r=>(i=B->la=true)/\Ahd A B (la||decide (i=A)) r
theorem Jf (A B:Nat): ∀L,Ahd A B true L
 |[]=>trivial
 |i::r=>⟨λ_=>rfl,by simpa using Jf A B r⟩
theorem Y9 {A B:Nat}(h:A≠B): ∀L,Ahd A B false L\/Ahd B A false L
 |[]=> .inl trivial
 |i::r=>by
  by_cases ha:i=A
  ·subst ha;exact .inl ⟨λe=>absurd e h,by simpa using Jf i B r⟩
  ·by_cases hb:i=B
   ·subst hb;exact .inr ⟨λe=>absurd e ha,by simpa using Jf i A r⟩
   ·rcases Y9 h r with h1|h1
    ·exact .inl ⟨λe=>absurd e hb,by simpa [ha] using h1⟩
    ·exact .inr ⟨λe=>absurd e ha,by simpa [hb] using h1⟩
def rN (ops:Array Oper):List (Nat×Nat)->Array Oper
 |[]=>ops
 |p::E=>K7 (rN ops E) p.1 p.2
theorem Cx: ∀E,(rN ops E).size=ops.size
 |[]=>rfl
 |p::E=>by rw [rN,MR,Cx E]
theorem Jg {i:Nat}{K:Act->World->Prop}{a:Act}{w:World}: ∀E,wpOp P (rN ops E) Q i K a w->wpOp P ops Q i K a w
 |[],h=>h
 |_::E,h=>Jg E (VP h)
theorem Al {i:Nat}{listed:Array Bool}: ∀E,i∈AT .any (rN ops E) listed↔i∈AT .any ops listed/\ ∀p∈E,i=p.2->listed.getD p.1 false=true
 |[]=>by simp [rN]
 |p::E=>by rw [rN,Sv,Al E,aci];exact ⟨λh=>⟨h.1.1,h.2,h.1.2⟩,λh=>⟨⟨h.1,h.2.2⟩,h.2.1⟩⟩
theorem Sw {E:List (Nat×Nat)}: ∀(fuel t:Nat) (listed:Array Bool) (a:Act) (w:World),(∀p∈E,p.1<listed.size)->wpAny P .any (rN ops E) Q fuel listed a w-> (∀p∈E,Ahd p.1 p.2 (listed.getD p.1 false) (aaC .any ops fuel t listed []))->wpOps P ops Q (aaC .any ops fuel t listed []) a w:=by
 intro fuel;induction fuel with
 |zero=>intro t listed a w _ h _;simpa [aaC,wpOps] using h.2
 |succ fuel ih=>
  intro t listed a w hs h hA;obtain ⟨h₀,h₁⟩:=h;simp only [aaC] at hA⊢;change wpOps P ops Q (match (AT .any ops listed)[t%(AT .any ops listed).length]? with
   |some i=>aaC .any ops fuel (t/(AT .any ops listed).length) (listed.setIfInBounds i true) [i]
   |none=>[].reverse) a w
  change∀p∈E,Ahd p.1 p.2 (listed.getD p.1 false) (match (AT .any ops listed)[t%(AT .any ops listed).length]? with
   |some i=>aaC .any ops fuel (t/(AT .any ops listed).length) (listed.setIfInBounds i true) [i]
   |none=>[].reverse) at hA
  cases hi:(AT .any ops listed)[t%(AT .any ops listed).length]? with
  |none=>
   have X7:AT .any ops listed=[]:=by
    cases hr:AT .any ops listed with
    |nil=>rfl
    |cons x xs=>rw [hr] at hi;have dO:t%(x::xs).length<(x::xs).length:=Nat.mod_lt _ (by simp);simp at hi;simp at dO;omega
   have ain:AT .any (rN ops E) listed=[]:=by
    cases hr:AT .any (rN ops E) listed with
    |nil=>rfl
    |cons x xs=>
     have:x∈AT .any (rN ops E) listed:=by rw [hr];simp
     have:=((Al E).1 this).1;rw [X7] at this;cases this
   simpa [wpOps] using h₀ ain
  |some i=>
   rw [hi] at hA;simp only [] at hA⊢;rw [linearise_go_acc,List.reverse_singleton,List.singleton_append] at hA⊢;rw [wpOps_cons];have amk:=(Al E).2 ⟨aey hi,λp hp=>(hA p hp).1⟩;refine wpOp_mono (λa w hw=>ih _ _ a w (λp hp=>by simpa using hs p hp) hw λp hp=> ?_) (Jg E (h₁ i amk));have hg:(listed.setIfInBounds i true).getD p.1 false=(listed.getD p.1 false||decide (i=p.1)):=by
    rw [abv,abv,Array.getElem?_setIfInBounds];by_cases hia:i=p.1
    ·subst hia;simp [hs p hp]
    ·simp [hia]
   rw [hg];exact (hA p hp).2
theorem Qg {c:Ctx}(hG:Good P c)(Qh:P.follows .mixedOrders=true)(Jd:xL P c):TZ P c:=by
 refine ⟨λid ops=>VO hG Jd id ops,?_,?_⟩
 ·intro id ops l hd hp Z e st a w R K r Q h hK hQ;refine af3 ?_ (wp_region_any Qh (Qc hG hd hp h hK));intro x a' w' hx;cases x<;>first|exact hQ a' w' hx|exact hx.elim
 ·intro id ops k l Z e st a w R K r Q h hK hQ;refine af3 (Q:=oS λa' w'=>Out c Z K r e.φ w a' w') ?_ (wp_region_draw λt=> ?_)
  ·intro x a' w' hx;cases x<;>first|exact hQ a' w' hx|exact hx.elim
  simp only [Region.schedule,Qh,Bool.true_or,if_true];have leaf: ∀(E:List (Nat×Nat)) (l:List Nat),(∀p∈E,p.1<ops.size)->XA c (rN ops E) l st K=some r->(∀p∈E,Ahd p.1 p.2 false (aaC .any ops ops.size t (IN ops.size false) []))-> wpOps P ops (oS λa' w'=>Out c Z K r e.φ w a' w') (aaC .any ops ops.size t (IN ops.size false) []) a {w with drawn:=w.drawn+1}:=by
   intro E l hE hK hA;unfold XA at hK;cases hd:pS c (rN ops E) l with
   |false=>simp [hd] at hK
   |true=>
    simp only [hd,cond_true] at hK;split at hK
    ·rename_i l1 hp;have w1:=Qc hG hd hp h hK;rw [Cx] at w1;exact Sw ops.size t _ a _ (by simpa using hE) w1 (λp hp=>by simpa [hE p hp] using hA p hp)
    ·cases hK
  have key: ∀(k:Nat) (E:List (Nat×Nat)) (l:List Nat),(∀p∈E,p.1<ops.size)->H8 c st K k (rN ops E) l=some r->(∀p∈E,Ahd p.1 p.2 false (aaC .any ops ops.size t (IN ops.size false) []))-> wpOps P ops (oS λa' w'=>Out c Z K r e.φ w a' w') (aaC .any ops ops.size t (IN ops.size false) []) a {w with drawn:=w.drawn+1}:=by
   intro k;induction k with
   |zero=>intro E l _ hK;cases hK
   |succ k ih=>
    intro E l hE hK hA;simp only [H8] at hK;cases hb:No l.length (rN ops E).toList.length with
    |true=>simp only [hb,cond_true] at hK;exact leaf E l hE hK hA
    |false=>
     simp only [hb,cond_false] at hK;split at hK
     ·rename_i o1 o2 A B ht;obtain ⟨q1,q2,q3⟩:=Sh ht;have nM:(rN ops E).toList.length=ops.size:=by rw [aaS,Cx]
      rw [nM] at q2 q3;obtain ⟨k1,k2⟩:=Vu hK;rcases Y9 q1 (aaC .any ops ops.size t (IN ops.size false) []) with ho|ho
      ·exact ih ((A,B)::E) o1 (aci.2 ⟨q2,hE⟩) k1 (aci.2 ⟨ho,hA⟩)
      ·exact ih ((B,A)::E) o2 (aci.2 ⟨q3,hE⟩) k2 (aci.2 ⟨ho,hA⟩)
     ·cases hK
  exact key k [] l (by simp) hK (by simp)
end
end Dn
/-
  Functions of the library, by hand: copies of slices. Conditions: none.
-/
namespace Dn
open Go
section
variable {P:Program}{c:Ctx}{Q:Exit->Act->World->Prop}{ops:Array Oper}{o:Oper}{a:Act} {w w':World}
theorem vJ {i:Nat}{rest:List Nat}{v:Value}(hi:ops[i]? =some o)(hg:o.guard=none)(bA:(execOp a.eval o).run P w= .ok (.value v) w')(h:wpOps P ops Q rest (a.put o.dst v) w'):wpOps P ops Q (i::rest) a w:=by rw [wpOps_cons];unfold wpOp;simp only [hi,aas,hg,if_true];left;unfold aeM;rw [bA,adK];exact h
structure ai (o:Oper) (d:Nat) (op:Op):Prop where
 dst:o.dst=some d
 op:o.op=op
 guard:o.guard=none
theorem afs {key:Nat->Nat} {φ:Ph}{size:Nat}{v:Value}{xs:List MV}(iu:mb φ w)(eL:0<size)(hx:gk key φ [v] (.list xs))(hw:pR size xs=true): ∃news,Src (mN key φ) w size v xs news:=by
 generalize hv:[v]=vs at hx;cases hx with
 |list ad cap _ aR off Dk f g1 g2 g3 g4 g5=>
 simp at hv;have XU: ∀i,i<xs.length->(f i).length=size:=by intro i hi;rw [(g5 i hi).width];exact DB hw _ (agH hi)
 obtain ⟨cs,h1,h2⟩:=Is XU g5;refine ⟨cs,h1,ad,cap,hv,?_,?_⟩
 ·intro hn;cases xs with
  |nil=>rfl
  |cons y ys=>have:=g2 (by simp);rw [hn] at this;cases this
 ·intro x hx j u hj;have Lb:j<cs.length:=(aba.1 hj).1;rw [h1.length] at Lb;have It:0<xs.length:=by
   cases xs with
   |nil=>simp at Lb
   |cons y ys=>simp
  have Lh:=g2 It;rw [hx] at Lh;cases Lh;have hq:j/size<xs.length:=(Nat.div_lt_iff_lt_mul eL).2 Lb;have hm:=Nat.mod_lt j eL;have WS:j=j/size *size+j%size:=by rw [Nat.mul_comm];exact (Nat.div_add_mod j size).symm
  have e1:=h2 (j/size) (j%size) hq hm;rw [<-WS,hj] at e1;have X4:Dk=size:=by rw [<-g3 0 It,XU 0 It]
  have e2:=g4 (j/size) (j%size) hq (by rw [X4];exact hm);rw [<-e1,X4,Nat.add_assoc,<-WS] at e2;have:=iu _ _ _ e2;rw [acv];exact this
theorem VQ {t t':TypeId}{el:TypeId}{x:Operand}{ad:Option Addr}{n cap:Nat}(hu:P.underlying t=some (.slice el))(ho:o.op= .binOp .eql t x (.const (.slice none 0 0)) t')(hx:a.eval x= .slice ad n cap): (execOp a.eval o).run P w= .ok (.value (.bool ad.isNone)) w:=by
 have he:a.eval (.const (.slice none 0 0))= .slice none 0 0:=rfl;have jP: ∀d:Nat,(afL (d+1) t (.slice ad n cap) (.slice none 0 0)).run P w= .ok ad.isNone w:=by intro d;cases ad<;>simp [afL,run_underlying hu]
 have hb:afI .eql t (.slice ad n cap) (.slice none 0 0)=(do pure (.bool (<-agB t (.slice ad n cap) (.slice none 0 0)))):=rfl;have hg: ∀(x y:Operand),(eqGuard .eql t x y (.slice ad n cap) (.slice none 0 0)).run P w= .ok () w:=λ_ _=>rfl;have h2:(agB t (.slice ad n cap) (.slice none 0 0)).run P w= .ok ad.isNone w:=jP 9999;unfold execOp;simp only [ho];rw [hx,he];simp [hg,hb,h2]
theorem DR {f:FuncId}{fn:Func}{t:TypeId}{I E:TI}{i0 i1 i2 i3:Nat}{oA oB oC oD oE oF oG oH:Oper}{xs:List MV}(hT:fZ P c.ti)(hI:c.tv t=some I)(hL:I.yS=true)(hE:c.tv I.elem=some E)(ul:1<=E.bytes)(Fk:c.mY (c.key f)=I.elem)(hg:c.cR (c.key f)=false)
 (hf:P.funcs[f]? =some fn) (Aj:(fn.name== "runtime.NumGoroutine")=false) (hn:fn.ntmps=8) (hr:fn.results= #[.tmp 2])
 (iN:fn.body=some (.seq (.region i0 #[oA] false) (.seq (.seq (.region i1 #[oB,oC] false) (.cond (.tmp 4) (.seq (.region i2 #[oD] false) .ret) .skip)) (.seq (.region i3 #[oE,oF,oG,oH] false) .ret))))
 (hA:ai oA 2 (.assign (.const (.slice none 0 0)))) (hB:ai oB 3 (.move (.tmp 0))) (hC:ai oC 4 (.binOp .eql t (.tmp 3) (.const (.slice none 0 0)) t)) (hD:ai oD 2 (.assign (.const (.slice none 0 0))))
 (hEo:ai oE 5 (.buildSlice t 0 #[])) (hF:ai oF 6 (.move (.tmp 0))) (hG:ai oG 7 (.call {callee:= .builtin .append,args:= #[.tmp 5,.tmp 6],argTypes:= #[t,t]})) (hH:ai oH 2 (.assign (.tmp 7)))
 (hw:pR E.size xs=true) (j0:xs.length *E.bytes<=2^46):fh P c f [.list xs] (.fresh xs):=by
 obtain ⟨hIt,Rg⟩:=aV hI;obtain ⟨lz,od⟩:=aV hE;obtain ⟨hu,E2,we,_,eL⟩:=TI.kS (hT t I hIt) hL;rw [lz] at we;cases we;intro φ W Z vs hz dy iu;simp only [dz,hg,IT,if_false] at dy;obtain ⟨v,u,rfl,⟨_,hx⟩,hu0⟩:=dy;have hu0:u=[]:=hu0;subst hu0;obtain ⟨ad,cap,hv,Cr,hnn⟩: ∃ad cap,v= .slice ad xs.length cap/\xs.length<=cap/\(0<xs.length->ad≠none):=by
  have PA:=hx;generalize yU:[v]=vs at PA;cases PA with
  |list ad cap _ aR off Dk f g1 g2 g3 g4 g5=>exact ⟨ad,cap,by simpa using yU,g1,λh0 hn=>by rw [g2 h0] at hn;cases hn⟩
 have bA:(callFunc f [v].toArray).run P W= .ok (.enter f #[v]) W:=by
  have Ik: ¬fn.name= "runtime.NumGoroutine" :=by simpa using Aj
  simp [callFunc,hf,Ik,iN]
 unfold cm;rw [bA];refine calls_of_wp hf iN ?_;rw [hn];have ha0:({tmps:= #[v]++IN (8-(#[v]:Array Value).size) undef,defers:=[]}:Act)={tmps:= #[v,undef,undef,undef,undef,undef,undef,undef],defers:=[]}:=rfl;rw [ha0];have amn:AI (#[oA]:Array Oper).size=[0]:=rfl;have amo:AI (#[oB,oC]:Array Oper).size=[0,1]:=rfl;have amp:AI (#[oE,oF,oG,oH]:Array Oper).size=[0,1,2,3]:=rfl;have amq:AI (#[oD]:Array Oper).size=[0]:=rfl;have fin: ∀(a:Act) (W':World) (v':Value) (cells:List Value),a.defers=[]->a.tmps.getD 2 undef=v'->(∃φ',Trans Z φ W φ' W'/\mb φ' W'/\gK c Z φ' W' (c.key f) v' (.fresh xs))-> bodyPost P fn (λx Ba=> ∃v,x= .returned v/\ ∃φ',Trans Z φ W φ' Ba/\mb φ' Ba/\gK c Z φ' Ba (c.key f) v (.fresh xs)) .ret a W':=by
  intro a W' v' cells hd h2 h3;refine ⟨hd,v',?_,v',rfl,h3⟩;have Ld:a.tmps[2]?.getD undef=v':=by simpa using h2
  simp [results,hr,Ld]
 refine wp_seq (wp_region ?_);rw [amn];refine vJ (o:=oA) rfl hA.guard (v:= .slice none 0 0) (w':=W) (by simp [execOp,hA.op];rfl) ?_;rw [hA.dst];refine wp_seq (wp_seq (wp_region ?_));rw [amo];refine vJ (o:=oB) rfl hB.guard (v:=v) (w':=W) (by simp [execOp,hB.op];rfl) ?_;rw [hB.dst];refine vJ (o:=oC) rfl hC.guard (v:= .bool ad.isNone) (w':=W) (VQ hu hC.op (by rw [<-hv];rfl)) ?_;rw [hC.dst];refine wp_cond (t:=ad.isNone) rfl ?_;cases Lh:ad.isNone with
 |true=>
  have Lh:ad=none:=by simpa using Lh
  have hxs:xs=[]:=by
   cases xs with
   |nil=>rfl
   |cons y ys=>exact absurd Lh (hnn (by simp))
  simp only [if_true];refine wp_seq (wp_region ?_);rw [amq];refine vJ (o:=oD) rfl hD.guard (v:= .slice none 0 0) (w':=W) (by simp [execOp,hD.op];rfl) ?_;rw [hD.dst];refine wp_ret ?_;refine fin _ W (.slice none 0 0) [] rfl rfl ⟨φ,.refl _ _ _,iu,?_⟩;show cj c (bu.plain Z) (mN c.key φ) W _ ⟨c.mY (c.key f),false,xs⟩;rw [Fk,hxs];exact ⟨E,[],lz,od,⟨by simp,.inl ⟨rfl,rfl⟩⟩,rfl,λaR hb=>by simp [adX] at hb⟩
 |false=>
  simp only [IT,if_false];refine wp_skip ?_;refine wp_seq (wp_region ?_);rw [amp];have aip:=NX (P:=P) (c:=c) (w:=W) (t:=t) (I:=I) (vs:=[]) (parts:= #[]) hu lz od eL hT (by simp) (by simp) rfl;simp only [List.length_nil,List.flatMap_nil] at aip;refine vJ (o:=oE) rfl hEo.guard (v:= .slice (some ⟨W.heap.size,0,none⟩) 0 0) (w':=W.alloc (.cells #[] I.elem)) (by simp [execOp,hEo.op,aip]) ?_;rw [hEo.dst];refine vJ (o:=oF) rfl hF.guard (v:=v) (w':=W.alloc (.cells #[] I.elem)) (by simp [execOp,hF.op];rfl) ?_;rw [hF.dst];obtain ⟨news,Ae⟩:=afs iu eL hx hw;have Pc:cL W (W.alloc (.cells #[] I.elem)):= .alloc W _ _;have aiq:Src (mN c.key φ) (W.alloc (.cells #[] I.elem)) E.size v xs news:=by obtain ⟨ad',XR,q1,q2,q3⟩:=Ae.val;exact ⟨Ae.els,ad',XR,q1,q2,λx hx j u hj=>Pc.cell (q3 x hx j u hj)⟩
  have dk:(W.alloc (.cells #[] I.elem)).ownsRow 0 I.elem E.size (.slice (some ⟨W.heap.size,0,none⟩) 0 0) 0 []:=⟨by simp,.inr ⟨W.heap.size,0, #[],rfl,adL _,gj W _,aa1 _,adL _,by simp,by simp⟩⟩
  obtain ⟨v',W',MQ,wu⟩:=Cs (P:=P) (c:=c) (ty:=oG.type) hu lz od eL hT ul dk (aiq.apx hu) (by simpa using j0);refine vJ (o:=oG) rfl hG.guard (v:=v') (w':=W') (by
   have e1: ∀(a:Act),a.eval (.tmp 5)= .slice (some ⟨W.heap.size,0,none⟩) 0 0->a.eval (.tmp 6)=v->(execOp a.eval oG).run P (W.alloc (.cells #[] I.elem))= .ok (.value v') W':=by intro a h5 h6;simp [execOp,hG.op,resolve,invoke,builtin,h5,h6,MQ]
   exact e1 _ rfl rfl) ?_
  rw [hG.dst];refine vJ (o:=oH) rfl hH.guard (v:=v') (w':=W') (by simp [execOp,hH.op];rfl) ?_;rw [hH.dst];refine wp_ret ?_;refine fin _ W' v' [] rfl rfl ?_;have nM:W.heap.size<=W'.heap.size:=adz Pc.size wu.size;have hold: ∀b,b<W.heap.size->W'.heap[b]? =W.heap[b]? :=by intro b hb;rw [wu.pF b (agy hb Pc.size) (by simp [adX];omega)];exact Pc.pF b hb
  refine ⟨φ,⟨.refl _,λb _ hb=>hold b hb,λ_ _ _=>rfl,nM,Pc.rest.trans wu.rest⟩,?_,?_⟩
  ·intro b o u hbo;have h1:=iu b o u hbo;rw [adv (hold b (abu W _ h1))];exact h1
  ·show cj c (bu.plain Z) (mN c.key φ) W' v' ⟨c.mY (c.key f),false,xs⟩;rw [Fk];refine ⟨E,news,lz,od,by simpa using wu.own,Ae.els,λaR hb=> ?_⟩;have jt:W.heap.size<=aR:=by
    rcases wu.place with h1|h1
    ·rw [h1] at hb;simp [adX] at hb;omega
    ·rw [h1] at hb;cases hb;exact Pc.size
   refine ⟨hz aR jt,λoff u hu=> ?_,λhc=>hc.elim⟩;have:=abu W _ (iu _ _ _ hu);have:aR<W.heap.size:=this;omega
end
end Dn
/-
  Tables of functions. Conditions: none.
-/
namespace Dn
open Go
structure jE (P:Program) (c:Ctx) (g:Nat->List MV->Option MV):Prop where
 all: ∀f ms r,g (c.key f) ms=some r->fh P c f ms r
abbrev bt (n:Nat)(F:List MV->Option MV)(g:Nat->List MV->Option MV):Nat->List MV->Option MV:=λk ms=>match No k n with|true=>F ms|false=>g k ms
theorem jE.add {P:Program}{c:Ctx}{g:Nat->List MV->Option MV}{n:Nat}{F:List MV->Option MV}(h:jE P c g)(hF: ∀f ms r,c.key f=n->F ms=some r->fh P c f ms r):jE P c (bt n F g):=by
 refine ⟨λf ms r hr=> ?_⟩;unfold bt at hr;cases hk:No (c.key f) n with
 |true=>simp only [hk] at hr;exact hF f ms r (sh hk) hr
 |false=>simp only [hk] at hr;exact h.all f ms r hr
structure DT (c c':Ctx):Prop where
 ti:c'.ti=c.ti
 key:c'.key=c.key
 cR:c'.cR=c.cR
 fresh:c'.fresh=c.fresh
 mY:c'.mY=c.mY
 fk:c'.fk=c.fk
 mt:c'.mt=c.mt
 sig:c'.sig=c.sig
 NC:c'.NC=c.NC
theorem cj.oL {c c':Ctx}(h:c'.ti=c.ti){Z:bu}{e:Env}{w:World}{v:Value}{o:ox}(hs:cj c Z e w v o):cj c' Z e w v o:=by obtain ⟨I,cells,h1,h2⟩:=hs.row;exact ⟨I,cells,by rw [h];exact h1,h2⟩
theorem gK.oL {c c':Ctx}(h:DT c c'){Z:Nat->Prop} {φ:Ph}{w:World}{k:Nat}{v:Value}{r:MV}(hs:gK c Z φ w k v r):gK c' Z φ w k v r:=by
 cases r<;>simp only [gK,h.key,h.mY] at hs⊢ <;>first|exact hs|exact hs.oL h.ti|skip
 rename_i ms;cases ms with
 |nil=>simp only [NY,h.key] at hs⊢;exact hs
 |cons m r=>
  cases m<;>simp only [NY,h.key,h.mY] at hs⊢ <;>first|exact hs|skip
  obtain ⟨v0,us,h1,h2,h3⟩:=hs;exact ⟨v0,us,h1,h2.oL h.ti,h3⟩
theorem eM.oL {c c':Ctx}(h:DT c c'){Z:Nat->Prop} {φ:Ph}{w:World}{aR:Nat}{ks:List LK}{ls:List MV}(hs:eM c Z φ w aR ks ls):eM c' Z φ w aR ks ls:=by obtain ⟨cs,m,E,arr,T,h1,h2,h3,h4,h5,h6,h7⟩:=hs;refine ⟨cs,m,E,arr,T,h1,h2,h3,h4,by rw [h.key];exact h5,λf o ho=>⟨?_,(h6 f o ho).2⟩,h7⟩;rw [h.key];exact (h6 f o ho).1.oL h.ti
theorem B5.oL {c c':Ctx}(h:DT c c'){Z:Nat->Prop} {φ:Ph}{w:World}{k:Nat}{vs:List Value}{v:Value}{r:MV}(hs:B5 c Z φ w k vs v r):B5 c' Z φ w k vs v r:=by
 cases r<;>simp only [B5] at hs⊢ <;>first|exact hs.oL h|skip
 obtain ⟨h1,pos,ks,aR,off,h2,h3,h4⟩:=hs;exact ⟨h1.oL h,pos,ks,aR,off,by rw [h.sig];exact h2,h3,h4.oL h⟩
theorem dz.oL {c c':Ctx}(h:DT c c'){Z:Nat->Prop} {φ:Ph}{w:World}{k:Nat}{vs:List Value}{ms:List MV}(hs:dz c' Z φ w k vs ms):dz c Z φ w k vs ms:=by
 unfold dz at hs⊢;rw [h.cR] at hs;split
 ·rename_i hg;rw [if_pos hg] at hs;rcases hs with ⟨v0,v1,v2,xs,m1,ys,h1,h2,h3,h4,h5,h6⟩|⟨v0,v1,v2,xs,m1,m2,h1,h2,h3,h4,h5,h6⟩|⟨pos,ks,off,ls,aR,h1,h2,h3,h4,h5⟩
  ·rw [h.key,h.mY] at h3 h5;rw [h.key] at h4;exact .inl ⟨v0,v1,v2,xs,m1,ys,h1,h2,h3.oL h.ti.symm,h4,h5.oL h.ti.symm,h6⟩
  ·rw [h.key,h.mY] at h4;rw [h.key] at h5 h6;exact .inr (.inl ⟨v0,v1,v2,xs,m1,m2,h1,h2,h3,h4.oL h.ti.symm,h5,h6⟩)
  ·refine .inr (.inr ⟨pos,ks,off,ls,aR,by rw [<-h.sig];exact h1,h2,h3,by rw [<-h.key];exact h4,?_⟩);obtain ⟨cs,m,E,arr,T,k1,k2,k3,k4,k5,k6,k7⟩:=h5;refine ⟨cs,m,E,arr,T,k1,k2,k3,k4,by rw [<-h.key];exact k5,λf o ho=>⟨?_,(k6 f o ho).2⟩,k7⟩;rw [<-h.key];exact (k6 f o ho).1.oL h.ti.symm
 ·rename_i hg;rw [if_neg hg,h.key] at hs;exact hs
theorem cm.mono {P:Program}{f:FuncId}{args:Array Value}{w:World} {R R':Value->World->Prop}(hc:cm P f args w R)(h: ∀v w',R v w'->R' v w'):cm P f args w R':=by
 unfold cm at hc⊢;split
 ·rename_i jP;rw [jP] at hc;exact Calls.mono hc (λx Ba ⟨v,e,hr⟩=>⟨v,e,h v Ba hr⟩)
 ·rename_i jP;rw [jP] at hc;exact h _ _ hc
 ·rename_i h1 h2;split at hc
  ·rename_i jP;exact absurd jP (h1 _ _ _)
  ·rename_i jP;exact absurd jP (h2 _ _)
  ·exact hc
theorem fh.oL {P:Program} {c c':Ctx}{f:Nat}{ms:List MV}{r:MV}(h:DT c c')(hs:fh P c f ms r):fh P c' f ms r:=by intro φ w Z vs hz ha hi;rw [h.key] at ha;refine (hs φ w Z vs hz (ha.oL h) hi).mono ?_;rintro v w' ⟨φ',h1,h2,h3⟩;rw [h.key];exact ⟨φ',h1,h2,h3.oL h⟩
theorem DT.symm {c c':Ctx}(h:DT c c'):DT c' c:=⟨h.ti.symm,h.key.symm,h.cR.symm,h.fresh.symm,h.mY.symm,h.fk.symm,h.mt.symm,h.sig.symm,h.NC.symm⟩
theorem xK.oL {P:Program} {c c':Ctx}(h:DT c c'){g:Nat}{lb:Array Value}{S:Type}{Inv:S->(Nat->Prop)->Ph->World->Prop}{step:S->MV->Option (Bool×S)}(hp:xK P c' g lb Inv step):xK P c g lb Inv step:=⟨λh1 h2 h3 h4 h5=>hp.call h1 h2 h3 (by rw [h.key];exact h4) h5,hp.frame,hp.mono⟩
theorem xL.oL {P:Program} {c c':Ctx}(h:DT c c')(hd:xL P c):xL P c':=by intro f hf;rw [h.NC] at hf;have hx:=hd f hf;refine ⟨?_⟩;intro S Inv step g lb hp v0 xs ys w Z0 φ0 s0 s' h1 h2 h3 h4 h5 h6 h7;rw [h.key,h.mY] at h2;refine (hx.run (hp.oL h) h1 (h2.oL h.ti.symm) h3 h4 h5 h6 h7).mono ?_;rintro v W ⟨Z,φ,hW,hF,hb⟩;refine ⟨Z,φ,⟨hW.inv,hW.new,hW.sub,hW.iK,hW.tr,hW.free⟩,?_,hb⟩;rw [h.key,h.mY];exact hF.oL h.ti
def MU (c:Ctx)(n:Nat)(fn:Func)(bR:List (List Kd)):Bool:=
 !(fn.name== "runtime.NumGoroutine")&&No c.n fn.ntmps&&aed (fn.params.size+bR.length) fn.ntmps&&!c.cR n
def Jh (c:Ctx)(n:Nat)(fn:Func):Option Nat->Bool
 |none=>true
 |some ty=>No ty (c.mY n)&&(aed 1 fn.results.toList.length&&(match c.tv ty with|some _=>true|none=>false))
theorem VR {c:Ctx}{n:Nat}{fn:Func}{fresh:Option Nat}(h:Jh c n fn fresh=true): ∀ty,fresh=some ty->ty=c.mY n/\1<=fn.results.toList.length/\ ∃I,c.tv ty=some I:=by
 rintro ty rfl;simp only [Jh,bB] at h;obtain ⟨h1,h2,h3⟩:=h;refine ⟨sh h1,aaW h2,?_⟩;cases hc:c.tv ty with
 |none=>rw [hc] at h3;cases h3
 |some I=>exact ⟨I,rfl⟩
theorem jE.body {P:Program} {c c':Ctx}{g:Nat->List MV->Option MV}{n:Nat}{fn:Func}{bR:List (List Kd)}(h:jE P c g)(hl:DT c c')(hgg:c'.g=g)(kR:fZ P c.ti)(jP:RR P c.ti)(NQ: ∀t k,c.fk t=some k->P.underlying t=some (.float k))(TX:Fb P c)(Qh:P.follows .mixedOrders=true)(Jd:xL P c)(hf:P.funcs[n]? =some fn)(hh:MU c' n fn bR=true)(Ct: ∀f,c.key f=f){fresh:Option Nat}(Ip:Jh c' n fn fresh=true):jE P c (bt n (Mj c' bR fresh fn) g):=by
 have hG:Good P c':=by
  refine ⟨by rw [hl.ti];exact kR,by rw [hl.ti];exact jP,λf ms r hr=> ?_,by rw [hl.fk];exact NQ,λt s hs=>TX t s ?_⟩
  ·rw [hgg,hl.key] at hr;exact (h.all f ms r hr).oL hl
  ·rw [<-hs];unfold xl Ctx.tv;rw [hl.mt,hl.ti]
 refine h.add (λf ms r hk hr=> ?_);rw [Ct] at hk;subst hk;simp only [MU,bB,OF] at hh;obtain ⟨⟨⟨h1,h2⟩,h3⟩,h4⟩:=hh;exact (abT hG (Qg hG Qh (Jd.oL hl)) hf h1 (sh h2) (aaW h3) (by rw [hl.key,Ct];exact h4) (by rw [hl.key,Ct];exact VR Ip) hr).oL hl.symm
def Ua (c:Ctx)(n:Nat)(fn:Func)(bR:List (List Kd)):Bool:=
 !(fn.name== "runtime.NumGoroutine")&&No c.n fn.ntmps&&aed fn.ntmps 1000000&&aed (fn.params.size+bR.length) fn.ntmps&&c.cR n
theorem jE.Rk {P:Program}{c:Ctx}{g:Nat->List MV->Option MV}{n pos:Nat}{ks:List LK}{fn:Func}{bR:List (List Kd)}{F:List MV->Option MV}(h:jE P c g)(kR:fZ P c.ti)(jP:RR P c.ti)(NQ: ∀t k,c.fk t=some k->P.underlying t=some (.float k))(TX:Fb P c)(Qh:P.follows .mixedOrders=true)(Jd:xL P c)(hf:P.funcs[n]? =some fn)(xG:c.sig n=some (pos,ks))(Ct: ∀f,c.key f=f)(hF: ∀{ms r},F ms=some r-> ∃c':Ctx,DT c c'/\c'.g=g/\Ua c' n fn bR=true/\Mi c' bR pos ks fn ms=some r):jE P c (bt n F g):=by
 refine h.add (λf ms r hk hr=> ?_);rw [Ct] at hk;subst hk;obtain ⟨c',hl,hgg,hh,hr⟩:=hF hr;have hG:Good P c':=by
  refine ⟨by rw [hl.ti];exact kR,by rw [hl.ti];exact jP,λf ms r hr=> ?_,by rw [hl.fk];exact NQ,λt s hs=>TX t s ?_⟩
  ·rw [hgg,hl.key] at hr;exact (h.all f ms r hr).oL hl
  ·rw [<-hs];unfold xl Ctx.tv;rw [hl.mt,hl.ti]
 simp only [Ua,bB,OF] at hh;obtain ⟨⟨⟨⟨h1,h2⟩,Ld⟩,h3⟩,h4⟩:=hh;exact (Y1 hG (Qg hG Qh (Jd.oL hl)) hf h1 (sh h2) (aaW Ld) (aaW h3) (by rw [hl.key,Ct];exact h4) (by rw [hl.sig,hl.key,Ct];exact xG) hr).oL hl.symm
end Dn
/-
  Steps through a function of the library by hand. Conditions: none.
-/
namespace Dn
open Go
def oV (σ:Nat->Value)(d:Nat)(v:Value):Nat->Value:=λt=>bif No t d then v else σ t
def ev (σ:Nat->Value):Operand->Value
 | .tmp t=>σ t
 | .const v=>v
 | .global g=> .pointer (some ⟨g,0,none⟩)
 | .func f=> .func (.func f) #[] #[]
structure Tm (a:Act) (n:Nat) (σ:Nat->Value):Prop where
 defers:a.defers=[]
 size:a.tmps.size=n
 get: ∀t,a.tmps.getD t undef=σ t
theorem Tm.eval {a:Act}{n:Nat} {σ:Nat->Value}(h:Tm a n σ):a.eval=ev σ:=by
 funext x;cases x with
 |tmp t=>exact h.get t
 |_=>rfl
theorem Tm.put {a:Act}{n:Nat} {σ:Nat->Value}(h:Tm a n σ){d:Nat}(hd:d<n)(v:Value):Tm (a.put (some d) v) n (oV σ d v):=by
 refine ⟨h.defers,by simp [Act.put,h.size],λt=> ?_⟩;show (a.tmps.setIfInBounds d v).getD t undef=bif No t d then v else σ t;by_cases ht:t=d
 ·subst ht;have:t<a.tmps.size:=by rw [h.size];exact hd
  simp [this]
 ·have hb:No t d=false:=by
   cases hq:No t d with
   |false=>rfl
   |true=>exact absurd (sh hq) ht
  rw [hb];have:=h.get t;simp only [abv,Array.getElem?_setIfInBounds_ne (ahi ht),cond_false] at this⊢;exact this
theorem tm3 (v0 v1 v2:Value)(k:Nat):Tm {tmps:= #[v0,v1,v2]++IN k undef,defers:=[]} (k+3) (oV (oV (oV (λ_=>undef) 0 v0) 1 v1) 2 v2):=by
 refine ⟨rfl,by simp [af4],λq=> ?_⟩;by_cases h0:q=0
 ·subst h0;show (#[v0,v1,v2]++IN k undef).getD 0 undef=v0;simp [aa3]
 by_cases h1:q=1
 ·subst h1;show (#[v0,v1,v2]++IN k undef).getD 1 undef=v1;simp [aa3]
 by_cases h2:q=2
 ·subst h2;show (#[v0,v1,v2]++IN k undef).getD 2 undef=v2;simp [aa3]
 have e: ∀{x y:Nat},x≠y->No x y=false:=λ{x y} h=>by
  cases hq:No x y with
  |false=>rfl
  |true=>exact absurd (sh hq) h
 simp only [oV,e h0,e h1,e h2,cond_false];have h3:3<=q:=by omega
 simp [aa3,aft,show¬q<3 by omega];by_cases hk:q-3<k<;>simp [hk]
section
variable {P:Program}{Q:Exit->Act->World->Prop}{ops:Array Oper}{o:Oper}{a:Act} {w w':World}{n:Nat} {σ:Nat->Value}
theorem Tm.step {i d:Nat}{op:Op}{rest:List Nat}{v:Value}(af:Tm a n σ)(hi:ops[i]? =some o)(ho:ai o d op)(hd:d<n)(bA:(execOp (ev σ) o).run P w= .ok (.value v) w')(h: ∀a',Tm a' n (oV σ d v)->wpOps P ops Q rest a' w'):wpOps P ops Q (i::rest) a w:=by refine vJ hi ho.guard (v:=v) (w':=w') (by rw [af.eval];exact bA) ?_;rw [ho.dst];exact h _ (af.put hd v)
theorem az {d:Nat}{x:Operand}{e:Operand->Value}(ho:ai o d (.move x))(w:World):(execOp e o).run P w= .ok (.value (e x)) w:=by simp [execOp,ho.op]
theorem bD {d:Nat}{x:Operand}{e:Operand->Value}(ho:ai o d (.assign x))(w:World):(execOp e o).run P w= .ok (.value (e x)) w:=by simp [execOp,ho.op]
theorem j7 {d:Nat}{t el:TypeId}{x:Operand}{e:Operand->Value}{ad:Option Addr}{m c:Nat}(ho:ai o d (.call {callee:= .builtin .len,args:= #[x],argTypes:= #[t]})) (hu:P.underlying t=some (.slice el)) (hx:e x= .slice ad m c) (w:World): (execOp e o).run P w= .ok (.value (.int .i64 m)) w:=by simp [execOp,ho.op,resolve,invoke,builtin,hx,Builtin.len_,goInt,run_underlying hu]
theorem Ub {d:Nat}{t el:TypeId}{x:Operand}{e:Operand->Value}{ad:Option Addr}{m c:Nat}(ho:ai o d (.call {callee:= .builtin .cap,args:= #[x],argTypes:= #[t]})) (hu:P.underlying t=some (.slice el)) (hx:e x= .slice ad m c) (w:World): (execOp e o).run P w= .ok (.value (.int .i64 c)) w:=by simp [execOp,ho.op,resolve,invoke,builtin,hx,Builtin.cap_,goInt,run_underlying hu]
theorem s8 {d:Nat}{op:BinOp} {t t':TypeId}{x y:Operand}{e:Operand->Value}{k:IntKind}{p q:Int}{v:Value}(ho:ai o d (.binOp op t x y t'))(hx:e x= .int k p)(hy:e y= .int k q)(hv: ∀w:World,(afI op t (.int k p) (.int k q)).run P w= .ok v w)(w:World):(execOp e o).run P w= .ok (.value v) w:=by
 have hg:(eqGuard op t x y (.int k p) (.int k q)).run P w= .ok () w:=by cases op<;>rfl
 simp [execOp,ho.op,hx,hy,hg,hv]
theorem nA {d:Nat} {t t':TypeId}{x y:Operand}{e:Operand->Value}{p q:Int}(ho:ai o d (.binOp .eql t x y t'))(hx:e x= .int .i64 p)(hy:e y= .int .i64 q)(w:World): (execOp e o).run P w= .ok (.value (.bool (decide (p=q)))) w:=s8 ho hx hy (λw=>by simp [afI,ag3];rfl) w
theorem Ji {d:Nat} {t t':TypeId}{x y:Operand}{e:Operand->Value}{p q:Int}(ho:ai o d (.binOp .gtr t x y t'))(hx:e x= .int .i64 p)(hy:e y= .int .i64 q)(w:World): (execOp e o).run P w= .ok (.value (.bool (decide (q<p)))) w:=s8 ho hx hy (λw=>by simp [afI,ag3]) w
theorem iP {d:Nat} {t t':TypeId}{x y:Operand}{e:Operand->Value}{p q:Nat}(ho:ai o d (.binOp .add t x y t'))(hx:e x= .int .i64 p)(hy:e y= .int .i64 q)(hl:p+q<2^63)(w:World): (execOp e o).run P w= .ok (.value (.int .i64 ((p+q:Nat):Int))) w:=s8 ho hx hy (λw=>by
  have:IntKind.i64.wrap ((p:Int)+(q:Int))=((p+q:Nat):Int):=by rw [agI];omega
  simp [afI,Op.intArith,this]) w
theorem Za {d:Nat} {t t':TypeId}{x y:Operand}{e:Operand->Value}{p q:Nat}(ho:ai o d (.binOp .sub t x y t'))(hx:e x= .int .i64 p)(hy:e y= .int .i64 q)(hl:p<2^63)(hq:q<=p)(w:World): (execOp e o).run P w= .ok (.value (.int .i64 ((p-q:Nat):Int))) w:=s8 ho hx hy (λw=>by
  have:IntKind.i64.wrap ((p:Int)-(q:Int))=((p-q:Nat):Int):=by rw [agI];omega
  simp [afI,Op.intArith,this]) w
theorem DU {d:Nat}{t:TypeId}{x:Operand}{e:Operand->Value}{b:Bool}(ho:ai o d (.unOp .not t x))(hx:e x= .bool b)(w:World): (execOp e o).run P w= .ok (.value (.bool (!b))) w:=by simp [execOp,ho.op,hx,Op.unary]
theorem Am {d:Nat}{t el:TypeId}{x y:Operand}{e:Operand->Value}{ad:Option Addr}{m c l size:Nat}{i:TypeInfo}(ho:ai o d (.slice t x (some y) none none))(hu:P.underlying t=some (.slice el))(hi:P.info? el=some i)(hs:i.size=size)(hx:e x= .slice ad m c)(hy:e y= .int .i64 l)(hl:l<=m)(w:World):(execOp e o).run P w= .ok (.value (.slice (if c=l then ad else ad.map (·.add (l *size))) (m-l) (c-l))) w:=by simp [execOp,ho.op,afz,agn,run_underlying hu,hx,hy,ad1,typeInfo,hi,hs,adY,ad8,asIntOf,hl]
theorem DV {d:Nat}{t el:TypeId}{x y:Operand}{e:Operand->Value}{ad:Option Addr}{m c l size:Nat}{i:TypeInfo}(ho:ai o d (.slice t x none (some y) none))(hu:P.underlying t=some (.slice el))(hi:P.info? el=some i)(hs:i.size=size)(hx:e x= .slice ad m c)(hy:e y= .int .i64 l)(hl:l<=c)(w:World):(execOp e o).run P w= .ok (.value (.slice ad l c)) w:=by
 have h0: ∀q:Addr,q.add 0=q:=λq=>by obtain ⟨b,o,s⟩:=q;cases s<;>simp [Addr.add]
 have:(if c=0 then ad else ad.map (·.add (0 *size)))=ad:=by cases ad<;>simp [h0]
 simp [execOp,ho.op,afz,agn,run_underlying hu,hx,hy,ad1,typeInfo,hi,hs,adY,ad8,asIntOf,hl];cases ad<;>simp [h0]
theorem om {d:Nat}{t el:TypeId}{x y:Operand}{e:Operand->Value}{g m c l size:Nat}{i:TypeInfo}(ho:ai o d (.slice t x (some y) none none))(hu:P.underlying t=some (.slice el))(hi:P.info? el=some i)(hs:i.size=size)(hx:e x= .slice (some ⟨g,0,none⟩) m c)(hy:e y= .int .i64 l)(hl:l<=m)(hc:l<c)(w:World):(execOp e o).run P w= .ok (.value (.slice (some ⟨g,l *size,none⟩) (m-l) (c-l))) w:=by
 rw [Am ho hu hi hs hx hy hl w];have: ¬c=l:=by omega
 have h0:(⟨g,0,none⟩:Addr).add (l *size)=⟨g,l *size,none⟩:=by have:=acv g 0 (l *size);rwa [aeK] at this
 simp [this,h0]
theorem ab7 {d:Nat}{x y:Operand}{t1 t2:TypeId}{f:FuncId}{e:Operand->Value}{v1 v2 v:Value}(ho:ai o d (.call {callee:= .value (.func f),args:= #[x,y],argTypes:= #[t1,t2]})) (he:e (.func f)= .func (.func f) #[] #[]) (hx:e x=v1) (hy:e y=v2) (h:(callFunc f #[v1,v2]).run P w= .ok (.value v) w'):(execOp e o).run P w= .ok (.value v) w':=by simp [execOp,ho.op,resolve,invoke,builtin,he,hx,hy,ad7,h]
theorem Jj {d:Nat}{x y:Operand}{t1 t2:TypeId}{e:Operand->Value}{v1 v2 v:Value}(ho:ai o d (.call {callee:= .builtin .append,args:= #[x,y],argTypes:= #[t1,t2]})) (hx:e x=v1) (hy:e y=v2) (h:(acb #[t1,t2] o.type #[v1,v2]).run P w= .ok v w'):(execOp e o).run P w= .ok (.value v) w':=by simp [execOp,ho.op,resolve,invoke,builtin,hx,hy,h]
theorem DW {d:Nat}{x y:Operand}{t1 t2:TypeId}{e:Operand->Value}{v1 v2 v:Value}(ho:ai o d (.call {callee:= .builtin .copy,args:= #[x,y],argTypes:= #[t1,t2]})) (hx:e x=v1) (hy:e y=v2) (h:(abB #[t1,t2] o.type #[v1,v2]).run P w= .ok v w'):(execOp e o).run P w= .ok (.value v) w':=by simp [execOp,ho.op,resolve,invoke,builtin,hx,hy,h]
theorem qy {dT sT ty elem t:TypeId}{g o ab8 afu pU zp size k:Nat}{a:Addr}{cT:Array Value}{cs:List Value}{i:TypeInfo}(hu:P.underlying dT=some (.slice elem))(hi:P.info? elem=some i)(hs:i.size=size)(hg:w.heap[g]? =some (.cells cT t (0,0)))(hk:Nat.min pU ab8=k)(hn:cs.length=k *size)(Ae: ∀(j:Nat) v,cs[j]? =some v->w.cell? (a.add j)=some v)(zn:o+cs.length<=cT.size)(h1: ∀v∈cs,v.oneCell'=true): (abB #[dT,sT] ty #[.slice (some ⟨g,o,none⟩) ab8 afu,.slice (some a) pU zp]).run P w= .ok (goInt k) (w.setRow g (cT.toList.take o++cs++cT.toList.drop (o+cs.length)).toArray):=by have hl:=run_loadCells_list (P:=P) w a cs Ae;have dB:=run_storeCells_at P g o t cs 0 cT w hg (by simpa using zn) h1;simp only [ahk] at dB;simp [abB,run_underlying hu,Builtin.lenOf,agz,ad1,typeInfo,hi,hs,hk,<-hn,hl,dB]
def Qi (ops:Array Oper):Nat->Nat->Array Bool->Bool
 |0,i,listed=>(AT .any ops (listed.setIfInBounds i true)).isEmpty&&(AT .any ops listed==[i])
 |k+1,i,listed=>Region.free .any ops listed i&&(AT .any ops listed).contains i&&Qi ops k (i+1) (listed.setIfInBounds i true)
def Uc (ops:Array Oper):Bool:=aeJ ops&&Nat.blt 0 ops.size&&Qi ops (ops.size-1) 0 (IN ops.size false)
structure Ud (ops:Array Oper) (k i:Nat) (listed:Array Bool):Prop where
 sel:aeJ ops=true
 ord:Qi ops k i listed=true
theorem Tm.draw {N:Act->World->Prop}{i d:Nat}{op:Op}{k:Nat}{listed:Array Bool}{v:Value}(af:Tm a n σ)(hi:ops[i]? =some o)(ho:ai o d op)(hd:d<n)(hb:Ud ops (k+1) i listed)(bA: ∀w,(execOp (ev σ) o).run P w= .ok (.value v) w)(h: ∀a',Tm a' n (oV σ d v)->Ud ops k (i+1) (listed.setIfInBounds i true)->wpAny P .any ops (oS N) (k+1) (listed.setIfInBounds i true) a' w):wpAny P .any ops (oS N) (k+2) listed a w:=by obtain ⟨hs,hb⟩:=hb;simp only [Qi,bB] at hb;obtain ⟨⟨h1,h2⟩,h3⟩:=hb;refine wpAny_take hi hs h1 h2 (λc a w hq=>hq.elim) (v:=v) (.inl ⟨by simp [aas,ho.guard],λw=>by rw [af.eval];exact bA w⟩) ?_;rw [ho.dst];exact h _ (af.put hd v) ⟨hs,h3⟩
theorem Tm.last {N:Act->World->Prop}{i d:Nat}{op:Op}{listed:Array Bool}{v:Value}(af:Tm a n σ)(hi:ops[i]? =some o)(ho:ai o d op)(hd:d<n)(hb:Ud ops 0 i listed)(bA:(execOp (ev σ) o).run P w= .ok (.value v) w')(h: ∀a',Tm a' n (oV σ d v)->N a' w'):wpAny P .any ops (oS N) 1 listed a w:=by obtain ⟨hs,hb⟩:=hb;simp only [Qi,bB,List.isEmpty_iff,beq_iff_eq] at hb;obtain ⟨h1,h2⟩:=hb;refine wpAny_all h2 (by simp) ?_;intro j hj;simp only [aeZ] at hj;subst hj;unfold wpOp;simp only [hi,aas,ho.guard,if_true];left;unfold aeM;rw [af.eval,bA,adK,ho.dst];exact wpAny_done h1 (h _ (af.put hd v)) 0
theorem Ue {id k:Nat}(hm:P.follows .mixedOrders=true)(hb:Uc ops=true)(hk:ops.size=k+1)(h:Ud ops k 0 (IN (k+1) false)->wpAny P .any ops (oS λa w=>Q .normal a w) (k+1) (IN (k+1) false) a {w with drawn:=w.drawn+1}): (agN id ops true).wp P Q a w:=by simp only [Uc,bB] at hb;rw [hk] at hb;refine af3 ?_ (wp_region_any (Q:=oS λa w=>Q .normal a w) hm (by rw [hk];exact h ⟨hb.1.1,hb.2⟩));intro x a' w' hx;cases x<;>first|exact hx|exact hx.elim
theorem Tm.cond {x:Operand}{b:Bool}{A B:Code}(af:Tm a n σ)(hx:ev σ x= .bool b)(h:(if b then A else B).wp P Q a w):(Code.cond x A B).wp P Q a w:=by refine wp_cond (t:=b) (by rw [af.eval];exact hx) h
end
end Dn
/-
  slices.Insert of the library, walked. Printed by a program. Conditions: none.
-/
namespace Dn
open Go
def xM (r:Nat->Nat)(o:Nat->Oper)(tail:Code):Code:= .seq (.region (r 0) #[o 0] false) (.seq (.region (r 1) #[o 1,o 2,o 3] false) (.seq (.region (r 2) #[o 4,o 5,o 6] false) (.seq (.seq (.region (r 3) #[o 7,o 8] false) (.cond (.tmp 16) (.seq (.region (r 4) #[o 9,o 10] false) .ret) .skip)) (.seq (.region (r 5) #[o 11,o 12,o 13] false) (.seq (.seq (.region (r 6) #[o 14,o 15,o 16] false) (.cond (.tmp 22) (.seq (.region (r 7) #[o 17,o 18,o 19,o 20] false) .ret) .skip)) (.seq (.seq (.region (r 8) #[o 21,o 22,o 23,o 24,o 25,o 26] false) (.cond (.tmp 31) (.seq (.region (r 9) #[o 27,o 28,o 29,o 30,o 31,o 32,o 33,o 34,o 35,o 36] false) (.seq (.region (r 10) #[o 37,o 38,o 39,o 40,o 41] false) (.seq (.region (r 11) #[o 42,o 43,o 44,o 45,o 46,o 47,o 48,o 49,o 50] true) (.seq (.region (r 12) #[o 51,o 52] false) .ret)))) .skip)) (.seq (.region (r 13) #[o 53,o 54,o 55,o 56,o 57,o 58] false) (.seq (.seq (.region (r 14) #[o 59,o 60,o 61,o 62,o 63,o 64,o 65,o 66] false) (.cond (.tmp 68) (.seq (.region (r 15) #[o 67,o 68,o 69,o 70,o 71,o 72,o 73,o 74,o 75] true) (.seq (.region (r 16) #[o 76,o 77,o 78,o 79,o 80] false) (.seq (.region (r 17) #[o 81,o 82] false) .ret))) .skip)) tail))))))))
structure afv (t ti tb fo:Nat) (o:Nat->Oper):Prop where
 h0:ai (o 0) 6 (.assign (.const (.slice none 0 0)))
 h1:ai (o 1) 10 (.move (.tmp 0))
 h2:ai (o 2) 11 (.move (.tmp 1))
 h3:ai (o 3) 12 (.slice t (.tmp 10) (some (.tmp 11)) none none)
 h4:ai (o 4) 13 (.move (.tmp 2))
 h5:ai (o 5) 14 (.call {callee:= .builtin .len,args:= #[.tmp 13],argTypes:= #[t]})
 h6:ai (o 6) 7 (.assign (.tmp 14))
 h7:ai (o 7) 15 (.move (.tmp 7))
 h8:ai (o 8) 16 (.binOp .eql ti (.tmp 15) (.const (.int .i64 0)) ti)
 h9:ai (o 9) 17 (.move (.tmp 0))
 wg:ai (o 10) 6 (.assign (.tmp 17))
 zt:ai (o 11) 18 (.move (.tmp 0))
 ER:ai (o 12) 19 (.call {callee:= .builtin .len,args:= #[.tmp 18],argTypes:= #[t]})
 Dp:ai (o 13) 8 (.assign (.tmp 19))
 Dq:ai (o 14) 20 (.move (.tmp 1))
 Dr:ai (o 15) 21 (.move (.tmp 8))
 Bl:ai (o 16) 22 (.binOp .eql ti (.tmp 20) (.tmp 21) ti)
 DX:ai (o 17) 23 (.move (.tmp 0))
 Fl:ai (o 18) 24 (.move (.tmp 2))
 HL:ai (o 19) 25 (.call {callee:= .builtin .append,args:= #[.tmp 23,.tmp 24],argTypes:= #[t,t]})
 Lr:ai (o 20) 6 (.assign (.tmp 25))
 Fm:ai (o 21) 26 (.move (.tmp 8))
 Fo:ai (o 22) 27 (.move (.tmp 7))
 KW:ai (o 23) 28 (.binOp .add ti (.tmp 26) (.tmp 27) ti)
 KX:ai (o 24) 29 (.move (.tmp 0))
 KY:ai (o 25) 30 (.call {callee:= .builtin .cap,args:= #[.tmp 29],argTypes:= #[t]})
 Ol:ai (o 26) 31 (.binOp .gtr ti (.tmp 28) (.tmp 30) ti)
 Qj:ai (o 27) 32 (.move (.tmp 0))
 Rl:ai (o 28) 33 (.move (.tmp 1))
 Rm:ai (o 29) 34 (.slice t (.tmp 32) none (some (.tmp 33)) none)
 Om:ai (o 30) 35 (.move (.tmp 8))
 Pe:ai (o 31) 36 (.move (.tmp 7))
 Pf:ai (o 32) 37 (.binOp .add ti (.tmp 35) (.tmp 36) ti)
 Pg:ai (o 33) 38 (.move (.tmp 1))
 Qk:ai (o 34) 39 (.binOp .sub ti (.tmp 37) (.tmp 38) ti)
 Rn:ai (o 35) 40 (.call {callee:= .builtin .append,args:= #[.tmp 34,.tmp 39],argTypes:= #[t,ti]})
 Sx:ai (o 36) 9 (.assign (.tmp 40))
 Ro:ai (o 37) 41 (.move (.tmp 9))
 Sy:ai (o 38) 42 (.move (.tmp 1))
 Zd:ai (o 39) 43 (.slice t (.tmp 41) (some (.tmp 42)) none none)
 Ze:ai (o 40) 44 (.move (.tmp 2))
 Zf:ai (o 41) 45 (.call {callee:= .builtin .copy,args:= #[.tmp 43,.tmp 44],argTypes:= #[t,t]})
 Zg:ai (o 42) 46 (.move (.tmp 9))
 Zh:ai (o 43) 47 (.move (.tmp 1))
 Zj:ai (o 44) 48 (.move (.tmp 7))
 h45:ai (o 45) 49 (.binOp .add ti (.tmp 47) (.tmp 48) ti)
 h46:ai (o 46) 50 (.slice t (.tmp 46) (some (.tmp 49)) none none)
 Zk:ai (o 47) 51 (.move (.tmp 0))
 Vf:ai (o 48) 52 (.move (.tmp 1))
 Rq:ai (o 49) 53 (.slice t (.tmp 51) (some (.tmp 52)) none none)
 Sz:ai (o 50) 54 (.call {callee:= .builtin .copy,args:= #[.tmp 50,.tmp 53],argTypes:= #[t,t]})
 SA:ai (o 51) 55 (.move (.tmp 9))
 Rr:ai (o 52) 6 (.assign (.tmp 55))
 Rs:ai (o 53) 56 (.move (.tmp 0))
 Ql:ai (o 54) 57 (.move (.tmp 8))
 h55:ai (o 55) 58 (.move (.tmp 7))
 h56:ai (o 56) 59 (.binOp .add ti (.tmp 57) (.tmp 58) ti)
 h57:ai (o 57) 60 (.slice t (.tmp 56) none (some (.tmp 59)) none)
 h58:ai (o 58) 0 (.assign (.tmp 60))
 h59:ai (o 59) 61 (.move (.tmp 2))
 h60:ai (o 60) 62 (.move (.tmp 0))
 h61:ai (o 61) 63 (.move (.tmp 1))
 h62:ai (o 62) 64 (.move (.tmp 7))
 h63:ai (o 63) 65 (.binOp .add ti (.tmp 63) (.tmp 64) ti)
 h64:ai (o 64) 66 (.slice t (.tmp 62) (some (.tmp 65)) none none)
 h65:ai (o 65) 67 (.call {callee:= .value (.func fo),args:= #[.tmp 61,.tmp 66],argTypes:= #[t,t]})
 h66:ai (o 66) 68 (.unOp .not tb (.tmp 67))
 h67:ai (o 67) 69 (.move (.tmp 0))
 h68:ai (o 68) 70 (.move (.tmp 1))
 h69:ai (o 69) 71 (.move (.tmp 7))
 h70:ai (o 70) 72 (.binOp .add ti (.tmp 70) (.tmp 71) ti)
 h71:ai (o 71) 73 (.slice t (.tmp 69) (some (.tmp 72)) none none)
 h72:ai (o 72) 74 (.move (.tmp 0))
 h73:ai (o 73) 75 (.move (.tmp 1))
 h74:ai (o 74) 76 (.slice t (.tmp 74) (some (.tmp 75)) none none)
 h75:ai (o 75) 77 (.call {callee:= .builtin .copy,args:= #[.tmp 73,.tmp 76],argTypes:= #[t,t]})
 h76:ai (o 76) 78 (.move (.tmp 0))
 h77:ai (o 77) 79 (.move (.tmp 1))
 h78:ai (o 78) 80 (.slice t (.tmp 78) (some (.tmp 79)) none none)
 h79:ai (o 79) 81 (.move (.tmp 2))
 h80:ai (o 80) 82 (.call {callee:= .builtin .copy,args:= #[.tmp 80,.tmp 81],argTypes:= #[t,t]})
 h81:ai (o 81) 83 (.move (.tmp 0))
 h82:ai (o 82) 6 (.assign (.tmp 83))
 d11:Uc #[o 42,o 43,o 44,o 45,o 46,o 47,o 48,o 49,o 50]=true
 d15:Uc #[o 67,o 68,o 69,o 70,o 71,o 72,o 73,o 74,o 75]=true
structure Jk (P:Program) (f t ti tb el fo:Nat) (fn:Func) (r:Nat->Nat) (o:Nat->Oper) (tail:Code):Prop where
 pos:P.funcs[f]? =some fn
 name:(fn.name== "runtime.NumGoroutine")=false
 tmps:fn.ntmps=95
 res:fn.results= #[.tmp 6]
 body:fn.body=some (xM r o tail)
 ops:afv t ti tb fo o
 Zl:P.follows .mixedOrders=true
 vK:P.underlying t=some (.slice el)
section
variable {P:Program}{f t ti tb el fo:Nat}{fn:Func}{r:Nat->Nat}{o:Nat->Oper}{tail:Code}{ie:TypeInfo}{size n m c c2 i g g2:Nat}{ad:Option Addr}{w:World}
theorem On {a:Act}{w:World} {σ:Nat->Value}{R:Ending->World->Prop}{v:Value}(hr:fn.results= #[.tmp 6])(af:Tm a 95 σ)(h6:σ 6=v)(h:R (.returned v) w):bodyPost P fn R .ret a w:=by
 refine ⟨af.defers,v,?_,h⟩;have h2:a.tmps[6]?.getD undef=v:=by have:=af.get 6;rw [h6] at this;simpa using this
 simp [results,hr,h2]
theorem ab9 (hf:Jk P f t ti tb el fo fn r o tail)(qw:P.info? el=some ie)(vL:ie.size=size)(hm:0<m)(hn:n<=c)(hc:c<2^63)(hnm:n+m<2^63)(hi:i=n){v:Value}{w1:World}(bA: ∀ty,(acb #[t,t] ty #[.slice ad n c,.slice (some ⟨g2,0,none⟩) m c2]).run P w= .ok v w1) :Calls P f #[.slice ad n c,.int .i64 ((i:Nat):Int),.slice (some ⟨g2,0,none⟩) m c2] w λx w'=>x= .returned v/\w'=w1:=by
 refine calls_of_wp hf.pos hf.body ?_;rw [hf.tmps];have key: ∀a:Act,Tm a 95 (oV (oV (oV (λ_=>undef) 0 (.slice ad n c)) 1 (.int .i64 ((i:Nat):Int))) 2 (.slice (some ⟨g2,0,none⟩) m c2))->(xM r o tail).wp P (bodyPost P fn λx w'=>x= .returned v/\w'=w1) a w:=by intro a af;unfold xM;refine wp_seq (wp_region ?_);rw [show AI (#[o 0]:Array Oper).size=[0] from rfl];refine af.step (v:= .slice none 0 0) rfl hf.ops.h0 (by decide) (bD hf.ops.h0 _) (λa af=> ?_);refine wp_seq (wp_region ?_);rw [show AI (#[o 1,o 2,o 3]:Array Oper).size=[0,1,2] from rfl];refine af.step (v:= .slice ad n c) rfl hf.ops.h1 (by decide) (az hf.ops.h1 _) (λa af=> ?_);refine af.step (v:= .int .i64 ((i:Nat):Int)) rfl hf.ops.h2 (by decide) (az hf.ops.h2 _) (λa af=> ?_);refine af.step (v:= .slice (if c=i then ad else (ad:Option Addr).map (·.add (i *size))) (n-i) (c-i)) rfl hf.ops.h3 (by decide) (Am hf.ops.h3 hf.vK qw vL rfl rfl (by omega) _) (λa af=> ?_);refine wp_seq (wp_region ?_);rw [show AI (#[o 4,o 5,o 6]:Array Oper).size=[0,1,2] from rfl];refine af.step (v:= .slice (some ⟨g2,0,none⟩) m c2) rfl hf.ops.h4 (by decide) (az hf.ops.h4 _) (λa af=> ?_);refine af.step (v:= .int .i64 ((m:Nat):Int)) rfl hf.ops.h5 (by decide) (j7 hf.ops.h5 hf.vK rfl _) (λa af=> ?_);refine af.step (v:= .int .i64 ((m:Nat):Int)) rfl hf.ops.h6 (by decide) (bD hf.ops.h6 _) (λa af=> ?_);refine wp_seq ?_;refine wp_seq (wp_region ?_);rw [show AI (#[o 7,o 8]:Array Oper).size=[0,1] from rfl];refine af.step (v:= .int .i64 ((m:Nat):Int)) rfl hf.ops.h7 (by decide) (az hf.ops.h7 _) (λa af=> ?_);refine af.step (v:= .bool (decide (((m:Nat):Int)=((0:Nat):Int)))) rfl hf.ops.h8 (by decide) (nA hf.ops.h8 rfl rfl _) (λa af=> ?_);refine af.cond (b:=false) (by show abQ (decide (((m:Nat):Int)=((0:Nat):Int)))=_;rw [decide_eq_false (by omega)]) ?_;simp only [IT,if_false];refine wp_skip ?_;refine wp_seq (wp_region ?_);rw [show AI (#[o 11,o 12,o 13]:Array Oper).size=[0,1,2] from rfl];refine af.step (v:= .slice ad n c) rfl hf.ops.zt (by decide) (az hf.ops.zt _) (λa af=> ?_);refine af.step (v:= .int .i64 ((n:Nat):Int)) rfl hf.ops.ER (by decide) (j7 hf.ops.ER hf.vK rfl _) (λa af=> ?_);refine af.step (v:= .int .i64 ((n:Nat):Int)) rfl hf.ops.Dp (by decide) (bD hf.ops.Dp _) (λa af=> ?_);refine wp_seq ?_;refine wp_seq (wp_region ?_);rw [show AI (#[o 14,o 15,o 16]:Array Oper).size=[0,1,2] from rfl];refine af.step (v:= .int .i64 ((i:Nat):Int)) rfl hf.ops.Dq (by decide) (az hf.ops.Dq _) (λa af=> ?_);refine af.step (v:= .int .i64 ((n:Nat):Int)) rfl hf.ops.Dr (by decide) (az hf.ops.Dr _) (λa af=> ?_);refine af.step (v:= .bool (decide (((i:Nat):Int)=((n:Nat):Int)))) rfl hf.ops.Bl (by decide) (nA hf.ops.Bl rfl rfl _) (λa af=> ?_);refine af.cond (b:=true) (by show abQ (decide (((i:Nat):Int)=((n:Nat):Int)))=_;rw [decide_eq_true (by omega)]) ?_;simp only [if_true];refine wp_seq (wp_region ?_);rw [show AI (#[o 17,o 18,o 19,o 20]:Array Oper).size=[0,1,2,3] from rfl];refine af.step (v:= .slice ad n c) rfl hf.ops.DX (by decide) (az hf.ops.DX _) (λa af=> ?_);refine af.step (v:= .slice (some ⟨g2,0,none⟩) m c2) rfl hf.ops.Fl (by decide) (az hf.ops.Fl _) (λa af=> ?_);refine af.step (v:=v) rfl hf.ops.HL (by decide) (Jj hf.ops.HL rfl rfl (bA _)) (λa af=> ?_);refine af.step (v:=v) rfl hf.ops.Lr (by decide) (bD hf.ops.Lr _) (λa af=> ?_);refine wp_ret ?_;show bodyPost P fn (λx wq=>x= .returned (v)/\wq=w1) .ret a w1;refine On hf.res af (v:=v) rfl ?_;exact ⟨rfl,rfl⟩
 exact key _ (tm3 _ _ _ 92)
theorem Zm (hf:Jk P f t ti tb el fo fn r o tail)(qw:P.info? el=some ie)(vL:ie.size=size)(hm:0<m)(hn:n<=c)(hc:c<2^63)(hnm:n+m<2^63)(hi:i<n)(uN:c<n+m){g9 G:Nat}{v1 v2:Value}{w1 w2 w3:World}(hG:n+m<=G)(hA: ∀ty,(acb #[t,ti] ty #[.slice (some ⟨g,0,none⟩) i c,.int .i64 ((n+m-i:Nat):Int)]).run P w= .ok (.slice (some ⟨g9,0,none⟩) (n+m) G) w1)(hB: ∀ty,(abB #[t,t] ty #[.slice (some ⟨g9,i *size,none⟩) (n+m-i) (G-i),.slice (some ⟨g2,0,none⟩) m c2]).run P w1= .ok v1 w2)(hC: ∀ty,(abB #[t,t] ty #[.slice (some ⟨g9,(i+m) *size,none⟩) (n+m-(i+m)) (G-(i+m)),.slice (some ⟨g,i *size,none⟩) (n-i) (c-i)]).run P {w2 with drawn:=w2.drawn+1}= .ok v2 w3) :Calls P f #[.slice (some ⟨g,0,none⟩) n c,.int .i64 ((i:Nat):Int),.slice (some ⟨g2,0,none⟩) m c2] w λx w'=>x= .returned (.slice (some ⟨g9,0,none⟩) (n+m) G)/\w'=w3:=by
 refine calls_of_wp hf.pos hf.body ?_;rw [hf.tmps];have key: ∀a:Act,Tm a 95 (oV (oV (oV (λ_=>undef) 0 (.slice (some ⟨g,0,none⟩) n c)) 1 (.int .i64 ((i:Nat):Int))) 2 (.slice (some ⟨g2,0,none⟩) m c2))->(xM r o tail).wp P (bodyPost P fn λx w'=>x= .returned (.slice (some ⟨g9,0,none⟩) (n+m) G)/\w'=w3) a w:=by intro a af;unfold xM;refine wp_seq (wp_region ?_);rw [show AI (#[o 0]:Array Oper).size=[0] from rfl];refine af.step (v:= .slice none 0 0) rfl hf.ops.h0 (by decide) (bD hf.ops.h0 _) (λa af=> ?_);refine wp_seq (wp_region ?_);rw [show AI (#[o 1,o 2,o 3]:Array Oper).size=[0,1,2] from rfl];refine af.step (v:= .slice (some ⟨g,0,none⟩) n c) rfl hf.ops.h1 (by decide) (az hf.ops.h1 _) (λa af=> ?_);refine af.step (v:= .int .i64 ((i:Nat):Int)) rfl hf.ops.h2 (by decide) (az hf.ops.h2 _) (λa af=> ?_);refine af.step (v:= .slice (if c=i then (some ⟨g,0,none⟩) else ((some ⟨g,0,none⟩):Option Addr).map (·.add (i *size))) (n-i) (c-i)) rfl hf.ops.h3 (by decide) (Am hf.ops.h3 hf.vK qw vL rfl rfl (by omega) _) (λa af=> ?_);refine wp_seq (wp_region ?_);rw [show AI (#[o 4,o 5,o 6]:Array Oper).size=[0,1,2] from rfl];refine af.step (v:= .slice (some ⟨g2,0,none⟩) m c2) rfl hf.ops.h4 (by decide) (az hf.ops.h4 _) (λa af=> ?_);refine af.step (v:= .int .i64 ((m:Nat):Int)) rfl hf.ops.h5 (by decide) (j7 hf.ops.h5 hf.vK rfl _) (λa af=> ?_);refine af.step (v:= .int .i64 ((m:Nat):Int)) rfl hf.ops.h6 (by decide) (bD hf.ops.h6 _) (λa af=> ?_);refine wp_seq ?_;refine wp_seq (wp_region ?_);rw [show AI (#[o 7,o 8]:Array Oper).size=[0,1] from rfl];refine af.step (v:= .int .i64 ((m:Nat):Int)) rfl hf.ops.h7 (by decide) (az hf.ops.h7 _) (λa af=> ?_);refine af.step (v:= .bool (decide (((m:Nat):Int)=((0:Nat):Int)))) rfl hf.ops.h8 (by decide) (nA hf.ops.h8 rfl rfl _) (λa af=> ?_);refine af.cond (b:=false) (by show abQ (decide (((m:Nat):Int)=((0:Nat):Int)))=_;rw [decide_eq_false (by omega)]) ?_;simp only [IT,if_false];refine wp_skip ?_;refine wp_seq (wp_region ?_);rw [show AI (#[o 11,o 12,o 13]:Array Oper).size=[0,1,2] from rfl];refine af.step (v:= .slice (some ⟨g,0,none⟩) n c) rfl hf.ops.zt (by decide) (az hf.ops.zt _) (λa af=> ?_);refine af.step (v:= .int .i64 ((n:Nat):Int)) rfl hf.ops.ER (by decide) (j7 hf.ops.ER hf.vK rfl _) (λa af=> ?_);refine af.step (v:= .int .i64 ((n:Nat):Int)) rfl hf.ops.Dp (by decide) (bD hf.ops.Dp _) (λa af=> ?_);refine wp_seq ?_;refine wp_seq (wp_region ?_);rw [show AI (#[o 14,o 15,o 16]:Array Oper).size=[0,1,2] from rfl];refine af.step (v:= .int .i64 ((i:Nat):Int)) rfl hf.ops.Dq (by decide) (az hf.ops.Dq _) (λa af=> ?_);refine af.step (v:= .int .i64 ((n:Nat):Int)) rfl hf.ops.Dr (by decide) (az hf.ops.Dr _) (λa af=> ?_);refine af.step (v:= .bool (decide (((i:Nat):Int)=((n:Nat):Int)))) rfl hf.ops.Bl (by decide) (nA hf.ops.Bl rfl rfl _) (λa af=> ?_);refine af.cond (b:=false) (by show abQ (decide (((i:Nat):Int)=((n:Nat):Int)))=_;rw [decide_eq_false (by omega)]) ?_;simp only [IT,if_false];refine wp_skip ?_;refine wp_seq ?_;refine wp_seq (wp_region ?_);rw [show AI (#[o 21,o 22,o 23,o 24,o 25,o 26]:Array Oper).size=[0,1,2,3,4,5] from rfl];refine af.step (v:= .int .i64 ((n:Nat):Int)) rfl hf.ops.Fm (by decide) (az hf.ops.Fm _) (λa af=> ?_);refine af.step (v:= .int .i64 ((m:Nat):Int)) rfl hf.ops.Fo (by decide) (az hf.ops.Fo _) (λa af=> ?_);refine af.step (v:= .int .i64 ((n+m:Nat):Int)) rfl hf.ops.KW (by decide) (iP hf.ops.KW rfl rfl (by omega) _) (λa af=> ?_);refine af.step (v:= .slice (some ⟨g,0,none⟩) n c) rfl hf.ops.KX (by decide) (az hf.ops.KX _) (λa af=> ?_);refine af.step (v:= .int .i64 ((c:Nat):Int)) rfl hf.ops.KY (by decide) (Ub hf.ops.KY hf.vK rfl _) (λa af=> ?_);refine af.step (v:= .bool (decide (((c:Nat):Int)<(((n+m):Nat):Int)))) rfl hf.ops.Ol (by decide) (Ji hf.ops.Ol rfl rfl _) (λa af=> ?_);refine af.cond (b:=true) (by show abQ (decide (((c:Nat):Int)<((n+m:Nat):Int)))=_;rw [decide_eq_true (by omega)]) ?_;simp only [if_true];refine wp_seq (wp_region ?_);rw [show AI (#[o 27,o 28,o 29,o 30,o 31,o 32,o 33,o 34,o 35,o 36]:Array Oper).size=[0,1,2,3,4,5,6,7,8,9] from rfl];refine af.step (v:= .slice (some ⟨g,0,none⟩) n c) rfl hf.ops.Qj (by decide) (az hf.ops.Qj _) (λa af=> ?_);refine af.step (v:= .int .i64 ((i:Nat):Int)) rfl hf.ops.Rl (by decide) (az hf.ops.Rl _) (λa af=> ?_);refine af.step (v:= .slice (some ⟨g,0,none⟩) i c) rfl hf.ops.Rm (by decide) (DV hf.ops.Rm hf.vK qw vL rfl rfl (by omega) _) (λa af=> ?_);refine af.step (v:= .int .i64 ((n:Nat):Int)) rfl hf.ops.Om (by decide) (az hf.ops.Om _) (λa af=> ?_);refine af.step (v:= .int .i64 ((m:Nat):Int)) rfl hf.ops.Pe (by decide) (az hf.ops.Pe _) (λa af=> ?_);refine af.step (v:= .int .i64 ((n+m:Nat):Int)) rfl hf.ops.Pf (by decide) (iP hf.ops.Pf rfl rfl (by omega) _) (λa af=> ?_);refine af.step (v:= .int .i64 ((i:Nat):Int)) rfl hf.ops.Pg (by decide) (az hf.ops.Pg _) (λa af=> ?_);refine af.step (v:= .int .i64 (((n+m)-i:Nat):Int)) rfl hf.ops.Qk (by decide) (Za hf.ops.Qk rfl rfl (by omega) (by omega) _) (λa af=> ?_);refine af.step (v:= .slice (some ⟨g9,0,none⟩) (n+m) G) rfl hf.ops.Rn (by decide) (Jj hf.ops.Rn rfl rfl (hA _)) (λa af=> ?_);refine af.step (v:= .slice (some ⟨g9,0,none⟩) (n+m) G) rfl hf.ops.Sx (by decide) (bD hf.ops.Sx _) (λa af=> ?_);refine wp_seq (wp_region ?_);rw [show AI (#[o 37,o 38,o 39,o 40,o 41]:Array Oper).size=[0,1,2,3,4] from rfl];refine af.step (v:= .slice (some ⟨g9,0,none⟩) (n+m) G) rfl hf.ops.Ro (by decide) (az hf.ops.Ro _) (λa af=> ?_);refine af.step (v:= .int .i64 ((i:Nat):Int)) rfl hf.ops.Sy (by decide) (az hf.ops.Sy _) (λa af=> ?_);refine af.step (v:= .slice (some ⟨g9,i *size,none⟩) (n+m-i) (G-i)) rfl hf.ops.Zd (by decide) (om hf.ops.Zd hf.vK qw vL rfl rfl (by omega) (by omega) _) (λa af=> ?_);refine af.step (v:= .slice (some ⟨g2,0,none⟩) m c2) rfl hf.ops.Ze (by decide) (az hf.ops.Ze _) (λa af=> ?_);refine af.step (v:=v1) rfl hf.ops.Zf (by decide) (DW hf.ops.Zf rfl rfl (hB _)) (λa af=> ?_);refine wp_seq (Ue hf.Zl hf.ops.d11 (k:=8) rfl λgl=> ?_);refine af.draw (v:= .slice (some ⟨g9,0,none⟩) (n+m) G) rfl hf.ops.Zg (by decide) gl (λw=>az hf.ops.Zg _) (λa af gl=> ?_);refine af.draw (v:= .int .i64 ((i:Nat):Int)) rfl hf.ops.Zh (by decide) gl (λw=>az hf.ops.Zh _) (λa af gl=> ?_);refine af.draw (v:= .int .i64 ((m:Nat):Int)) rfl hf.ops.Zj (by decide) gl (λw=>az hf.ops.Zj _) (λa af gl=> ?_);refine af.draw (v:= .int .i64 ((i+m:Nat):Int)) rfl hf.ops.h45 (by decide) gl (λw=>iP hf.ops.h45 rfl rfl (by omega) _) (λa af gl=> ?_);refine af.draw (v:= .slice (some ⟨g9,(i+m) *size,none⟩) (n+m-(i+m)) (G-(i+m))) rfl hf.ops.h46 (by decide) gl (λw=>om hf.ops.h46 hf.vK qw vL rfl rfl (by omega) (by omega) _) (λa af gl=> ?_);refine af.draw (v:= .slice (some ⟨g,0,none⟩) n c) rfl hf.ops.Zk (by decide) gl (λw=>az hf.ops.Zk _) (λa af gl=> ?_);refine af.draw (v:= .int .i64 ((i:Nat):Int)) rfl hf.ops.Vf (by decide) gl (λw=>az hf.ops.Vf _) (λa af gl=> ?_);refine af.draw (v:= .slice (some ⟨g,i *size,none⟩) (n-i) (c-i)) rfl hf.ops.Rq (by decide) gl (λw=>om hf.ops.Rq hf.vK qw vL rfl rfl (by omega) (by omega) _) (λa af gl=> ?_);refine af.last (v:=v2) rfl hf.ops.Sz (by decide) gl (DW hf.ops.Sz rfl rfl (hC _)) (λa af=> ?_);refine wp_seq (wp_region ?_);rw [show AI (#[o 51,o 52]:Array Oper).size=[0,1] from rfl];refine af.step (v:= .slice (some ⟨g9,0,none⟩) (n+m) G) rfl hf.ops.SA (by decide) (az hf.ops.SA _) (λa af=> ?_);refine af.step (v:= .slice (some ⟨g9,0,none⟩) (n+m) G) rfl hf.ops.Rr (by decide) (bD hf.ops.Rr _) (λa af=> ?_);refine wp_ret ?_;show bodyPost P fn (λx wq=>x= .returned (.slice (some ⟨g9,0,none⟩) (n+m) G)/\wq=w3) .ret a w3;refine On hf.res af (v:= .slice (some ⟨g9,0,none⟩) (n+m) G) rfl ?_;exact ⟨rfl,rfl⟩
 exact key _ (tm3 _ _ _ 92)
theorem Zn (hf:Jk P f t ti tb el fo fn r o tail)(qw:P.info? el=some ie)(vL:ie.size=size)(hm:0<m)(hn:n<=c)(hc:c<2^63)(hnm:n+m<2^63)(hi:i<n)(uN:n+m<=c){v1 v2:Value}{w1 w2:World}(hO:(callFunc fo #[.slice (some ⟨g2,0,none⟩) m c2,.slice (some ⟨g,(i+m) *size,none⟩) (n+m-(i+m)) (c-(i+m))]).run P w= .ok (.value (.bool false)) w)(hB: ∀ty,(abB #[t,t] ty #[.slice (some ⟨g,(i+m) *size,none⟩) (n+m-(i+m)) (c-(i+m)),.slice (some ⟨g,i *size,none⟩) (n+m-i) (c-i)]).run P {w with drawn:=w.drawn+1}= .ok v1 w1) (hC: ∀ty,(abB #[t,t] ty #[.slice (some ⟨g,i *size,none⟩) (n+m-i) (c-i),.slice (some ⟨g2,0,none⟩) m c2]).run P w1= .ok v2 w2) :Calls P f #[.slice (some ⟨g,0,none⟩) n c,.int .i64 ((i:Nat):Int),.slice (some ⟨g2,0,none⟩) m c2] w λx w'=>x= .returned (.slice (some ⟨g,0,none⟩) (n+m) c)/\w'=w2:=by
 refine calls_of_wp hf.pos hf.body ?_;rw [hf.tmps];have key: ∀a:Act,Tm a 95 (oV (oV (oV (λ_=>undef) 0 (.slice (some ⟨g,0,none⟩) n c)) 1 (.int .i64 ((i:Nat):Int))) 2 (.slice (some ⟨g2,0,none⟩) m c2))->(xM r o tail).wp P (bodyPost P fn λx w'=>x= .returned (.slice (some ⟨g,0,none⟩) (n+m) c)/\w'=w2) a w:=by intro a af;unfold xM;refine wp_seq (wp_region ?_);rw [show AI (#[o 0]:Array Oper).size=[0] from rfl];refine af.step (v:= .slice none 0 0) rfl hf.ops.h0 (by decide) (bD hf.ops.h0 _) (λa af=> ?_);refine wp_seq (wp_region ?_);rw [show AI (#[o 1,o 2,o 3]:Array Oper).size=[0,1,2] from rfl];refine af.step (v:= .slice (some ⟨g,0,none⟩) n c) rfl hf.ops.h1 (by decide) (az hf.ops.h1 _) (λa af=> ?_);refine af.step (v:= .int .i64 ((i:Nat):Int)) rfl hf.ops.h2 (by decide) (az hf.ops.h2 _) (λa af=> ?_);refine af.step (v:= .slice (if c=i then (some ⟨g,0,none⟩) else ((some ⟨g,0,none⟩):Option Addr).map (·.add (i *size))) (n-i) (c-i)) rfl hf.ops.h3 (by decide) (Am hf.ops.h3 hf.vK qw vL rfl rfl (by omega) _) (λa af=> ?_);refine wp_seq (wp_region ?_);rw [show AI (#[o 4,o 5,o 6]:Array Oper).size=[0,1,2] from rfl];refine af.step (v:= .slice (some ⟨g2,0,none⟩) m c2) rfl hf.ops.h4 (by decide) (az hf.ops.h4 _) (λa af=> ?_);refine af.step (v:= .int .i64 ((m:Nat):Int)) rfl hf.ops.h5 (by decide) (j7 hf.ops.h5 hf.vK rfl _) (λa af=> ?_);refine af.step (v:= .int .i64 ((m:Nat):Int)) rfl hf.ops.h6 (by decide) (bD hf.ops.h6 _) (λa af=> ?_);refine wp_seq ?_;refine wp_seq (wp_region ?_);rw [show AI (#[o 7,o 8]:Array Oper).size=[0,1] from rfl];refine af.step (v:= .int .i64 ((m:Nat):Int)) rfl hf.ops.h7 (by decide) (az hf.ops.h7 _) (λa af=> ?_);refine af.step (v:= .bool (decide (((m:Nat):Int)=((0:Nat):Int)))) rfl hf.ops.h8 (by decide) (nA hf.ops.h8 rfl rfl _) (λa af=> ?_);refine af.cond (b:=false) (by show abQ (decide (((m:Nat):Int)=((0:Nat):Int)))=_;rw [decide_eq_false (by omega)]) ?_;simp only [IT,if_false];refine wp_skip ?_;refine wp_seq (wp_region ?_);rw [show AI (#[o 11,o 12,o 13]:Array Oper).size=[0,1,2] from rfl];refine af.step (v:= .slice (some ⟨g,0,none⟩) n c) rfl hf.ops.zt (by decide) (az hf.ops.zt _) (λa af=> ?_);refine af.step (v:= .int .i64 ((n:Nat):Int)) rfl hf.ops.ER (by decide) (j7 hf.ops.ER hf.vK rfl _) (λa af=> ?_);refine af.step (v:= .int .i64 ((n:Nat):Int)) rfl hf.ops.Dp (by decide) (bD hf.ops.Dp _) (λa af=> ?_);refine wp_seq ?_;refine wp_seq (wp_region ?_);rw [show AI (#[o 14,o 15,o 16]:Array Oper).size=[0,1,2] from rfl];refine af.step (v:= .int .i64 ((i:Nat):Int)) rfl hf.ops.Dq (by decide) (az hf.ops.Dq _) (λa af=> ?_);refine af.step (v:= .int .i64 ((n:Nat):Int)) rfl hf.ops.Dr (by decide) (az hf.ops.Dr _) (λa af=> ?_);refine af.step (v:= .bool (decide (((i:Nat):Int)=((n:Nat):Int)))) rfl hf.ops.Bl (by decide) (nA hf.ops.Bl rfl rfl _) (λa af=> ?_);refine af.cond (b:=false) (by show abQ (decide (((i:Nat):Int)=((n:Nat):Int)))=_;rw [decide_eq_false (by omega)]) ?_;simp only [IT,if_false];refine wp_skip ?_;refine wp_seq ?_;refine wp_seq (wp_region ?_);rw [show AI (#[o 21,o 22,o 23,o 24,o 25,o 26]:Array Oper).size=[0,1,2,3,4,5] from rfl];refine af.step (v:= .int .i64 ((n:Nat):Int)) rfl hf.ops.Fm (by decide) (az hf.ops.Fm _) (λa af=> ?_);refine af.step (v:= .int .i64 ((m:Nat):Int)) rfl hf.ops.Fo (by decide) (az hf.ops.Fo _) (λa af=> ?_);refine af.step (v:= .int .i64 ((n+m:Nat):Int)) rfl hf.ops.KW (by decide) (iP hf.ops.KW rfl rfl (by omega) _) (λa af=> ?_);refine af.step (v:= .slice (some ⟨g,0,none⟩) n c) rfl hf.ops.KX (by decide) (az hf.ops.KX _) (λa af=> ?_);refine af.step (v:= .int .i64 ((c:Nat):Int)) rfl hf.ops.KY (by decide) (Ub hf.ops.KY hf.vK rfl _) (λa af=> ?_);refine af.step (v:= .bool (decide (((c:Nat):Int)<(((n+m):Nat):Int)))) rfl hf.ops.Ol (by decide) (Ji hf.ops.Ol rfl rfl _) (λa af=> ?_);refine af.cond (b:=false) (by show abQ (decide (((c:Nat):Int)<((n+m:Nat):Int)))=_;rw [decide_eq_false (by omega)]) ?_;simp only [IT,if_false];refine wp_skip ?_;refine wp_seq (wp_region ?_);rw [show AI (#[o 53,o 54,o 55,o 56,o 57,o 58]:Array Oper).size=[0,1,2,3,4,5] from rfl];refine af.step (v:= .slice (some ⟨g,0,none⟩) n c) rfl hf.ops.Rs (by decide) (az hf.ops.Rs _) (λa af=> ?_);refine af.step (v:= .int .i64 ((n:Nat):Int)) rfl hf.ops.Ql (by decide) (az hf.ops.Ql _) (λa af=> ?_);refine af.step (v:= .int .i64 ((m:Nat):Int)) rfl hf.ops.h55 (by decide) (az hf.ops.h55 _) (λa af=> ?_);refine af.step (v:= .int .i64 ((n+m:Nat):Int)) rfl hf.ops.h56 (by decide) (iP hf.ops.h56 rfl rfl (by omega) _) (λa af=> ?_);refine af.step (v:= .slice (some ⟨g,0,none⟩) (n+m) c) rfl hf.ops.h57 (by decide) (DV hf.ops.h57 hf.vK qw vL rfl rfl (by omega) _) (λa af=> ?_);refine af.step (v:= .slice (some ⟨g,0,none⟩) (n+m) c) rfl hf.ops.h58 (by decide) (bD hf.ops.h58 _) (λa af=> ?_);refine wp_seq ?_;refine wp_seq (wp_region ?_);rw [show AI (#[o 59,o 60,o 61,o 62,o 63,o 64,o 65,o 66]:Array Oper).size=[0,1,2,3,4,5,6,7] from rfl];refine af.step (v:= .slice (some ⟨g2,0,none⟩) m c2) rfl hf.ops.h59 (by decide) (az hf.ops.h59 _) (λa af=> ?_);refine af.step (v:= .slice (some ⟨g,0,none⟩) (n+m) c) rfl hf.ops.h60 (by decide) (az hf.ops.h60 _) (λa af=> ?_);refine af.step (v:= .int .i64 ((i:Nat):Int)) rfl hf.ops.h61 (by decide) (az hf.ops.h61 _) (λa af=> ?_);refine af.step (v:= .int .i64 ((m:Nat):Int)) rfl hf.ops.h62 (by decide) (az hf.ops.h62 _) (λa af=> ?_);refine af.step (v:= .int .i64 ((i+m:Nat):Int)) rfl hf.ops.h63 (by decide) (iP hf.ops.h63 rfl rfl (by omega) _) (λa af=> ?_);refine af.step (v:= .slice (some ⟨g,(i+m) *size,none⟩) (n+m-(i+m)) (c-(i+m))) rfl hf.ops.h64 (by decide) (om hf.ops.h64 hf.vK qw vL rfl rfl (by omega) (by omega) _) (λa af=> ?_);refine af.step (v:= .bool false) rfl hf.ops.h65 (by decide) (ab7 hf.ops.h65 rfl rfl rfl hO) (λa af=> ?_);refine af.step (v:= .bool (!false)) rfl hf.ops.h66 (by decide) (DU hf.ops.h66 rfl _) (λa af=> ?_);refine af.cond (b:=true) rfl ?_;simp only [if_true];refine wp_seq (Ue hf.Zl hf.ops.d15 (k:=8) rfl λgl=> ?_);refine af.draw (v:= .slice (some ⟨g,0,none⟩) (n+m) c) rfl hf.ops.h67 (by decide) gl (λw=>az hf.ops.h67 _) (λa af gl=> ?_);refine af.draw (v:= .int .i64 ((i:Nat):Int)) rfl hf.ops.h68 (by decide) gl (λw=>az hf.ops.h68 _) (λa af gl=> ?_);refine af.draw (v:= .int .i64 ((m:Nat):Int)) rfl hf.ops.h69 (by decide) gl (λw=>az hf.ops.h69 _) (λa af gl=> ?_);refine af.draw (v:= .int .i64 ((i+m:Nat):Int)) rfl hf.ops.h70 (by decide) gl (λw=>iP hf.ops.h70 rfl rfl (by omega) _) (λa af gl=> ?_);refine af.draw (v:= .slice (some ⟨g,(i+m) *size,none⟩) (n+m-(i+m)) (c-(i+m))) rfl hf.ops.h71 (by decide) gl (λw=>om hf.ops.h71 hf.vK qw vL rfl rfl (by omega) (by omega) _) (λa af gl=> ?_);refine af.draw (v:= .slice (some ⟨g,0,none⟩) (n+m) c) rfl hf.ops.h72 (by decide) gl (λw=>az hf.ops.h72 _) (λa af gl=> ?_);refine af.draw (v:= .int .i64 ((i:Nat):Int)) rfl hf.ops.h73 (by decide) gl (λw=>az hf.ops.h73 _) (λa af gl=> ?_);refine af.draw (v:= .slice (some ⟨g,i *size,none⟩) (n+m-i) (c-i)) rfl hf.ops.h74 (by decide) gl (λw=>om hf.ops.h74 hf.vK qw vL rfl rfl (by omega) (by omega) _) (λa af gl=> ?_);refine af.last (v:=v1) rfl hf.ops.h75 (by decide) gl (DW hf.ops.h75 rfl rfl (hB _)) (λa af=> ?_);refine wp_seq (wp_region ?_);rw [show AI (#[o 76,o 77,o 78,o 79,o 80]:Array Oper).size=[0,1,2,3,4] from rfl];refine af.step (v:= .slice (some ⟨g,0,none⟩) (n+m) c) rfl hf.ops.h76 (by decide) (az hf.ops.h76 _) (λa af=> ?_);refine af.step (v:= .int .i64 ((i:Nat):Int)) rfl hf.ops.h77 (by decide) (az hf.ops.h77 _) (λa af=> ?_);refine af.step (v:= .slice (some ⟨g,i *size,none⟩) (n+m-i) (c-i)) rfl hf.ops.h78 (by decide) (om hf.ops.h78 hf.vK qw vL rfl rfl (by omega) (by omega) _) (λa af=> ?_);refine af.step (v:= .slice (some ⟨g2,0,none⟩) m c2) rfl hf.ops.h79 (by decide) (az hf.ops.h79 _) (λa af=> ?_);refine af.step (v:=v2) rfl hf.ops.h80 (by decide) (DW hf.ops.h80 rfl rfl (hC _)) (λa af=> ?_);refine wp_seq (wp_region ?_);rw [show AI (#[o 81,o 82]:Array Oper).size=[0,1] from rfl];refine af.step (v:= .slice (some ⟨g,0,none⟩) (n+m) c) rfl hf.ops.h81 (by decide) (az hf.ops.h81 _) (λa af=> ?_);refine af.step (v:= .slice (some ⟨g,0,none⟩) (n+m) c) rfl hf.ops.h82 (by decide) (bD hf.ops.h82 _) (λa af=> ?_);refine wp_ret ?_;show bodyPost P fn (λx wq=>x= .returned (.slice (some ⟨g,0,none⟩) (n+m) c)/\wq=w2) .ret a w2;refine On hf.res af (v:= .slice (some ⟨g,0,none⟩) (n+m) c) rfl ?_;exact ⟨rfl,rfl⟩
 exact key _ (tm3 _ _ _ 92)
end
end Dn
/-
  What slices.Insert does to a slice of its own. Conditions: none.
-/
namespace Dn
open Go
section
variable {key:Nat->Nat} {φ:Ph}{size:Nat}
theorem aP.take {xs:List MV}: ∀{cs:List Value} (i:Nat),aP key φ size cs xs->aP key φ size (cs.take (i *size)) (xs.take i):=by
 induction xs with
 |nil=>intro cs i h;cases h;simp [aP]
 |cons x xs ih=>
  intro cs i h;obtain ⟨v,q,rfl,h1,h2,h3⟩:=h;cases i with
  |zero=>simp [aP]
  |succ i=>
   refine ⟨v,q.take (i *size),?_,h1,h2,ih i h3⟩;rw [adx,Nat.one_mul,af4,agJ,h1];congr 1
   ·exact aa0 (by omega)
   ·congr 1;omega
theorem aP.drop {xs:List MV}: ∀{cs:List Value} (i:Nat),aP key φ size cs xs->aP key φ size (cs.drop (i *size)) (xs.drop i):=by
 induction xs with
 |nil=>intro cs i h;cases h;simp [aP]
 |cons x xs ih=>
  intro cs i h;cases i with
  |zero=>simpa using h
  |succ i=>obtain ⟨v,q,rfl,h1,h2,h3⟩:=h;have:=ih i h3;rw [adx,Nat.one_mul,af4,List.drop_append,h1,List.drop_of_length_le (by omega),abZ,Nat.add_sub_cancel_left];simpa using this
end
section
variable {P:Program}{c:Ctx}{f:Nat} {W W':World} {φ:Ph}{Z:Nat->Prop} {v0 v':Value}
theorem HM {ty:Nat}{E:TI}{n:Nat}{cells:List Value}{rs:List MV}(hz: ∀b,W.heap.size<=b->Z b)(iu:mb φ W)(hE:c.ti ty=some E)(od:E.ch=[])(Fk:c.mY (c.key f)=ty)(hold: ∀b,b<W.heap.size->some b≠v0.ownBlock->W'.heap[b]? =W.heap[b]?)(nM:W.heap.size<=W'.heap.size)(uV:Rest W W')(Ri: ∀b,v0.ownBlock=some b->Z b/\ ∀off,φ b off=none)(dk:W'.ownsRow 0 ty E.size v' n cells)(hn:rs.length=n)(gJ:aP c.key φ E.size cells rs)(R0: ∀b,v'.ownBlock=some b->v0.ownBlock=some b\/W.heap.size<=b): ∃φ',Trans Z φ W φ' W'/\mb φ' W'/\gK c Z φ' W' (c.key f) v' (.fresh rs):=by
 refine ⟨φ,⟨.refl _,?_,λ_ _ _=>rfl,nM,uV⟩,?_,?_⟩
 ·intro b hb dO;exact hold b dO (λhe=>hb (Ri b he.symm).1)
 ·intro b off u hbo;have h1:=iu b off u hbo;have dO:=abu W _ h1;rw [adv (hold b dO (λhe=>by rw [(Ri b he.symm).2 off] at hbo;cases hbo))];exact h1
 ·show cj c (bu.plain Z) (mN c.key φ) W' v' ⟨c.mY (c.key f),false,rs⟩;rw [Fk];refine ⟨E,cells,hE,od,by rw [hn];exact dk,gJ,λaR hb=> ?_⟩;rcases R0 aR hb with h|h
  ·exact ⟨(Ri aR h).1,λoff u hu=>(by have hu:φ aR off=some u:=hu;rw [(Ri aR h).2 off] at hu;cases hu),λhc=>hc.elim⟩
  ·refine ⟨hz aR h,λoff u hu=> ?_,λhc=>hc.elim⟩;have:=abu W _ (iu _ _ _ hu);exact absurd this (by show¬aR<W.heap.size;omega)
theorem aca {A cT:List Value}{cells news:List Value}{p q r:Nat}(hA:A.length=cT.length)(hp:p+news.length=q)(hc:cells.length=r)(WZ:p<=r)(zn:r+news.length<=cT.length)(h1:A.take p=cells.take p)(h2:(A.drop q).take (r-p)=cells.drop p):(A.take p++news++A.drop q).take (r+news.length)=cells.take p++news++cells.drop p:=by
 have hl:(A.take p).length=p:=by rw [aar];omega
 rw [agJ,BY,hl,hp,aa0 (by rw [BY,hl];omega),h1];congr 1;rw [show r+news.length-q=r-p by omega];exact h2
theorem Fp {t ti tb el fo:Nat}{fn:Func}{r:Nat->Nat}{o:Nat->Oper}{tail:Code}{I E:TI}{xs ys:List MV}{i:Nat}(hf:Jk P f t ti tb el fo fn r o tail)(hT:fZ P c.ti)(hI:c.tv t=some I)(hL:I.yS=true)(hE:c.tv I.elem=some E)(ul:1<=E.bytes)(hel:el=I.elem)(kR:P.underlying ti=some (.int .i64))(Fk:c.mY (c.key f)=I.elem)(hg:c.cR (c.key f)=true)(hov: ∀args w,(callFunc fo args).run P w=((agK #[t,t] #[tb] args).run P w).andThen λv w'=> .ok (.value v) w')(hi:i<=xs.length)(hys:ys≠[])(j0:(xs.length+ys.length) *E.bytes<=2^46):fh P c f [.fresh xs,.i .i64 i,.fresh ys] (.fresh (xs.take i++ys++xs.drop i)):=by
 subst hel;obtain ⟨hIt,Rg⟩:=aV hI;obtain ⟨lz,od⟩:=aV hE;obtain ⟨hu,E2,we,_,eL⟩:=TI.kS (hT t I hIt) hL;rw [lz] at we;cases we;obtain ⟨ie,z,qw,vL,WY,VS,G9⟩:=iA (hT _ E lz) od;intro φ W Z vs hz dy iu;simp only [dz,hg,if_true] at dy;obtain ⟨v0,v1,v2,xs',m1,ys',rfl,HJ,F0,A1,F2,df⟩:=dy.resolve_right (by
  rintro (⟨_,_,_,_,_,m2,_,h1,h2,_⟩|⟨pos,_,_,_,_,_,_,h1,_⟩)
  ·simp only [abW,and_true] at h1;rw [<-h1.2.2] at h2;simp [MV.one] at h2
  ·rcases pos with _|_|_|pos<;>simp at h1)
 simp only [abW,MV.fresh.injEq,and_true] at HJ;obtain ⟨rfl,rfl,rfl⟩:=HJ;have RS:v1= .int .i64 (i:Int):=by obtain ⟨_,h⟩:=A1;generalize yU:[v1]=l at h;cases h;simpa using yU
 subst RS;rw [Fk] at F0 F2;obtain ⟨I0,cells,N1,_,wF,uW,MW⟩:=F0;have N1:c.ti I.elem=some I0:=N1;rw [lz] at N1;cases N1;obtain ⟨I2,news,zY,_,Ms,z8,aow⟩:=F2;have zY:c.ti I.elem=some I2:=zY;rw [lz] at zY;cases zY;have wF:W.ownsRow 0 I.elem E.size v0 xs.length cells:=wF;have Ms:W.ownsRow 0 I.elem E.size v2 ys.length news:=Ms;have uW:aP c.key φ E.size cells xs:=uW;have z8:aP c.key φ E.size news ys:=z8;have Ri: ∀b,v0.ownBlock=some b->Z b/\ ∀off,φ b off=none:=by
  intro b hb;refine ⟨(MW b hb).1,λoff=> ?_⟩;cases h:φ b off with
  |none=>rfl
  |some u=>have:=((MW b hb).2.1 off u h).1;cases this
 have hm:0<ys.length:=List.length_pos_iff.2 hys;have Fa:news.length=ys.length *E.size:=z8.length;have oe:cells.length=xs.length *E.size:=uW.length;have hlen:xs.length+ys.length<=2^46:=adz (Nat.le_mul_of_pos_right _ ul) j0;obtain ⟨g2,c2,wm,rfl,TF,aqw,Yk,Lf,aiw⟩: ∃g2 c2 wm,v2= .slice (some ⟨g2,0,none⟩) ys.length c2/\W.heap[g2]? =some (.cells wm I.elem (0,0))/\ys.length<=c2/\c2<=maxLen/\wm.size=c2 *E.size/\wm.toList.take (ys.length *E.size)=news:=by
  rcases Ms.2 with ⟨_,h0⟩|⟨g2,c2,wm,h1,_,h3,h4,h5,h6,h7⟩
  ·omega
  ·exact ⟨g2,c2,wm,h1,h3,h4,h5,h6,h7⟩
 have ams:=aN TF;have Zo: ∀{w:World},(w.heap[g2]? =W.heap[g2]?)-> ∀(j:Nat) (u:Value),news[j]? =some u->w.cell? ((⟨g2,0,none⟩:Addr).add j)=some u:=by intro w hw j u hj;have:=Ms.cells (g:=g2) rfl j u hj;rw [acv] at this⊢;rw [adv hw];exact this
 have a8: ∀g,v0.ownBlock=some g-> ∀{w:World},(w.heap[g]? =W.heap[g]?)-> ∀(j:Nat) (u:Value),cells[j]? =some u->w.cell? ((⟨g,0,none⟩:Addr).add j)=some u:=by intro g hg w hw j u hj;have:=wF.cells (g:=g) hg j u hj;rw [acv] at this⊢;rw [adv hw];exact this
 have bA:(callFunc f [v0,.int .i64 (i:Int),.slice (some ⟨g2,0,none⟩) ys.length c2].toArray).run P W= .ok (.enter f #[v0,.int .i64 (i:Int),.slice (some ⟨g2,0,none⟩) ys.length c2]) W:=by
  have Ik: ¬fn.name= "runtime.NumGoroutine" :=by simpa using hf.name
  simp [callFunc,hf.pos,Ik,hf.body]
 unfold cm;rw [bA];have hrl:(xs.take i++ys++xs.drop i).length=xs.length+ys.length:=by simp;omega
 have Jl:aP c.key φ E.size (cells.take (i *E.size)++news++cells.drop (i *E.size)) (xs.take i++ys++xs.drop i):=((uW.take i).append z8).append (uW.drop i);by_cases uo:i=xs.length
 ·
  have Ae:Src (mN c.key φ) W E.size (.slice (some ⟨g2,0,none⟩) ys.length c2) ys news:=⟨z8,_,_,rfl,by simp,λx hx j u hj=>by cases hx;exact Zo rfl j u hj⟩
  have mP:cells.take (i *E.size)++news++cells.drop (i *E.size)=cells++news:=by rw [uo,<-oe,agL,List.drop_length,agP]
  rw [mP] at Jl;have fin: ∀v' W',ahj W W' I.elem E.size v0 v' xs.length ys.length cells news-> ∃φ',Trans Z φ W φ' W'/\mb φ' W'/\gK c Z φ' W' (c.key f) v' (.fresh (xs.take i++ys++xs.drop i)):=by
   intro v' W' wu;refine HM (v0:=v0) hz iu lz od Fk wu.pF wu.size wu.rest Ri wu.own hrl Jl ?_;intro b hb;rcases wu.place with h|h
   ·left;rw [<-h];exact hb
   ·right;rw [h] at hb;cases hb;exact aa1 _
  obtain ⟨v',W',hr,wu⟩:=Cs (P:=P) (c:=c) (ty:=0) hu lz od eL hT ul wF (Ae.apx hu) j0;have hr': ∀ty,(acb #[t,t] ty #[v0,.slice (some ⟨g2,0,none⟩) ys.length c2]).run P W= .ok v' W':=λty=>hr;have amt: ∃ad c0,v0= .slice ad xs.length c0/\xs.length<=c0/\c0<=maxLen:=by
   rcases wF.2 with ⟨h1,h0⟩|⟨g,c0,cT,h1,_,h3,h4,h5,_⟩
   ·exact ⟨none,0,by rw [h1,h0],by omega,by omega⟩
   ·exact ⟨_,c0,h1,h4,h5⟩
  obtain ⟨ad,c0,rfl,PD,B1⟩:=amt;refine (ab9 hf qw vL hm PD (by unfold maxLen at B1;omega) (by omega) uo hr').mono ?_;rintro x Ba ⟨rfl,rfl⟩;exact ⟨_,rfl,fin _ _ wu⟩
 ·have uo:i<xs.length:=by omega
  obtain ⟨g,c0,cT,rfl,hgc,PD,B1,um,Mp⟩: ∃g c0 cT,v0= .slice (some ⟨g,0,none⟩) xs.length c0/\W.heap[g]? =some (.cells cT I.elem (0,0))/\xs.length<=c0/\c0<=maxLen/\cT.size=c0 *E.size/\cT.toList.take (xs.length *E.size)=cells:=by
   rcases wF.2 with ⟨_,h0⟩|⟨g,c0,cT,h1,_,h3,h4,h5,h6,h7⟩
   ·omega
   ·exact ⟨g,c0,cT,h1,h3,h4,h5,h6,h7⟩
  have TR:=aN hgc;have hgg:g≠g2:=λh=>df g rfl (by rw [h];rfl);have uR:i *E.size<=xs.length *E.size:=aa8 _ hi;have him:(i+ys.length) *E.size=i *E.size+news.length:=by rw [adx,Fa]
  have hnm:(xs.length+ys.length) *E.size=xs.length *E.size+news.length:=by rw [adx,Fa]
  have Rj:(cells.drop (i *E.size)).length=(xs.length-i) *E.size:=by rw [aaU,oe,aeA]
  have aqx:(xs.length-i) *E.size=xs.length *E.size-i *E.size:=aeA _ _ _;have ad2: ∀{w:World},(w.heap[g]? =W.heap[g]?)-> ∀(j:Nat) (u:Value),(cells.drop (i *E.size))[j]? =some u->w.cell? ((⟨g,i *E.size,none⟩:Addr).add j)=some u:=by intro w hw j u hj;rw [ae0] at hj;have:=a8 g rfl hw _ u hj;rw [acv] at this⊢;rwa [aeK] at this
  have ho1: ∀u∈cells.drop (i *E.size),u.oneCell'=true:=λu hu=>uW.Ac u (ago hu);have aiy:Rest W {W with drawn:=W.drawn+1}:=⟨rfl,rfl,rfl⟩
  by_cases uN:c0<xs.length+ys.length
  ·have hk:i+(xs.length+ys.length-i)=xs.length+ys.length:=by omega
   obtain ⟨G,hG⟩: ∃G,G=grownCap W (xs.length+ys.length) c0 I.elem:=⟨_,rfl⟩
   have hGn:xs.length+ys.length<=G:=by rw [hG];exact grownCap_ge W _ _ _
   have hGm:G<=maxLen:=by rw [hG];exact grownCap_le_maxLen W _ _ _ (by unfold maxLen;omega)
   obtain ⟨Oo,afw⟩: ∃Oo:Array Value,Oo=(cells.take (i *E.size)).toArray++aa2 z.cells (xs.length+ys.length-i)++aa2 z.cells (G-(xs.length+ys.length)):=⟨_,rfl⟩
   have hRl:Oo.size=G *E.size:=by rw [afw];simp only [agC,aaX,aar,aa2,Array.size_map,Array.size_range,G9];rw [acP (by rw [oe];exact uR),<-adx,<-adx];congr 1;omega
   have hRt:Oo.toList.take (i *E.size)=cells.take (i *E.size):=by
    rw [afw];simp only [Array.toList_append,adm];have hl:(cells.take (i *E.size)).length=i *E.size:=by rw [aar,oe];exact acP uR
    rw [aaT (by omega),aa0 (by omega)]
   have hA: ∀ty,(acb #[t,ti] ty #[.slice (some ⟨g,0,none⟩) i c0,.int .i64 ((xs.length+ys.length-i:Nat):Int)]).run P W= .ok (.slice (some ⟨W.heap.size,0,none⟩) (xs.length+ys.length) G) (W.drew.alloc (.cells Oo I.elem)):=λty=>by
    have hold:(agz ie.size i (.slice (some ⟨g,0,none⟩) i c0)).run P W.drew= .ok (cells.take (i *E.size)).toArray W.drew:=by
     refine run_firstCells_some W.drew ie.size i ⟨g,0,none⟩ i c0 _ (by rw [vL,aar,oe];exact acP uR) (λj v hj=> ?_);rw [agA] at hj;split at hj
     ·exact a8 g rfl rfl j v hj
     ·cases hj
    have h:=Lib.run_append_grow_zeros W t ti ty I.elem ie z .i64 .i64 hu kR qw VS (some ⟨g,0,none⟩) i c0 (cells.take (i *E.size)) hold (xs.length+ys.length-i) (by omega) (by rw [vL];exact eL) (by omega) (by omega) (by rw [WY];exact adz (aa8 _ (by omega:xs.length+ys.length-i<=xs.length+ys.length)) (adz j0 (by omega))) (by rw [WY,hk];exact growslice_fits uN (adz j0 (by omega)));rw [hk,<-hG,<-afw] at h;exact h
   have hg9:(W.drew.alloc (.cells Oo I.elem)).heap[W.heap.size]? =some (.cells Oo I.elem (0,0)):=gj W.drew _;have Ha: ∀b,b<W.heap.size->(W.drew.alloc (.cells Oo I.elem)).heap[b]? =W.heap[b]? :=λb hb=>rS W.drew _ b hb;have hnG:(xs.length+ys.length) *E.size<=Oo.size:=by rw [hRl];exact aa8 _ hGn
   obtain ⟨RA,hRA⟩: ∃RA:List Value,RA=Oo.toList.take (i *E.size)++news++Oo.toList.drop (i *E.size+news.length):=⟨_,rfl⟩
   have aiz:RA.length=Oo.size:=by rw [hRA];simp only [BY,aar,aaU,aaS];omega
   have hB: ∀ty,(abB #[t,t] ty #[.slice (some ⟨W.heap.size,i *E.size,none⟩) (xs.length+ys.length-i) (G-i),.slice (some ⟨g2,0,none⟩) ys.length c2]).run P (W.drew.alloc (.cells Oo I.elem))= .ok (goInt ((ys.length:Nat):Int)) (acw (W.drew.alloc (.cells Oo I.elem)) W.heap.size RA.toArray):=λty=>by rw [hRA];exact qy (size:=E.size) hu qw vL hg9 (by simp only [agp];split<;>omega) Fa (Zo (Ha g2 ams)) (by omega) z8.Ac
   have afx:=setRow_heap (W.drew.alloc (.cells Oo I.elem)) W.heap.size Oo RA.toArray I.elem (0,0) hg9;obtain ⟨W2,Cy⟩: ∃W2,W2=acw (W.drew.alloc (.cells Oo I.elem)) W.heap.size RA.toArray:=⟨_,rfl⟩
   have SB: ∀b,b<W.heap.size->W2.heap[b]? =W.heap[b]? :=λb hb=>by rw [Cy,setRow_other _ _ _ _ (by omega)];exact Ha b hb
   have Jm:Rest W W2:=by rw [Cy];exact (show Rest W W.drew from ⟨rfl,rfl,rfl⟩).trans ((Rest.alloc W.drew Oo I.elem).trans (Rest.setRow _ _ _))
   have aqA:W2.heap.size=W.heap.size+1:=by rw [Cy,setRow_size];exact Array.size_push _
   rw [<-Cy] at hB afx;have hC:=λty=>qy (P:=P) (dT:=t) (sT:=t) (ty:=ty) (size:=E.size) (ab8:=xs.length+ys.length-(i+ys.length)) (afu:=G-(i+ys.length)) (pU:=xs.length-i) (zp:=c0-i) (k:=xs.length-i) (o:=(i+ys.length) *E.size) (a:=⟨g,i *E.size,none⟩) (w:={W2 with drawn:=W2.drawn+1}) hu qw vL afx (by simp only [agp];split<;>omega) Rj (ad2 (SB g TR)) (by simp only [aaX];rw [aiz,him,Rj];omega) ho1;refine (Zm hf qw vL hm PD (by unfold maxLen at B1;omega) (by omega) uo uN hGn hA hB hC).mono ?_;rintro x Ba ⟨rfl,rfl⟩;refine ⟨_,rfl,?_⟩;refine HM (v0:= .slice (some ⟨g,0,none⟩) xs.length c0) (n:=xs.length+ys.length) (cells:=cells.take (i *E.size)++news++cells.drop (i *E.size)) hz iu lz od Fk ?_ ?_ ?_ Ri ?_ hrl Jl (λb hb=> .inr (by cases hb;exact aa1 _))
   ·intro b hb df;rw [setRow_other _ _ _ _ (by omega)];exact SB b hb
   ·rw [setRow_size];show W.heap.size<=W2.heap.size;omega
   ·exact Jm.trans ((show Rest W2 {W2 with drawn:=W2.drawn+1} from ⟨rfl,rfl,rfl⟩).trans (Rest.setRow _ _ _))
   ·refine ⟨by rw [Jl.length,hrl],.inr ⟨W.heap.size,G,_,rfl,adL _,setRow_heap {W2 with drawn:=W2.drawn+1} W.heap.size RA.toArray _ I.elem (0,0) afx,hGn,hGm,?_,?_⟩⟩
    ·simp only [aaX,BY,aar,aaU];rw [aiz,<-hRl];omega
    ·have amw:RA.take ((i+ys.length) *E.size)=cells.take (i *E.size)++news:=by
      have hl:(Oo.toList.take (i *E.size)++news).length=(i+ys.length) *E.size:=by rw [BY,aar,aaS,him];omega
      rw [hRA,aaT (by omega),aa0 (by omega),hRt]
     rw [amw];have zm:(cells.take (i *E.size)++news++cells.drop (i *E.size)).length=(xs.length+ys.length) *E.size:=by rw [Jl.length,hrl]
     rw [<-zm];exact agS
  ·have uN:xs.length+ys.length<=c0:=by omega
   have hcz:cT.toList.length=cT.size:=aaS;have zn:(xs.length+ys.length) *E.size<=cT.size:=by rw [um];exact aa8 _ uN
   have hO:(callFunc fo #[.slice (some ⟨g2,0,none⟩) ys.length c2,.slice (some ⟨g,(i+ys.length) *E.size,none⟩) (xs.length+ys.length-(i+ys.length)) (c0-(i+ys.length))]).run P W= .ok (.value (.bool false)) W:=by rw [hov,Lib.run_overlaps_apart W t tb I.elem hu E.size (λw=>by simp [ad1,typeInfo,qw,vL]) ⟨g2,0,none⟩ ⟨g,(i+ys.length) *E.size,none⟩ _ _ _ _ (ahi hgg) I.elem I.elem wm.size cT.size (by simp [World.shape?,TF]) (by simp [World.shape?,hgc]) (by rw [um];exact Nat.ne_of_gt (Nat.mul_pos (by omega) eL)) (by simp [World.frozen?,TF]) (by simp [World.frozen?,TF])];rfl
   let R1:List Value:=cT.toList.take ((i+ys.length) *E.size)++cells.drop (i *E.size)++cT.toList.drop ((i+ys.length) *E.size+(cells.drop (i *E.size)).length);have hR1:R1.length=cT.size:=by simp only [R1,BY,aar,aaU,aaS];rw [Rj] at *;omega
   have hB: ∀ty,(abB #[t,t] ty #[.slice (some ⟨g,(i+ys.length) *E.size,none⟩) (xs.length+ys.length-(i+ys.length)) (c0-(i+ys.length)),.slice (some ⟨g,i *E.size,none⟩) (xs.length+ys.length-i) (c0-i)]).run P {W with drawn:=W.drawn+1}= .ok (goInt ((xs.length-i:Nat):Int)) (acw {W with drawn:=W.drawn+1} g R1.toArray):=λty=>qy (size:=E.size) hu qw vL (w:={W with drawn:=W.drawn+1}) hgc (by simp only [agp];split<;>omega) Rj (ad2 rfl) (by rw [him,Rj];omega) ho1;have amy:(acw {W with drawn:=W.drawn+1} g R1.toArray).heap[g]? =some (.cells R1.toArray I.elem (0,0)):=setRow_heap {W with drawn:=W.drawn+1} g cT R1.toArray I.elem (0,0) hgc;have SB: ∀b,b≠g->(acw {W with drawn:=W.drawn+1} g R1.toArray).heap[b]? =W.heap[b]? :=λb hb=>setRow_other {W with drawn:=W.drawn+1} g b R1.toArray hb;have hC:=λty=>qy (P:=P) (dT:=t) (sT:=t) (ty:=ty) (size:=E.size) (ab8:=xs.length+ys.length-i) (afu:=c0-i) (pU:=ys.length) (zp:=c2) (k:=ys.length) (o:=i *E.size) (a:=⟨g2,0,none⟩) hu qw vL amy (by simp only [agp];split<;>omega) Fa (Zo (SB g2 (ahi hgg))) (by simp only [aaX];rw [hR1];omega) z8.Ac;refine (Zn hf qw vL hm PD (by unfold maxLen at B1;omega) (by omega) uo uN hO hB hC).mono ?_;rintro x Ba ⟨rfl,rfl⟩;refine ⟨_,rfl,?_⟩;rw [setRow_setRow];have uV:Rest W (acw {W with drawn:=W.drawn+1} g (R1.toArray.toList.take (i *E.size)++news++R1.toArray.toList.drop (i *E.size+news.length)).toArray):=aiy.trans (Rest.setRow _ _ _);refine HM (v0:= .slice (some ⟨g,0,none⟩) xs.length c0) (n:=xs.length+ys.length) (cells:=cells.take (i *E.size)++news++cells.drop (i *E.size)) hz iu lz od Fk ?_ (by simp) uV Ri ?_ hrl Jl (λb hb=> .inl hb)
   ·intro b hb df;refine setRow_other {W with drawn:=W.drawn+1} g b _ (λh=>df ?_);rw [h];rfl
   ·refine ⟨by rw [Jl.length,hrl],.inr ⟨g,c0,_,rfl,adL _,setRow_heap {W with drawn:=W.drawn+1} g cT _ I.elem (0,0) hgc,uN,B1,?_,?_⟩⟩
    ·simp only [aaX,BY,aar,aaU];rw [hR1,<-um];omega
    ·rw [hnm];refine aca (cT:=cT.toList) (r:=xs.length *E.size) (by simpa using hR1) rfl oe uR (by simp only [aaS];omega) ?_ ?_
     ·show R1.take (i *E.size)=_;rw [<-Mp,agq,acP uR];simp only [R1];rw [adm,aaT (by rw [aar,hcz];omega),agq,acP (by omega)]
     ·show (R1.drop (i *E.size+news.length)).take _=_;simp only [R1];have hl:(cT.toList.take ((i+ys.length) *E.size)).length=i *E.size+news.length:=by rw [aar,hcz];omega
      rw [adm,<-hl,agU,aaT (by omega),aa0 (by omega)]
end
end Dn
/-
  slices.Delete of the library, walked. Conditions: none.
-/
namespace Dn
open Go
structure fN (o:Oper) (op:Op):Prop where
 dst:o.dst=none
 op:o.op=op
 guard:o.guard=none
section
variable {P:Program}{Q:Exit->Act->World->Prop}{ops:Array Oper}{o:Oper}{a:Act} {w w':World}{n:Nat} {σ:Nat->Value}
theorem Tm.ad3 {i:Nat}{op:Op}{rest:List Nat}{v:Value}(af:Tm a n σ)(hi:ops[i]? =some o)(ho:fN o op)(bA:(execOp (ev σ) o).run P w= .ok (.value v) w')(h:wpOps P ops Q rest a w'):wpOps P ops Q (i::rest) a w:=by refine vJ hi ho.guard (v:=v) (w':=w') (by rw [af.eval];exact bA) ?_;rw [ho.dst];exact h
def Jn (ops:Array Oper):Nat->Nat->Array Bool->Bool
 |0,i,listed=>(AT .any ops listed==[i])&&(AT .any ops (listed.setIfInBounds i true)==[i+1])&&(AT .any ops ((listed.setIfInBounds i true).setIfInBounds (i+1) true)).isEmpty
 |k+1,i,listed=>Region.free .any ops listed i&&(AT .any ops listed).contains i&&Jn ops k (i+1) (listed.setIfInBounds i true)
def SC (ops:Array Oper):Bool:=aeJ ops&&Nat.blt 1 ops.size&&Jn ops (ops.size-2) 0 (IN ops.size false)
structure Oq (ops:Array Oper) (k i:Nat) (listed:Array Bool):Prop where
 sel:aeJ ops=true
 ord:Jn ops k i listed=true
theorem Tm.MX {N:Act->World->Prop}{i d:Nat}{op:Op}{k:Nat}{listed:Array Bool}{v:Value}(af:Tm a n σ)(hi:ops[i]? =some o)(ho:ai o d op)(hd:d<n)(hb:Oq ops (k+1) i listed)(bA: ∀w,(execOp (ev σ) o).run P w= .ok (.value v) w)(h: ∀a',Tm a' n (oV σ d v)->Oq ops k (i+1) (listed.setIfInBounds i true)->wpAny P .any ops (oS N) (k+2) (listed.setIfInBounds i true) a' w):wpAny P .any ops (oS N) (k+3) listed a w:=by obtain ⟨hs,hb⟩:=hb;simp only [Jn,bB] at hb;obtain ⟨⟨h1,h2⟩,h3⟩:=hb;refine wpAny_take hi hs h1 h2 (λc a w hq=>hq.elim) (v:=v) (.inl ⟨by simp [aas,ho.guard],λw=>by rw [af.eval];exact bA w⟩) ?_;rw [ho.dst];exact h _ (af.put hd v) ⟨hs,h3⟩
theorem Tm.aiA {N:Act->World->Prop}{i d d2:Nat}{op op2:Op}{o2:Oper}{listed:Array Bool}{v v2:Value}(af:Tm a n σ)(hi:ops[i]? =some o)(ho:ai o d op)(hd:d<n)(WX:ops[i+1]? =some o2)(cw:ai o2 d2 op2)(hd2:d2<n)(hb:Oq ops 0 i listed)(bA:(execOp (ev σ) o).run P w= .ok (.value v) w')(MQ:(execOp (ev (oV σ d v)) o2).run P w'= .ok (.value v2) w')(h: ∀a',Tm a' n (oV (oV σ d v) d2 v2)->N a' w'):wpAny P .any ops (oS N) 2 listed a w:=by obtain ⟨hs,hb⟩:=hb;simp only [Jn,bB,List.isEmpty_iff,beq_iff_eq] at hb;obtain ⟨⟨h1,h2⟩,h3⟩:=hb;refine wpAny_all h1 (by simp) ?_;intro j hj;simp only [aeZ] at hj;subst hj;unfold wpOp;simp only [hi,aas,ho.guard,if_true];left;unfold aeM;rw [af.eval,bA,adK,ho.dst];have DY:=af.put hd v;refine wpAny_all h2 (by simp) ?_;intro q hq;simp only [aeZ] at hq;subst hq;unfold wpOp;simp only [WX,aas,cw.guard,if_true];left;unfold aeM;rw [DY.eval,MQ,adK,cw.dst];exact wpAny_done h3 (h _ (DY.put hd2 v2)) 0
theorem Zp {id k:Nat}(hm:P.follows .mixedOrders=true)(hb:SC ops=true)(hk:ops.size=k+2)(h:Oq ops k 0 (IN (k+2) false)->wpAny P .any ops (oS λa w=>Q .normal a w) (k+2) (IN (k+2) false) a {w with drawn:=w.drawn+1}): (agN id ops true).wp P Q a w:=by simp only [SC,bB] at hb;rw [hk] at hb;refine af3 ?_ (wp_region_any (Q:=oS λa w=>Q .normal a w) hm (by rw [hk];exact h ⟨hb.1.1,hb.2⟩));intro x a' w' hx;cases x<;>first|exact hx|exact hx.elim
theorem MY {d:Nat}{t el:TypeId}{x y z m3:Operand}{e:Operand->Value}{ad:Option Addr}{m c l h k:Nat}{i:TypeInfo}(ho:ai o d (.slice t x (some y) (some z) (some m3)))(hu:P.underlying t=some (.slice el))(hi:P.info? el=some i)(hx:e x= .slice ad m c)(hy:e y= .int .i64 l)(hz:e z= .int .i64 h)(hm:e m3= .int .i64 k)(h1:l<=h)(h2:h<=k)(h3:k<=c)(w:World):(execOp e o).run P w= .ok (.value (.slice (if k=l then ad else ad.map (·.add (l *i.size))) (h-l) (k-l))) w:=by simp [execOp,ho.op,afz,agn,run_underlying hu,hx,hy,hz,hm,ad1,typeInfo,hi,adY,ad8,asIntOf,h1,h2,h3]
theorem Qm {d:Nat}{t el:TypeId}{x y z:Operand}{e:Operand->Value}{ad:Option Addr}{m c l h size:Nat}{i:TypeInfo}(ho:ai o d (.slice t x (some y) (some z) none))(hu:P.underlying t=some (.slice el))(hi:P.info? el=some i)(hs:i.size=size)(hx:e x= .slice ad m c)(hy:e y= .int .i64 l)(hz:e z= .int .i64 h)(h1:l<=h)(h2:h<=c)(w:World):(execOp e o).run P w= .ok (.value (.slice (if c=l then ad else ad.map (·.add (l *size))) (h-l) (c-l))) w:=by simp [execOp,ho.op,afz,agn,run_underlying hu,hx,hy,hz,ad1,typeInfo,hi,hs,adY,ad8,asIntOf,h1,h2]
theorem Uf {x:Operand}{t1:TypeId}{e:Operand->Value}{v1 v:Value}(ho:fN o (.call {callee:= .builtin .clear,args:= #[x],argTypes:= #[t1]})) (hx:e x=v1) (h:(adZ #[t1] o.type #[v1]).run P w= .ok v w'):(execOp e o).run P w= .ok (.value v) w':=by simp [execOp,ho.op,resolve,invoke,builtin,hx,h]
theorem An {t ty elem t2:TypeId}{g off n c size:Nat}{z:Value}{cT:Array Value}{i:TypeInfo}(hu:P.underlying t=some (.slice elem))(hi:P.info? elem=some i)(hz:i.zero=some z)(G9:z.cells.size=size)(h1: ∀v∈z.cells.toList,v.oneCell'=true)(hg:w.heap[g]? =some (.cells cT t2 (0,0)))(hn:0<n)(zn:off+n *size<=cT.size): ∃zs:List Value,zs.length=n *size/\(adZ #[t] ty #[.slice (some ⟨g,off,none⟩) n c]).run P w= .ok (.tuple #[]) (w.setRow g (cT.toList.take off++zs++cT.toList.drop (off+zs.length)).toArray):=by
 refine ⟨(aa2 z.cells n).toList,?_,?_⟩
 ·simp [aa2,G9]
 ·have hl:(aa2 z.cells n).toList.length=n *size:=by simp [aa2,G9]
  have dB:=run_storeCells_at P g off t2 (aa2 z.cells n).toList 0 cT w hg (by rw [hl];simpa using zn) (by
   intro v hv;simp only [aa2,afH,aaZ,Array.mem_toList_iff,Array.mem_range] at hv;obtain ⟨j,hj,rfl⟩:=hv;have eL:0<z.cells.size:=by
    rcases Nat.eq_zero_or_pos z.cells.size with h0|h0
    ·rw [h0] at hj;omega
    ·exact h0
   have dO:j%z.cells.size<z.cells.size:=Nat.mod_lt _ eL;rw [getElem!_pos z.cells _ dO];exact h1 _ (by simp))
  simp only [ahk] at dB;obtain ⟨m,rfl⟩: ∃m,n=m+1:=⟨n-1,by omega⟩
  simp [adZ,run_underlying hu,zeroValue,typeInfo,hi,hz,dB]
end
theorem eH {w:World}{g:Nat}{cT:Array Value}{t:TypeId}{fr:Nat×Nat}(cs:Array Value)(hg:w.heap[g]? =some (.cells cT t fr)):(w.setRow g cs).heap[g]? =some (.cells cs t fr):=by simp [acw,agl,hg]
def DZ (r:Nat->Nat)(o:Nat->Oper):Code:= .seq (.region (r 0) #[o 0] false) (.seq (.region (r 1) #[o 1,o 2,o 3,o 4,o 5,o 6] false) (.seq (.seq (.region (r 2) #[o 7,o 8,o 9] false) (.cond (.tmp 16) (.seq (.region (r 3) #[o 10,o 11] false) .ret) .skip)) (.seq (.region (r 4) #[o 12,o 13,o 14] false) (.seq (.region (r 5) #[o 15,o 16,o 17,o 18,o 19,o 20,o 21,o 22] true) (.seq (.region (r 6) #[o 23,o 24,o 25,o 26,o 27,o 28] false) (.seq (.region (r 7) #[o 29,o 30] false) .ret))))))
structure afy (t ti:Nat) (o:Nat->Oper):Prop where
 h0:ai (o 0) 6 (.assign (.const (.slice none 0 0)))
 h1:ai (o 1) 8 (.move (.tmp 0))
 h2:ai (o 2) 9 (.move (.tmp 1))
 h3:ai (o 3) 10 (.move (.tmp 2))
 h4:ai (o 4) 11 (.move (.tmp 0))
 h5:ai (o 5) 12 (.call {callee:= .builtin .len,args:= #[.tmp 11],argTypes:= #[t]})
 h6:ai (o 6) 13 (.slice t (.tmp 8) (some (.tmp 9)) (some (.tmp 10)) (some (.tmp 12)))
 h7:ai (o 7) 14 (.move (.tmp 1))
 h8:ai (o 8) 15 (.move (.tmp 2))
 h9:ai (o 9) 16 (.binOp .eql ti (.tmp 14) (.tmp 15) ti)
 wg:ai (o 10) 17 (.move (.tmp 0))
 zt:ai (o 11) 6 (.assign (.tmp 17))
 ER:ai (o 12) 18 (.move (.tmp 0))
 Dp:ai (o 13) 19 (.call {callee:= .builtin .len,args:= #[.tmp 18],argTypes:= #[t]})
 Dq:ai (o 14) 7 (.assign (.tmp 19))
 Dr:ai (o 15) 20 (.move (.tmp 0))
 Bl:ai (o 16) 21 (.move (.tmp 1))
 DX:ai (o 17) 22 (.slice t (.tmp 20) none (some (.tmp 21)) none)
 Fl:ai (o 18) 23 (.move (.tmp 0))
 HL:ai (o 19) 24 (.move (.tmp 2))
 Lr:ai (o 20) 25 (.slice t (.tmp 23) (some (.tmp 24)) none none)
 Fm:ai (o 21) 26 (.call {callee:= .builtin .append,args:= #[.tmp 22,.tmp 25],argTypes:= #[t,t]})
 Fo:ai (o 22) 0 (.assign (.tmp 26))
 KW:ai (o 23) 27 (.move (.tmp 0))
 KX:ai (o 24) 28 (.move (.tmp 0))
 KY:ai (o 25) 29 (.call {callee:= .builtin .len,args:= #[.tmp 28],argTypes:= #[t]})
 Ol:ai (o 26) 30 (.move (.tmp 7))
 Qj:ai (o 27) 31 (.slice t (.tmp 27) (some (.tmp 29)) (some (.tmp 30)) none)
 Rl:fN (o 28) (.call {callee:= .builtin .clear,args:= #[.tmp 31],argTypes:= #[t]})
 Rm:ai (o 29) 32 (.move (.tmp 0))
 Om:ai (o 30) 6 (.assign (.tmp 32))
 d5:SC #[o 15,o 16,o 17,o 18,o 19,o 20,o 21,o 22]=true
structure Qn (P:Program) (f t ti el:Nat) (fn:Func) (r:Nat->Nat) (o:Nat->Oper):Prop where
 pos:P.funcs[f]? =some fn
 name:(fn.name== "runtime.NumGoroutine")=false
 tmps:fn.ntmps=33
 res:fn.results= #[.tmp 6]
 body:fn.body=some (DZ r o)
 ops:afy t ti o
 Zl:P.follows .mixedOrders=true
 vK:P.underlying t=some (.slice el)
section
variable {P:Program}{f t ti el:Nat}{fn:Func}{r:Nat->Nat}{o:Nat->Oper}{ie:TypeInfo}{size n c i j g:Nat}{ad:Option Addr}{w:World}
theorem Ug {a:Act}{w:World} {σ:Nat->Value}{R:Ending->World->Prop}{v:Value}(hr:fn.results= #[.tmp 6])(af:Tm a 33 σ)(h6:σ 6=v)(h:R (.returned v) w):bodyPost P fn R .ret a w:=by
 refine ⟨af.defers,v,?_,h⟩;have h2:a.tmps[6]?.getD undef=v:=by have:=af.get 6;rw [h6] at this;simpa using this
 simp [results,hr,h2]
theorem Zq (hf:Qn P f t ti el fn r o)(qw:P.info? el=some ie)(hn:n<=c)(hi:i<=n): Calls P f #[.slice ad n c,.int .i64 ((i:Nat):Int),.int .i64 ((i:Nat):Int)] w λx w'=>x= .returned (.slice ad n c)/\w'=w:=by
 refine calls_of_wp hf.pos hf.body ?_;rw [hf.tmps];have key: ∀a:Act,Tm a 33 (oV (oV (oV (λ_=>undef) 0 (.slice ad n c)) 1 (.int .i64 ((i:Nat):Int))) 2 (.int .i64 ((i:Nat):Int)))->(DZ r o).wp P (bodyPost P fn λx w'=>x= .returned (.slice ad n c)/\w'=w) a w:=by intro a af;unfold DZ;refine wp_seq (wp_region ?_);rw [show AI (#[o 0]:Array Oper).size=[0] from rfl];refine af.step (v:= .slice none 0 0) rfl hf.ops.h0 (by decide) (bD hf.ops.h0 _) (λa af=> ?_);refine wp_seq (wp_region ?_);rw [show AI (#[o 1,o 2,o 3,o 4,o 5,o 6]:Array Oper).size=[0,1,2,3,4,5] from rfl];refine af.step (v:= .slice ad n c) rfl hf.ops.h1 (by decide) (az hf.ops.h1 _) (λa af=> ?_);refine af.step (v:= .int .i64 ((i:Nat):Int)) rfl hf.ops.h2 (by decide) (az hf.ops.h2 _) (λa af=> ?_);refine af.step (v:= .int .i64 ((i:Nat):Int)) rfl hf.ops.h3 (by decide) (az hf.ops.h3 _) (λa af=> ?_);refine af.step (v:= .slice ad n c) rfl hf.ops.h4 (by decide) (az hf.ops.h4 _) (λa af=> ?_);refine af.step (v:= .int .i64 ((n:Nat):Int)) rfl hf.ops.h5 (by decide) (j7 hf.ops.h5 hf.vK rfl _) (λa af=> ?_);refine af.step rfl hf.ops.h6 (by decide) (MY hf.ops.h6 hf.vK qw rfl rfl rfl rfl (aa1 _) hi hn _) (λa af=> ?_);refine wp_seq ?_;refine wp_seq (wp_region ?_);rw [show AI (#[o 7,o 8,o 9]:Array Oper).size=[0,1,2] from rfl];refine af.step (v:= .int .i64 ((i:Nat):Int)) rfl hf.ops.h7 (by decide) (az hf.ops.h7 _) (λa af=> ?_);refine af.step (v:= .int .i64 ((i:Nat):Int)) rfl hf.ops.h8 (by decide) (az hf.ops.h8 _) (λa af=> ?_);refine af.step (v:= .bool (decide (((i:Nat):Int)=((i:Nat):Int)))) rfl hf.ops.h9 (by decide) (nA hf.ops.h9 rfl rfl _) (λa af=> ?_);refine af.cond (b:=true) (by show abQ (decide (((i:Nat):Int)=((i:Nat):Int)))=_;rw [decide_eq_true rfl]) ?_;simp only [if_true];refine wp_seq (wp_region ?_);rw [show AI (#[o 10,o 11]:Array Oper).size=[0,1] from rfl];refine af.step (v:= .slice ad n c) rfl hf.ops.wg (by decide) (az hf.ops.wg _) (λa af=> ?_);refine af.step (v:= .slice ad n c) rfl hf.ops.zt (by decide) (bD hf.ops.zt _) (λa af=> ?_);refine wp_ret ?_;show bodyPost P fn (λx wq=>x= .returned (.slice ad n c)/\wq=w) .ret a w;refine Ug hf.res af (v:= .slice ad n c) rfl ?_;exact ⟨rfl,rfl⟩
 exact key _ (tm3 _ _ _ 30)
theorem Zr (hf:Qn P f t ti el fn r o)(qw:P.info? el=some ie)(vL:ie.size=size)(hn:n<=c)(hij:i<j)(hj:j<=n){w1 w2:World}(hA: ∀ty,(acb #[t,t] ty #[.slice (some ⟨g,0,none⟩) i c,.slice (if c=j then (some ⟨g,0,none⟩:Option Addr) else some ⟨g,j *size,none⟩) (n-j) (c-j)]).run P {w with drawn:=w.drawn+1}= .ok (.slice (some ⟨g,0,none⟩) (i+(n-j)) c) w1) (hC: ∀ty,(adZ #[t] ty #[.slice (some ⟨g,(i+(n-j)) *size,none⟩) (n-(i+(n-j))) (c-(i+(n-j)))]).run P w1= .ok (.tuple #[]) w2): Calls P f #[.slice (some ⟨g,0,none⟩) n c,.int .i64 ((i:Nat):Int),.int .i64 ((j:Nat):Int)] w λx w'=>x= .returned (.slice (some ⟨g,0,none⟩) (i+(n-j)) c)/\w'=w2:=by
 refine calls_of_wp hf.pos hf.body ?_;rw [hf.tmps];have h0: ∀l:Nat,(⟨g,0,none⟩:Addr).add l=⟨g,l,none⟩:=λl=>by have:=acv g 0 l;rwa [aeK] at this
 have key: ∀a:Act,Tm a 33 (oV (oV (oV (λ_=>undef) 0 (.slice (some ⟨g,0,none⟩) n c)) 1 (.int .i64 ((i:Nat):Int))) 2 (.int .i64 ((j:Nat):Int)))->(DZ r o).wp P (bodyPost P fn λx w'=>x= .returned (.slice (some ⟨g,0,none⟩) (i+(n-j)) c)/\w'=w2) a w:=by intro a af;unfold DZ;refine wp_seq (wp_region ?_);rw [show AI (#[o 0]:Array Oper).size=[0] from rfl];refine af.step (v:= .slice none 0 0) rfl hf.ops.h0 (by decide) (bD hf.ops.h0 _) (λa af=> ?_);refine wp_seq (wp_region ?_);rw [show AI (#[o 1,o 2,o 3,o 4,o 5,o 6]:Array Oper).size=[0,1,2,3,4,5] from rfl];refine af.step (v:= .slice (some ⟨g,0,none⟩) n c) rfl hf.ops.h1 (by decide) (az hf.ops.h1 _) (λa af=> ?_);refine af.step (v:= .int .i64 ((i:Nat):Int)) rfl hf.ops.h2 (by decide) (az hf.ops.h2 _) (λa af=> ?_);refine af.step (v:= .int .i64 ((j:Nat):Int)) rfl hf.ops.h3 (by decide) (az hf.ops.h3 _) (λa af=> ?_);refine af.step (v:= .slice (some ⟨g,0,none⟩) n c) rfl hf.ops.h4 (by decide) (az hf.ops.h4 _) (λa af=> ?_);refine af.step (v:= .int .i64 ((n:Nat):Int)) rfl hf.ops.h5 (by decide) (j7 hf.ops.h5 hf.vK rfl _) (λa af=> ?_);refine af.step rfl hf.ops.h6 (by decide) (MY hf.ops.h6 hf.vK qw rfl rfl rfl rfl (Nat.le_of_lt hij) hj hn _) (λa af=> ?_);refine wp_seq ?_;refine wp_seq (wp_region ?_);rw [show AI (#[o 7,o 8,o 9]:Array Oper).size=[0,1,2] from rfl];refine af.step (v:= .int .i64 ((i:Nat):Int)) rfl hf.ops.h7 (by decide) (az hf.ops.h7 _) (λa af=> ?_);refine af.step (v:= .int .i64 ((j:Nat):Int)) rfl hf.ops.h8 (by decide) (az hf.ops.h8 _) (λa af=> ?_);refine af.step (v:= .bool (decide (((i:Nat):Int)=((j:Nat):Int)))) rfl hf.ops.h9 (by decide) (nA hf.ops.h9 rfl rfl _) (λa af=> ?_);refine af.cond (b:=false) (by show abQ (decide (((i:Nat):Int)=((j:Nat):Int)))=_;rw [decide_eq_false (by omega)]) ?_;simp only [IT,if_false];refine wp_skip ?_;refine wp_seq (wp_region ?_);rw [show AI (#[o 12,o 13,o 14]:Array Oper).size=[0,1,2] from rfl];refine af.step (v:= .slice (some ⟨g,0,none⟩) n c) rfl hf.ops.ER (by decide) (az hf.ops.ER _) (λa af=> ?_);refine af.step (v:= .int .i64 ((n:Nat):Int)) rfl hf.ops.Dp (by decide) (j7 hf.ops.Dp hf.vK rfl _) (λa af=> ?_);refine af.step (v:= .int .i64 ((n:Nat):Int)) rfl hf.ops.Dq (by decide) (bD hf.ops.Dq _) (λa af=> ?_);refine wp_seq (Zp hf.Zl hf.ops.d5 (k:=6) rfl λgl=> ?_);refine af.MX (v:= .slice (some ⟨g,0,none⟩) n c) rfl hf.ops.Dr (by decide) gl (λw=>az hf.ops.Dr _) (λa af gl=> ?_);refine af.MX (v:= .int .i64 ((i:Nat):Int)) rfl hf.ops.Bl (by decide) gl (λw=>az hf.ops.Bl _) (λa af gl=> ?_);refine af.MX (v:= .slice (some ⟨g,0,none⟩) i c) rfl hf.ops.DX (by decide) gl (λw=>DV hf.ops.DX hf.vK qw vL rfl rfl (by omega) _) (λa af gl=> ?_);refine af.MX (v:= .slice (some ⟨g,0,none⟩) n c) rfl hf.ops.Fl (by decide) gl (λw=>az hf.ops.Fl _) (λa af gl=> ?_);refine af.MX (v:= .int .i64 ((j:Nat):Int)) rfl hf.ops.HL (by decide) gl (λw=>az hf.ops.HL _) (λa af gl=> ?_);refine af.MX (v:= .slice (if c=j then (some ⟨g,0,none⟩:Option Addr) else some ⟨g,j *size,none⟩) (n-j) (c-j)) rfl hf.ops.Lr (by decide) gl (λw=>by refine (Am (P:=P) hf.ops.Lr hf.vK qw vL (ad:=some ⟨g,0,none⟩) (m:=n) (c:=c) (l:=j) rfl rfl hj w).trans ?_;rw [show (some (⟨g,0,none⟩:Addr)).map (·.add (j *size))=some ⟨g,j *size,none⟩ from congrArg some (h0 _)]) (λa af gl=> ?_);refine af.aiA (v:= .slice (some ⟨g,0,none⟩) (i+(n-j)) c) (v2:= .slice (some ⟨g,0,none⟩) (i+(n-j)) c) rfl hf.ops.Fm (by decide) rfl hf.ops.Fo (by decide) gl (Jj hf.ops.Fm rfl rfl (hA _)) (bD hf.ops.Fo _) (λa af=> ?_);refine wp_seq (wp_region ?_);rw [show AI (#[o 23,o 24,o 25,o 26,o 27,o 28]:Array Oper).size=[0,1,2,3,4,5] from rfl];refine af.step (v:= .slice (some ⟨g,0,none⟩) (i+(n-j)) c) rfl hf.ops.KW (by decide) (az hf.ops.KW _) (λa af=> ?_);refine af.step (v:= .slice (some ⟨g,0,none⟩) (i+(n-j)) c) rfl hf.ops.KX (by decide) (az hf.ops.KX _) (λa af=> ?_);refine af.step (v:= .int .i64 ((i+(n-j):Nat):Int)) rfl hf.ops.KY (by decide) (j7 hf.ops.KY hf.vK rfl _) (λa af=> ?_);refine af.step (v:= .int .i64 ((n:Nat):Int)) rfl hf.ops.Ol (by decide) (az hf.ops.Ol _) (λa af=> ?_);refine af.step (v:= .slice (some ⟨g,(i+(n-j)) *size,none⟩) (n-(i+(n-j))) (c-(i+(n-j)))) rfl hf.ops.Qj (by decide) (by refine (Qm (P:=P) hf.ops.Qj hf.vK qw vL (ad:=some ⟨g,0,none⟩) (m:=i+(n-j)) (c:=c) (l:=i+(n-j)) (h:=n) rfl rfl rfl (by omega) (by omega) w1).trans ?_;rw [if_neg (show¬c=i+(n-j) by omega)];rw [show (some (⟨g,0,none⟩:Addr)).map (·.add ((i+(n-j)) *size))=some ⟨g,(i+(n-j)) *size,none⟩ from congrArg some (h0 _)]) (λa af=> ?_);refine af.ad3 (v:= .tuple #[]) rfl hf.ops.Rl (Uf hf.ops.Rl rfl (hC _)) ?_;refine wp_seq (wp_region ?_);rw [show AI (#[o 29,o 30]:Array Oper).size=[0,1] from rfl];refine af.step (v:= .slice (some ⟨g,0,none⟩) (i+(n-j)) c) rfl hf.ops.Rm (by decide) (az hf.ops.Rm _) (λa af=> ?_);refine af.step (v:= .slice (some ⟨g,0,none⟩) (i+(n-j)) c) rfl hf.ops.Om (by decide) (bD hf.ops.Om _) (λa af=> ?_);refine wp_ret ?_;show bodyPost P fn (λx wq=>x= .returned (.slice (some ⟨g,0,none⟩) (i+(n-j)) c)/\wq=w2) .ret a w2;refine Ug hf.res af (v:= .slice (some ⟨g,0,none⟩) (i+(n-j)) c) rfl ?_;exact ⟨rfl,rfl⟩
 exact key _ (tm3 _ _ _ 30)
end
section
variable {P:Program}{c:Ctx}{f:Nat}
theorem MZ {t ti el:Nat}{fn:Func}{r:Nat->Nat}{o:Nat->Oper}{I E:TI}{xs:List MV}{i j:Nat}(hf:Qn P f t ti el fn r o)(hT:fZ P c.ti)(hI:c.tv t=some I)(hL:I.yS=true)(hE:c.tv I.elem=some E)(hel:el=I.elem)(Fk:c.mY (c.key f)=I.elem)(hg:c.cR (c.key f)=true)(hij:i<=j)(hj:j<=xs.length):fh P c f [.fresh xs,.i .i64 i,.i .i64 j] (.fresh (xs.take i++xs.drop j)):=by
 subst hel;obtain ⟨hIt,Rg⟩:=aV hI;obtain ⟨lz,od⟩:=aV hE;obtain ⟨hu,E2,we,_,eL⟩:=TI.kS (hT t I hIt) hL;rw [lz] at we;cases we;obtain ⟨ie,z,qw,vL,WY,VS,G9⟩:=iA (hT _ E lz) od;obtain ⟨ie2,z2,Zs,XK,hzr⟩:=Cw hE hT;rw [qw] at Zs;cases Zs;rw [VS] at XK;cases XK;have hz1: ∀v∈z.cells.toList,v.oneCell'=true:=(hzr (mN c.key λ_ _=>none)).cells;intro φ W Z vs hz dy iu;simp only [dz,hg,if_true] at dy;obtain ⟨v0,v1,v2,xs',m1,m2,rfl,HJ,aoz,F0,A1,A2⟩:=(dy.resolve_left (by
  rintro ⟨_,_,_,_,_,ys,_,h1,_⟩;simp only [abW,and_true] at h1;exact absurd h1.2.2 (by simp))).resolve_right (by
  rintro ⟨pos,_,_,_,_,_,_,h1,_⟩;rcases pos with _|_|_|pos<;>simp at h1)
 simp only [abW,MV.fresh.injEq,and_true] at HJ;obtain ⟨rfl,rfl,rfl⟩:=HJ;have num: ∀{v:Value} {n:Nat},cV c.key φ v (.i .i64 (n:Int))->v= .int .i64 (n:Int):=by intro v n h;obtain ⟨_,h⟩:=h;generalize yU:[v]=l at h;cases h;simpa using yU
 have RS:=num A1;have KR:=num A2;subst RS;subst KR;rw [Fk] at F0;obtain ⟨I0,cells,N1,_,wF,uW,MW⟩:=F0;have N1:c.ti I.elem=some I0:=N1;rw [lz] at N1;cases N1;have wF:W.ownsRow 0 I.elem E.size v0 xs.length cells:=wF;have uW:aP c.key φ E.size cells xs:=uW;have Ri: ∀b,v0.ownBlock=some b->Z b/\ ∀off,φ b off=none:=by
  intro b hb;refine ⟨(MW b hb).1,λoff=> ?_⟩;cases h:φ b off with
  |none=>rfl
  |some u=>have:=((MW b hb).2.1 off u h).1;cases this
 have oe:cells.length=xs.length *E.size:=uW.length;have bA:(callFunc f [v0,.int .i64 (i:Int),.int .i64 (j:Int)].toArray).run P W= .ok (.enter f #[v0,.int .i64 (i:Int),.int .i64 (j:Int)]) W:=by
  have Ik: ¬fn.name= "runtime.NumGoroutine" :=by simpa using hf.name
  simp [callFunc,hf.pos,Ik,hf.body]
 unfold cm;rw [bA];rcases Nat.lt_or_ge i j with dO|X6
 ·
  obtain ⟨g,cp,cT,rfl,_,Xa,PD,B1,um,Mp⟩: ∃g cp cT,v0= .slice (some ⟨g,0,none⟩) xs.length cp/\0<=g/\W.heap[g]? =some (.cells cT I.elem (0,0))/\xs.length<=cp/\cp<=maxLen/\cT.size=cp *E.size/\cT.toList.take (xs.length *E.size)=cells:=by
   rcases wF.2 with ⟨_,h0⟩|h
   ·omega
   ·exact h
  have hl0:cells.length<=cT.size:=by rw [oe,um];exact aa8 _ PD
  obtain ⟨news,Uh⟩: ∃news,news=cells.drop (j *E.size):=⟨_,rfl⟩
  have Fa:news.length=(xs.length-j) *E.size:=by rw [Uh,aaU,oe,aeA]
  have K9: ∀u∈news,u.oneCell'=true:=λu hu=>uW.Ac u (by rw [Uh] at hu;exact ago hu);have hmul: ∀{a b:Nat},a<=b->a *E.size<=b *E.size:=λh=>aa8 _ h;have aqD:i *E.size<=j *E.size:=hmul (by omega);have hjn:j *E.size<=xs.length *E.size:=hmul hj;have aqF:xs.length *E.size<=cp *E.size:=hmul PD;have hlo:(i+(xs.length-j)) *E.size=i *E.size+news.length:=by rw [adx,Fa]
  have G6:news.length+j *E.size=xs.length *E.size:=by rw [Fa,aeA];omega
  obtain ⟨Ao,Ui⟩: ∃Ao:Array Value,Ao=(cT.toList.take (i *E.size)++news++cT.toList.drop (i *E.size+news.length)).toArray:=⟨_,rfl⟩
  have aiB:cT.toList.length=cT.size:=aaS;have ad4:Ao.toList.length=Ao.size:=aaS;have hA: ∀ty,(acb #[t,t] ty #[.slice (some ⟨g,0,none⟩) i cp,.slice (if cp=j then (some ⟨g,0,none⟩:Option Addr) else some ⟨g,j *E.size,none⟩) (xs.length-j) (cp-j)]).run P {W with drawn:=W.drawn+1}= .ok (.slice (some ⟨g,0,none⟩) (i+(xs.length-j)) cp) (({W with drawn:=W.drawn+1}:World).setRow g Ao):=by
   intro ty;have zn:i *ie.size+news.length<=cT.size:=by rw [vL,um];omega
   by_cases hcj:cp=j
   ·rw [if_pos hcj];refine run_append_room (P:=P) (w:={W with drawn:=W.drawn+1}) t ty I.elem ie hu qw g i cp cT Xa ⟨g,0,none⟩ (xs.length-j) (cp-j) news (by rw [vL];exact Fa) ?_ K9 (by omega) zn|>.trans ?_
    ·intro q u hq;have:=(aba.1 hq).1;rw [Fa,show xs.length-j=0 by omega] at this;omega
    ·rw [vL,Ui]
   ·rw [if_neg hcj];refine run_append_room (P:=P) (w:={W with drawn:=W.drawn+1}) t ty I.elem ie hu qw g i cp cT Xa ⟨g,j *E.size,none⟩ (xs.length-j) (cp-j) news (by rw [vL];exact Fa) ?_ K9 (by omega) zn|>.trans ?_
    ·intro q u hq;have h1:=wF.cells (g:=g) rfl (j *E.size+q) u (by rw [Uh,ae0] at hq;exact hq);rw [acv] at h1⊢;rw [aeK] at h1;exact h1
    ·rw [vL,Ui]
  have Dm:Ao.size=cT.size:=by rw [Ui];simp only [aaX,BY,aar,aaU,aiB];omega
  have Pc:(({W with drawn:=W.drawn+1}:World).setRow g Ao).heap[g]? =some (.cells Ao I.elem (0,0)):=eH _ Xa;obtain ⟨zs,hzl,hC0⟩:=An (P:=P) (t:=t) (ty:=0) (c:=cp-(i+(xs.length-j))) (w:=({W with drawn:=W.drawn+1}:World).setRow g Ao) (off:=(i+(xs.length-j)) *E.size) (n:=xs.length-(i+(xs.length-j))) hu qw VS G9 hz1 Pc (by omega) (by rw [Dm,um,<-adx];exact hmul (by omega));obtain ⟨wm,PC⟩: ∃wm:Array Value,wm=(Ao.toList.take ((i+(xs.length-j)) *E.size)++zs++Ao.toList.drop ((i+(xs.length-j)) *E.size+zs.length)).toArray:=⟨_,rfl⟩
  rw [<-PC] at hC0;have hC: ∀ty,(adZ #[t] ty #[.slice (some ⟨g,(i+(xs.length-j)) *E.size,none⟩) (xs.length-(i+(xs.length-j))) (cp-(i+(xs.length-j)))]).run P (({W with drawn:=W.drawn+1}:World).setRow g Ao)= .ok (.tuple #[]) ((({W with drawn:=W.drawn+1}:World).setRow g Ao).setRow g wm):=λty=>hC0;refine (Zr (w:=W) hf qw vL PD dO hj hA hC).mono ?_;rintro x w' ⟨rfl,rfl⟩;refine ⟨_,rfl,?_⟩;have amz:zs.length=(j-i) *E.size:=by rw [hzl];congr 1;omega
  have Yk:wm.size=cT.size:=by rw [PC];simp only [aaX,BY,aar,aaU,ad4,Dm];rw [amz,aeA,hlo];omega
  have aiw:wm.toList.take ((i+(xs.length-j)) *E.size)=cells.take (i *E.size)++cells.drop (j *E.size):=by
   rw [PC];have l1:(Ao.toList.take ((i+(xs.length-j)) *E.size)).length=(i+(xs.length-j)) *E.size:=by rw [aar,ad4,Dm,um,hlo];omega
   rw [show∀l:List Value,l.toArray.toList=l from λ_=>rfl,adm,aaT (by rw [l1];exact aa1 _),aa0 (by rw [l1];exact aa1 _),hlo,Ui];have l2:(cT.toList.take (i *E.size)).length=i *E.size:=by rw [aar,aiB,um];omega
   rw [show∀l:List Value,l.toArray.toList=l from λ_=>rfl,aaT (by rw [BY,l2];exact aa1 _),aa0 (by rw [BY,l2];exact aa1 _),Uh];congr 1;rw [<-Mp,agq,acP (by omega)]
  have e2:(({W with drawn:=W.drawn+1}:World).setRow g Ao).setRow g wm=({W with drawn:=W.drawn+1}:World).setRow g wm:=setRow_setRow _ _ _ _;have TF:((({W with drawn:=W.drawn+1}:World).setRow g Ao).setRow g wm).heap[g]? =some (.cells wm I.elem (0,0)):=eH _ Pc;have hrl:(xs.take i++xs.drop j).length=i+(xs.length-j):=by rw [BY,aar,aaU];omega
  refine HM (n:=i+(xs.length-j)) (cells:=cells.take (i *E.size)++cells.drop (j *E.size)) hz iu lz od Fk ?_ ?_ ?_ Ri ?_ hrl ((uW.take i).append (uW.drop j)) ?_
  ·intro b _ df;have hbg:b≠g:=λe=>df (by rw [e];rfl);rw [setRow_other _ _ _ _ hbg,setRow_other _ _ _ _ hbg]
  ·simp [acw]
  ·have r1:Rest W ({W with drawn:=W.drawn+1}:World):=⟨rfl,rfl,rfl⟩
   exact (r1.trans (Rest.setRow _ g Ao)).trans (Rest.setRow _ g wm)
  ·refine ⟨?_,.inr ⟨g,cp,wm,rfl,adL _,TF,by omega,B1,by rw [Yk,um],aiw⟩⟩;rw [BY,aar,aaU,oe,hlo,Fa,aeA];omega
  ·intro b hb;exact .inl hb
 ·
  have Y3:j=i:=by omega
  subst Y3;obtain ⟨ad,cp,hv,PD⟩: ∃ad cp,v0= .slice ad xs.length cp/\xs.length<=cp:=by
   rcases wF.2 with ⟨h1,h2⟩|⟨g,cp,cT,h1,_,_,h4,_⟩
   ·exact ⟨none,0,by rw [h1,h2],by omega⟩
   ·exact ⟨_,cp,h1,h4⟩
  have hvv:=hv;subst hv;refine (Zq (w:=W) (ad:=ad) hf qw PD hj).mono ?_;rintro x w' ⟨rfl,rfl⟩;refine ⟨_,rfl,φ,⟨.refl _,λ_ _ _=>rfl,λ_ _ _=>rfl,aa1 _,.refl _⟩,iu,?_⟩;show cj c (bu.plain Z) (mN c.key φ) w' _ ⟨c.mY (c.key f),false,xs.take j++xs.drop j⟩;rw [Fk,abS];exact ⟨E,cells,lz,od,wF,uW,MW⟩
end
def qz:List MV->Option MV
 |[.fresh xs,.i .i64 i,.i .i64 j]=>bif decide (0<=i)&&(decide (i<=j)&&decide (j<=(xs.length:Int))) then some (.fresh (xs.take i.toNat++xs.drop j.toNat)) else none
 |_=>none
theorem D5 {ms:List MV}{r:MV}(h:qz ms=some r): ∃xs i j,ms=[.fresh xs,.i .i64 ((i:Nat):Int),.i .i64 ((j:Nat):Int)]/\r= .fresh (xs.take i++xs.drop j)/\i<=j/\j<=xs.length:=by
 unfold qz at h;split at h
 ·rename_i xs i j;cases hb:decide (0<=i)&&(decide (i<=j)&&decide (j<=(xs.length:Int))) with
  |false=>rw [hb] at h;cases h
  |true=>simp only [hb,cond_true,AS] at h;simp only [bB,decide_eq_true_eq] at hb;obtain ⟨h1,h2,h3⟩:=hb;refine ⟨xs,i.toNat,j.toNat,?_,h.symm,by omega,by omega⟩;rw [agt h1,agt (by omega)]
 ·cases h
end Dn
/-
  slices.IndexFunc and slices.DeleteFunc of the library, walked, with whatever function. Conditions: none.
-/
namespace Dn
open Go
section
variable {P:Program}{Q:Exit->Act->World->Prop}{ops:Array Oper}{o:Oper}{a:Act} {w w':World}{n:Nat} {σ:Nat->Value}
theorem tm2 (v0 v1:Value)(k:Nat):Tm {tmps:= #[v0,v1]++IN k undef,defers:=[]} (k+2) (oV (oV (λ_=>undef) 0 v0) 1 v1):=by
 refine ⟨rfl,by simp [af4],λq=> ?_⟩;by_cases h0:q=0
 ·subst h0;show (#[v0,v1]++IN k undef).getD 0 undef=v0;simp [aa3]
 by_cases h1:q=1
 ·subst h1;show (#[v0,v1]++IN k undef).getD 1 undef=v1;simp [aa3]
 have e: ∀{x y:Nat},x≠y->No x y=false:=λ{x y} h=>by
  cases hq:No x y with
  |false=>rfl
  |true=>exact absurd (sh hq) h
 simp only [oV,e h0,e h1,cond_false];have h3:2<=q:=by omega
 simp [aa3,aft,show¬q<2 by omega];by_cases hk:q-2<k<;>simp [hk]
theorem Tm.call {i d:Nat}{op:Op}{rest:List Nat}{f:Nat}{args:Array Value}{Rp:Value->World->Prop}(af:Tm a n σ)(hi:ops[i]? =some o)(ho:ai o d op)(hd:d<n)(bA:(execOp (ev σ) o).run P w=(callFunc f args).run P w)(hc:cm P f args w Rp)(h: ∀v w' a',Rp v w'->Tm a' n (oV σ d v)->wpOps P ops Q rest a' w'):wpOps P ops Q (i::rest) a w:=by rw [wpOps_cons];unfold wpOp;simp only [hi,aas,ho.guard,if_true];left;refine sZ (by rw [af.eval];exact bA) hc ?_;intro v w' hr;rw [ho.dst];exact h v w' _ hr (af.put hd v)
theorem Ot {d:Nat}{t el:TypeId}{x y:Operand}{e:Operand->Value}{g n c j size:Nat}{i:TypeInfo}(ho:ai o d (.indexAddr t x y))(hu:P.underlying t=some (.slice el))(hi:P.info? el=some i)(hs:i.size=size)(hx:e x= .slice (some ⟨g,0,none⟩) n c)(hy:e y= .int .i64 ((j:Nat):Int))(hj:j<n)(w:World):(execOp e o).run P w= .ok (.value (.pointer (some ⟨g,j *size,none⟩))) w:=by
 have h2: ¬n<=j:=by omega
 simp [execOp,ho.op,hx,hy,Instr.indexAt,asIntOf,run_underlying hu,h2,ad1,typeInfo,hi,hs,acv]
theorem HN {c:Ctx}{d:Nat}{t:TypeId}{I:TI}{x:Operand}{e:Operand->Value}{g off:Nat}{vs:List Value}(ho:ai o d (.load t x))(hr:oa c.ti P t I)(hc:I.ch=[])(dB:I.st=true)(hl:vs.length=I.size)(hx:e x= .pointer (some ⟨g,off,none⟩))(hm:w.rangeAt g off vs):(execOp e o).run P w= .ok (.value (.agg vs.toArray)) w:=by
 rcases jC (P:=P) hr hc hl hm with ⟨_,h⟩|⟨h,_⟩
 ·have:=h w hm;simp [execOp,ho.op,hx,this]
 ·rw [dB] at h;cases h
theorem HO {d:Nat}{t:TypeId}{e:Operand->Value}{i:TypeInfo}{z:Value}(ho:ai o d (.alloc t))(hi:P.info? t=some i)(hz:i.zero=some z)(w:World): (execOp e o).run P w= .ok (.value (.pointer (some ⟨w.heap.size,0,none⟩))) (w.alloc (.cells z.cells t)):=by simp [execOp,ho.op,Instr.alloc,zeroValue,typeInfo,hi,hz,newVar,newRow,newObj,Sem.run]
theorem xN {c:Ctx}{t:TypeId}{I:TI}{x y:Operand}{e:Operand->Value}{g off:Nat}{v:Value}{arr:Array Value}{T:TypeId}(ho:fN o (.store t x y))(hr:oa c.ti P t I)(hc:I.ch=[])(hx:e x= .pointer (some ⟨g,off,none⟩))(hy:e y=v)(hs:v.cells.toList.length=I.size)(ic: ∀u∈v.cells.toList,u.oneCell'=true)(ct:w.heap[g]? =some (.cells arr T (0,0)))(zn:off+I.size<=arr.size): (execOp e o).run P w= .ok .skip (w.setRow g (arr.toList.take off++v.cells.toList++arr.toList.drop (off+I.size)).toArray):=by have:=ny (P:=P) (w:=w) hr hc hs ic ct zn;simp [execOp,ho.op,hx,hy,this]
theorem Tm.wG {i:Nat}{op:Op}{rest:List Nat}(af:Tm a n σ)(hi:ops[i]? =some o)(ho:fN o op)(bA:(execOp (ev σ) o).run P w= .ok .skip w')(h:wpOps P ops Q rest a w'):wpOps P ops Q (i::rest) a w:=by rw [wpOps_cons];unfold wpOp;simp only [hi,aas,ho.guard,if_true];left;unfold aeM;rw [af.eval,bA];simp only [aeQ];rw [ho.dst];exact h
theorem Ap {d:Nat} {t t':TypeId}{x y:Operand}{e:Operand->Value}{p q:Int}(ho:ai o d (.binOp .lss t x y t'))(hx:e x= .int .i64 p)(hy:e y= .int .i64 q)(w:World): (execOp e o).run P w= .ok (.value (.bool (decide (p<q)))) w:=s8 ho hx hy (λw=>by simp [afI,ag3]) w
theorem Ou {d:Nat}{x y:Operand}{t:Array TypeId}{e:Operand->Value}{g:Nat}{lb:Array Value}{v:Value}(ho:ai o d (.call {callee:= .value x,args:= #[y],argTypes:=t})) (hx:e x= .func (.func g) #[] lb) (hy:e y=v) (w:World): (execOp e o).run P w=(callFunc g (#[v]++lb)).run P w:=by simp [execOp,ho.op,resolve,invoke,hx,hy,ad7]
theorem acd {d:Nat}{x y:Operand}{t:Array TypeId}{e:Operand->Value}{g:Nat}{v u:Value}(ho:ai o d (.call {callee:= .value (.func g),args:= #[x,y],argTypes:=t})) (he:e (.func g)= .func (.func g) #[] #[]) (hx:e x=v) (hy:e y=u) (w:World): (execOp e o).run P w=(callFunc g #[v,u]).run P w:=by simp [execOp,ho.op,resolve,invoke,he,hx,hy,ad7]
end
def Ov (r:Nat->Nat)(o:Nat->Oper):Code:= .seq (.region (r 0) #[o 0] false) (.seq (.seq (.region (r 1) #[o 1,o 2,o 3] false) (.block 0 (.loop (.seq (.region (r 2) #[o 4] false) (.seq (.cond (.tmp 9) .skip (.exit 0)) (.seq (.block 1 (.seq (.region (r 3) #[o 5,o 6] false) (.seq (.region (r 4) #[o 7,o 8,o 9,o 10,o 11,o 12] false) (.cond (.tmp 16) (.seq (.region (r 5) #[o 13,o 14] false) .ret) .skip)))) (.region (r 6) #[o 15,o 16] false))))))) (.seq (.region (r 7) #[o 17] false) .ret))
structure afA (t el ti:Nat) (o:Nat->Oper):Prop where
 h0:ai (o 0) 4 (.assign (.const (.int .i64 0)))
 h1:ai (o 1) 6 (.move (.tmp 0))
 h2:ai (o 2) 7 (.call {callee:= .builtin .len,args:= #[.tmp 6],argTypes:= #[t]})
 h3:ai (o 3) 8 (.move (.const (.int .i64 0)))
 h4:ai (o 4) 9 (.binOp .lss ti (.tmp 8) (.tmp 7) ti)
 h5:ai (o 5) 10 (.move (.tmp 8))
 h6:ai (o 6) 5 (.assign (.tmp 10))
 h7:ai (o 7) 11 (.move (.tmp 1))
 h8:ai (o 8) 12 (.move (.tmp 0))
 h9:ai (o 9) 13 (.move (.tmp 5))
 wg:ai (o 10) 14 (.indexAddr t (.tmp 12) (.tmp 13))
 zt:ai (o 11) 15 (.load el (.tmp 14))
 ER:ai (o 12) 16 (.call {callee:= .value (.tmp 11),args:= #[.tmp 15],argTypes:= #[el]})
 Dp:ai (o 13) 17 (.move (.tmp 5))
 Dq:ai (o 14) 4 (.assign (.tmp 17))
 Dr:ai (o 15) 18 (.binOp .add ti (.tmp 8) (.const (.int .i64 1)) ti)
 Bl:ai (o 16) 8 (.move (.tmp 18))
 DX:ai (o 17) 4 (.assign (.const (.int .i64 (-1))))
structure Zt (P:Program) (f t ti el:Nat) (fn:Func) (r:Nat->Nat) (o:Nat->Oper):Prop where
 pos:P.funcs[f]? =some fn
 name:(fn.name== "runtime.NumGoroutine")=false
 tmps:fn.ntmps=19
 res:fn.results= #[.tmp 4]
 body:fn.body=some (Ov r o)
 ops:afA t el ti o
 vK:P.underlying t=some (.slice el)
theorem Ow {P:Program}{fn:Func}{n:Nat}{a:Act}{w:World} {σ:Nat->Value}{R:Ending->World->Prop}{v:Value}(hr:fn.results= #[.tmp 4])(af:Tm a n σ)(h6:σ 4=v)(h:R (.returned v) w):bodyPost P fn R .ret a w:=by
 refine ⟨af.defers,v,?_,h⟩;have h2:a.tmps[4]?.getD undef=v:=by have:=af.get 4;rw [h6] at this;simpa using this
 simp [results,hr,h2]
theorem Qo {key:Nat->Nat} {φ:Ph}{size:Nat}{xs:List MV}{cells:List Value}(h:aP key φ size cells xs){k:Nat}(hk:k<xs.length): ((cells.drop (k *size)).take size).length=size/\gk key φ ((cells.drop (k *size)).take size) xs[k]:=by
 obtain ⟨p1,v1,p2,he,NR,zm,et⟩:=h.at (abk hk);have:(cells.drop (k *size)).take size=v1:=by rw [he,adm,<-NR,agU,<-zm,agS]
 rw [this];exact ⟨zm,et⟩
theorem Jo {key:Nat->Nat} {φ:Ph}{vs:List Value}{x:MV}(h:gk key φ vs x){ms:List MV}(hx:x= .agg ms):cV key φ (.agg vs.toArray) x:=by
 subst hx;cases h with
 |agg _ _ h=>exact ⟨vs.toArray,rfl,by simpa using h⟩
section
variable {P:Program}{c:Ctx}{f t ti el:Nat}{fn:Func}{r:Nat->Nat}{o:Nat->Oper}{E:TI}{n cp g0 g:Nat}{ad:Option Addr}{ob:Option Nat}{w:World}{lb:Array Value}{S:Type}{Inv:S->(Nat->Prop)->Ph->World->Prop}{step:S->MV->Option (Bool×S)}
theorem Zu (hf:Zt P f t ti el fn r o)(hp:xK P c g lb Inv step)(hT:fZ P c.ti)(hE:c.tv el=some E)(dB:E.st=true){xs:List MV}{cells:List Value}{cT:Array Value}{T:TypeId} {φ0:Ph}{Z0:Nat->Prop} {s0 s':S}{ys:List MV}(Jc: ∀x∈xs,∃ms,x= .agg ms)(Lh:0<xs.length->ad=some ⟨g0,0,none⟩/\ob=some g0/\w.heap[g0]? =some (.cells cT T (0,0))/\cT.toList.take (xs.length *E.size)=cells)(Xa: ∀b,ob=some b-> ¬Z0 b/\b<w.heap.size/\ ∀off,φ0 b off=none)(gJ:aP c.key φ0 E.size cells xs)(SD:xs.length<2^63)(hinv:Inv s0 Z0 φ0 w)(mL: ∀b,w.heap.size<=b->Z0 b)(iu:mb φ0 w)(hd:na step s0 xs=some (ys,s')): Calls P f #[.slice ad xs.length cp,.func (.func g) #[] lb] w λe W=> ∃Z φ,(∀b,ob=some b->W.heap[b]? =w.heap[b]?)/\ ((e= .returned (.int .i64 (-1))/\ys=xs/\BH c ob Inv Z0 φ0 w s' Z φ W)\/ ∃k,∃hk:k<xs.length,∃sk,e= .returned (.int .i64 (k:Int))/\na step s0 (xs.take (k+1))=some (xs.take k,sk)/\BH c ob Inv Z0 φ0 w sk Z φ W):=by
 obtain ⟨lz,od⟩:=aV hE;obtain ⟨ie,z,qw,vL,WY,VS,G9⟩:=iA (hT _ E lz) od;refine calls_of_wp hf.pos hf.body ?_;rw [hf.tmps];generalize Qp:(λ(e:Ending) (W:World)=> ∃Z φ,(∀b,ob=some b->W.heap[b]? =w.heap[b]?)/\ ((e= .returned (.int .i64 (-1))/\ys=xs/\BH c ob Inv Z0 φ0 w s' Z φ W)\/ ∃k,∃hk:k<xs.length,∃sk,e= .returned (.int .i64 (k:Int))/\na step s0 (xs.take (k+1))=some (xs.take k,sk)/\BH c ob Inv Z0 φ0 w sk Z φ W))=afB;have key: ∀a:Act,Tm a 19 (oV (oV (λ_=>undef) 0 (.slice ad xs.length cp)) 1 (.func (.func g) #[] lb))->(Ov r o).wp P (bodyPost P fn afB) a w:=by
  intro a af;unfold Ov;refine wp_seq (wp_region ?_);rw [show AI (#[o 0]:Array Oper).size=[0] from rfl];refine af.step (v:= .int .i64 0) rfl hf.ops.h0 (by decide) (bD hf.ops.h0 _) (λa af=> ?_);refine wp_seq (wp_seq (wp_region ?_));rw [show AI (#[o 1,o 2,o 3]:Array Oper).size=[0,1,2] from rfl];refine af.step (v:= .slice ad xs.length cp) rfl hf.ops.h1 (by decide) (az hf.ops.h1 _) (λa af=> ?_);refine af.step (v:= .int .i64 ((xs.length:Nat):Int)) rfl hf.ops.h2 (by decide) (j7 hf.ops.h2 hf.vK rfl _) (λa af=> ?_);refine af.step (v:= .int .i64 0) rfl hf.ops.h3 (by decide) (az hf.ops.h3 _) (λa af=> ?_);refine wp_block (wp_loop (λa W=> ∃σ,Tm a 19 σ/\σ 0= .slice ad xs.length cp/\σ 1= .func (.func g) #[] lb/\σ 7= .int .i64 ((xs.length:Nat):Int)/\ ∃k:Nat,k<=xs.length/\σ 8= .int .i64 (k:Int)/\ (∀b,ob=some b->W.heap[b]? =w.heap[b]?)/\ ∃s Z φ,na step s0 (xs.take k)=some (xs.take k,s)/\BH c ob Inv Z0 φ0 w s Z φ W) (λa W=>match a.tmps.getD 8 undef with| .int _ k=>xs.length-k.toNat|_=>0) ?_ ?_)
  ·refine ⟨_,af,rfl,rfl,rfl,0,adL _,rfl,λ_ _=>rfl,s0,Z0,φ0,rfl,⟨hinv,mL,λb hb=> .inl hb,iu,.refl _ _ _,λb off hb=>(Xa b hb).2.2 off⟩⟩
  ·clear af;rintro a W ⟨σ,af,h0,h1,h7,k,hk,h8,BG,s,Z,φ,Hd,hW⟩;refine wp_seq (wp_region ?_);rw [show AI (#[o 4]:Array Oper).size=[0] from rfl];have hm8:(match a.tmps.getD 8 undef with| .int _ k=>xs.length-k.toNat|_=>0)=xs.length-k:=by rw [af.get 8,h8];simp
   rw [hm8];clear hm8;refine af.step (v:= .bool (decide ((k:Int)<(xs.length:Int)))) rfl hf.ops.h4 (by decide) (Ap hf.ops.h4 h8 h7 _) (λa af=> ?_);refine wp_seq ?_;by_cases dO:k<xs.length;rotate_left
   ·refine af.cond (b:=false) (by show abQ (decide ((k:Int)<(xs.length:Int)))=_;rw [decide_eq_false (by omega)]) ?_;simp only [IT,if_false];refine wp_exit ?_;have hkn:k=xs.length:=by omega
    subst hkn;rw [agL] at Hd;rw [hd] at Hd;simp only [AS,abj] at Hd;obtain ⟨rfl,rfl⟩:=Hd;show Exit.then _ _ _ _ _;refine wp_seq (wp_region ?_);rw [show AI (#[o 17]:Array Oper).size=[0] from rfl];refine af.step (v:= .int .i64 (-1)) rfl hf.ops.DX (by decide) (bD hf.ops.DX _) (λa af=> ?_);refine wp_ret ?_;refine Ow hf.res af (v:= .int .i64 (-1)) rfl ?_;rw [<-Qp];exact ⟨Z,φ,BG,.inl ⟨rfl,rfl,hW⟩⟩
   ·refine af.cond (b:=true) (by show abQ (decide ((k:Int)<(xs.length:Int)))=_;rw [decide_eq_true (by omega)]) ?_;simp only [if_true];refine wp_skip ?_;obtain ⟨Zx,Vr,ct,a8⟩:=Lh (by omega);have h0':=h0;rw [Zx] at h0';obtain ⟨yk,sk,b,sk',e1,e2,e3⟩:=T7 hd dO;rw [Hd] at e1;simp only [AS,abj] at e1;obtain ⟨rfl,rfl⟩:=e1;have Zy:=gJ.mono hW.tr.ph;obtain ⟨hl,et⟩:=Qo Zy dO;have SE:W.rangeAt g0 (k *E.size) ((cells.drop (k *E.size)).take E.size):=by
     intro j v hj;have Lb:j<E.size:=by have:=(aba.1 hj).1;omega
     have Ls:W.heap[g0]? =some (.cells cT T (0,0)):=(BG g0 Vr).trans ct;rw [cell_of Ls,<-ad0];rw [List.getElem?_take_of_lt Lb,ae0,<-a8,agA] at hj;split at hj
     ·exact hj
     ·cases hj
    obtain ⟨ms,HJ⟩:=Jc _ (agH dO);have Ss:cV c.key φ (.agg ((cells.drop (k *E.size)).take E.size).toArray) xs[k]:=Jo et HJ;refine wp_seq (wp_block ?_);refine wp_seq (wp_region ?_);rw [show AI (#[o 5,o 6]:Array Oper).size=[0,1] from rfl];refine af.step (v:= .int .i64 (k:Int)) rfl hf.ops.h5 (by decide) ((az hf.ops.h5 _).trans (by show aha (agV (σ 8)) W=_;rw [h8])) (λa af=> ?_);refine af.step (v:= .int .i64 (k:Int)) rfl hf.ops.h6 (by decide) (bD hf.ops.h6 _) (λa af=> ?_);refine wp_seq (wp_region ?_);rw [show AI (#[o 7,o 8,o 9,o 10,o 11,o 12]:Array Oper).size=[0,1,2,3,4,5] from rfl];refine af.step (v:= .func (.func g) #[] lb) rfl hf.ops.h7 (by decide) ((az hf.ops.h7 _).trans (by show aha (agV (σ 1)) W=_;rw [h1])) (λa af=> ?_);refine af.step (v:= .slice (some ⟨g0,0,none⟩) xs.length cp) rfl hf.ops.h8 (by decide) ((az hf.ops.h8 _).trans (by show aha (agV (σ 0)) W=_;rw [h0'])) (λa af=> ?_);refine af.step (v:= .int .i64 (k:Int)) rfl hf.ops.h9 (by decide) (az hf.ops.h9 _) (λa af=> ?_);refine af.step rfl hf.ops.wg (by decide) (Ot hf.ops.wg hf.vK qw vL rfl rfl dO _) (λa af=> ?_);refine af.step rfl hf.ops.zt (by decide) (HN hf.ops.zt (hT _ E lz) od dB hl rfl SE) (λa af=> ?_);refine af.call rfl hf.ops.ER (by decide) (Ou hf.ops.ER rfl rfl _) (hp.call hW.inv hW.new hW.iK Ss e2) ?_;rintro v W2 a ⟨rfl,φ',t1,t2,t3⟩ af;have hnz: ∀b,ob=some b-> ¬Z b:=λb hb hz=>by
     have:=Xa b hb;rcases hW.sub _ hz with h|h
     ·exact this.1 h
     ·omega
    have TL: ∀b,ob=some b->W2.heap[b]? =w.heap[b]? :=λb hb=>(t1.heap b (hnz b hb) (agy (Xa b hb).2.1 hW.tr.size)).trans (BG b hb);have Cy:BH c ob Inv Z0 φ0 w sk' Z φ' W2:=⟨t3,λb hb=>hW.new b (adz t1.size hb),hW.sub,t2,hW.tr.trans (t1.sup λb hb=> .inl (hW.sub b hb)),λb off hb=>by rw [t1.free b off (hnz b hb)];exact hW.free b off hb⟩
    cases b with
    |true=>refine af.cond (b:=true) rfl ?_;simp only [if_true];refine wp_seq (wp_region ?_);rw [show AI (#[o 13,o 14]:Array Oper).size=[0,1] from rfl];refine af.step (v:= .int .i64 (k:Int)) rfl hf.ops.Dp (by decide) (az hf.ops.Dp _) (λa af=> ?_);refine af.step (v:= .int .i64 (k:Int)) rfl hf.ops.Dq (by decide) (bD hf.ops.Dq _) (λa af=> ?_);refine wp_ret ?_;refine Ow hf.res af (v:= .int .i64 (k:Int)) rfl ?_;rw [<-Qp];exact ⟨Z,φ',TL,.inr ⟨k,dO,sk',rfl,e3,Cy⟩⟩
    |false=>
     refine af.cond (b:=false) rfl ?_;simp only [IT,if_false];refine wp_skip ?_;show Code.wp P (agN (r 6) #[o 15,o 16] false) _ a W2;refine wp_region ?_;rw [show AI (#[o 15,o 16]:Array Oper).size=[0,1] from rfl];refine af.step (v:= .int .i64 ((k+1:Nat):Int)) rfl hf.ops.Dr (by decide) (iP (q:=1) hf.ops.Dr h8 rfl (by omega) _) (λa af=> ?_);refine af.step (v:= .int .i64 ((k+1:Nat):Int)) rfl hf.ops.Bl (by decide) (az hf.ops.Bl _) (λa af=> ?_);refine ⟨⟨_,af,h0,h1,h7,k+1,by omega,rfl,TL,sk',Z,φ',?_,Cy⟩,?_⟩
     ·rw [e3];have e4:xs.take (k+1)=xs.take k++[xs[k]]:=by rw [agE,abk dO];rfl
      rw [e4];rfl
     ·have:a.tmps.getD 8 undef= .int .i64 ((k+1:Nat):Int):=by rw [af.get 8];rfl
      rw [this];simp;omega
 exact key _ (tm2 _ _ 17)
end
end Dn
