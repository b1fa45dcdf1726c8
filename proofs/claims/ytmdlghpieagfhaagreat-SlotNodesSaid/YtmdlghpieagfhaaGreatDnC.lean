import Derived.Test.YtmdlghpieagfhaaGreatDnB
import Derived.Laws.CopyRow
import Derived.Lib.AppendZerosOnto
import Derived.Lib.Overlaps
import Derived.Laws.Externs
import Derived.Control
import Derived.Maps.RangeRun
import Derived.ScopeJumps
/-
  Comparing values of plain types. Conditions: none.
-/
set_option linter.unusedSimpArgs false
set_option linter.unusedVariables false
set_option linter.constructorNameAsVariable false
open Bool renaming and_eq_true→fj,not_eq_true'→aav,false_eq_true→aaO,or_eq_false_iff→aaV,eq_false_iff→afR,and_true→af4,not_eq_false'→agI,not_true→agX,true_and→agY,eq_iff_iff→ahi,or_eq_true→ahk
open Nat renaming eq_of_beq_eq_true→sh,beq→No,le_of_ble_eq_true→aay,le_refl→aa0,mul_le_mul_right→acn,ble→acO,ble_eq_true_of_le→adq,min_eq_left→afI,zero_le→afK,add_mul→agr,le_trans→agH,min_def→ahq,zero_add→aij,add_comm→aio,succ_mul→aiT
open Option.some renaming injEq→AI
open Go.Region renaming ready→AT,wanted→aaK,binds→afB,noSelect→ahl
open List renaming mem_cons→BY,getElem?_eq_getElem→IN,range→IS,length_append→aaH,length_cons→aaI,length_take→aaM,all_eq_true→aaN,mem_map→aaT,mem_append→aaU,size_toArray→aaX,cons_append→aaZ,take_append_of_le_length→abf,mem_iff_getElem→abA,take_of_length_le→abR,length_drop→abY,take_append_drop→abZ,nodup_cons→ab9,forall_mem_cons→acq,getElem?_map→acs,drop_eq_nil_of_le→acW,map_append→adp,getElem?_eq_none→adL,drop_drop→afs,getElem?_eq_some_iff→afD,map_cons→afE,nil_append→afF,length_map→afG,flatMap_cons→afM,ext_getElem?→afP,any_eq_true→afX,mem_cons_of_mem→af5,mem_of_getElem?→agf,getElem?_append_right→agM,getElem?_append_left→agO,getElem?_eq_none_iff→agQ,append_assoc→agW,getElem_mem→ahe,sublist_cons_self→ahh,length_singleton→ahm,replicate→ahn,getElem?_set_ne→ahv,getElem?_range→aic,mem_singleton→aih,nodup_append→aim,take_append→aiu,mem_range'→aiB,take_take→aiD,range'→ai9
open Go.ChangeMaps renaming setBlock→IT
open Array renaming replicate→OF,getElem?_setIfInBounds_ne→aaP,length_toList→aaQ,getElem?_toList→aaR,getElem?_eq_some_iff→aaY,getD_eq_getD_getElem?→abK,getElem?_append→adr,setIfInBounds_comm→agZ,size_append→aik
open Go.IntKind renaming wrap→aaJ,wrap_i64→afC,bits→afQ
open Go.Region.linearise renaming go→aaL
open Go.Act renaming put_comm→aaS
open Go.World renaming block_lt_of_cell?→aaW,cell?_of_block→aa1,setRow→afO,frozen?→ag5
open Go.Exit renaming inBlock→abU
open Go.Builtin renaming copy_→abW,append_→afH,zeroCells→agV,firstCells→aif
open List.cons renaming injEq→acZ
open Go.Result renaming andThen_ok→adO,andThen→afN
open Go.Value renaming ownBlock→afA,bool→afJ,cells→aix,int→aiP
open Go.Sem renaming run_bind→afL,run_pure→ai1
open Option renaming map_some→agA
open Go.Oper renaming upon_value→agC,upon→ahd,wp→ahg,apart_spec→ahj,wp_mono→ain
open Go.Addr renaming add_mid→agG
open List.Sublist renaming append_left→ag0
open Go.Op renaming equalIn→ahf,equal→aii
open Go.Instr renaming checkKey→aho,sameNow→aie,sliceBounds→aip,sliceBound→aiq,sliceAt→aiK,slice→aje
open Go.Code renaming rounds→ahr,region→aji
open Go renaming sizeOf→ahw,part→aiC
open Ne renaming symm→ahV
open Int renaming toNat→ah7,fdiv→aiE
open Go.ByteArray renaming toList_eq→ah8
open Go.Extern.SlicesOverlaps renaming overlaps→aiw
open Prod.mk renaming injEq→aiF
open Go.Value.pointer renaming injEq→ajt
namespace Dn
open Go
def cks:List Kd->List Kd
 |[]=>[]
 | .h::r=>ahn 32 (.i .u8)++cks r
 |k::r=>k::cks r
def QT:Kd->Value->Bool
 | .b,.bool _=>true
 | .i k,.int k' _=>decide (k'=k)
 | .s,.string _=>true
 |_,_=>false
def kq:List Kd->List Value->Prop
 |[],vs=>vs=[]
 |k::ks,vs=> ∃v r,vs=v::r/\QT k v=true/\kq ks r
def ceq:Value->Value->Bool
 | .bool a,.bool b=>decide (a=b)
 | .int _ a,.int _ b=>decide (a=b)
 | .string a,.string b=>decide (a.data.toList=b.data.toList)
 |_,_=>false
def lW:List Value->List Value->Bool
 |[],[]=>true
 |x::xs,y::ys=>ceq x y&&lW xs ys
 |_,_=>false
theorem wD {xs ys us vs:List Value}(h:xs.length=ys.length):lW (xs++us) (ys++vs)=(lW xs ys&&lW us vs):=by
 induction xs generalizing ys with
 |nil=>cases ys with|nil=>simp [lW]|cons=>simp at h
 |cons x xs ih=>cases ys with|nil=>simp at h|cons y ys=>simp only [aaZ,lW,ih (by simpa using h),Bool.and_assoc]
theorem kq.length {ks:List Kd}: ∀{vs:List Value},kq ks vs->vs.length=ks.length:=by
 induction ks with
 |nil=>intro vs h;cases h;rfl
 |cons k ks ih=>intro vs h;obtain ⟨v,r,rfl,_,h2⟩:=h;simp [ih h2]
theorem kq.append {ks js:List Kd}: ∀{vs us:List Value},kq ks vs->kq js us->kq (ks++js) (vs++us):=by
 induction ks with
 |nil=>intro vs us h h';cases h;simpa using h'
 |cons k ks ih=>intro vs us h h';obtain ⟨v,r,rfl,h1,h2⟩:=h;exact ⟨v,r++us,rfl,h1,ih h2 h'⟩
theorem kq.split {ks js:List Kd}: ∀{vs:List Value},kq (ks++js) vs->kq ks (vs.take ks.length)/\kq js (vs.drop ks.length):=by
 induction ks with
 |nil=>intro vs h;exact ⟨by simp [kq],by simpa using h⟩
 |cons k ks ih=>intro vs h;obtain ⟨v,r,rfl,h1,h2⟩:=h;obtain ⟨h3,h4⟩:=ih h2;exact ⟨⟨v,_,rfl,h1,h3⟩,by simpa using h4⟩
theorem KH (x:lp):kq (ahn 32 (.i .u8)) (bV x):=by
 have: ∀(l:List UInt8),kq (ahn l.length (.i .u8)) (l.map λb=>aiP .u8 (b.toNat:Int)):=by
  intro l;induction l with
  |nil=>rfl
  |cons b l ih=>exact ⟨_,_,rfl,by simp [QT],ih⟩
 have h:=this x.l;rw [x.h] at h;exact h
theorem OR (x y:lp):lW (bV x) (bV y)=decide (x=y):=by
 have: ∀(l m:List UInt8),l.length=m.length->lW (l.map λb=>aiP .u8 (b.toNat:Int)) (m.map λb=>aiP .u8 (b.toNat:Int))=decide (l=m):=by
  intro l;induction l with
  |nil=>intro m h;cases m with|nil=>rfl|cons=>simp at h
  |cons b l ih=>
   intro m h;cases m with
   |nil=>simp at h
   |cons b' m=>
    simp only [afE,lW,ceq,ih m (by simpa using h),acZ];have:((b.toNat:Int)=(b'.toNat:Int))↔b=b':=by
     constructor
     ·intro he;apply UInt8.toNat_inj.1;omega
     ·intro he;rw [he]
    simp [this]
 rw [bV,bV,this x.l y.l (by rw [x.h,y.h])];by_cases h:x=y
 ·subst h;simp
 ·have:x.l≠y.l:=λhe=>h (lp.ext' he);simp [h,this]
section
variable {e:Env}
theorem OS {lay:List Kd}: ∀{ls:List aT} {vs:List Value},aM e vs ls->gn lay ls=true->kq (cks lay) vs:=by
 induction lay with
 |nil=>
  intro ls vs h hf;cases ls with
  |nil=>cases h;rfl
  |cons=>simp [gn] at hf
 |cons k lay ih=>
  intro ls vs h hf;cases ls with
  |nil=>simp [gn] at hf
  |cons l ls=>
   simp only [gn] at hf;cases h1:oZ k l with
   |false=>simp [h1] at hf
   |true=>
    simp only [h1,cond_true] at hf;obtain ⟨v,u,rfl,g1,g2⟩:=h;have hr:=ih g2 hf;have one: ∀m:MV,∀kd:Kd,l= .p m->(∀w:List Value,nr e.key e.φ w m-> ∃x,w=[x]/\QT kd x=true)->kq (kd::cks lay) (v++u):=by intro m kd hl hm;subst hl;obtain ⟨x,rfl,hx⟩:=hm v g1.2;exact ⟨x,u,rfl,hx,hr⟩
    cases k<;>cases l<;>simp only [oZ] at h1<;>try (cases h1;done)
    ·rename_i m;cases m<;>simp only [oZ] at h1<;>try (cases h1;done)
     exact one _ _ rfl (λw hw=>by cases hw;exact ⟨_,rfl,rfl⟩)
    ·rename_i k m;cases m<;>simp only [oZ] at h1<;>try (cases h1;done)
     exact one _ _ rfl (λw hw=>by cases hw;exact ⟨_,rfl,h1⟩)
    ·rename_i m;cases m<;>simp only [oZ] at h1<;>try (cases h1;done)
     exact one _ _ rfl (λw hw=>by cases hw;exact ⟨_,rfl,rfl⟩)
    ·rename_i x;have g1:v=bV x:=g1;subst g1;exact (KH x).append hr
theorem Nn {l l':aT} {v v':List Value}{b:Bool}(h:bo e v l) (h':bo e v' l')(hb:GV l l'=some b):lW v v'=b/\v.length=v'.length:=by
 unfold GV at hb;split at hb
 ·obtain ⟨_,h⟩:=h;obtain ⟨_,h'⟩:=h';cases h;cases h';simp at hb;exact ⟨by simp [lW,ceq,<-hb],rfl⟩
 ·obtain ⟨_,h⟩:=h;obtain ⟨_,h'⟩:=h';cases h;cases h';rename_i k x k' y _ _;cases hk:decide (k=k') with
  |false=>simp [hk] at hb
  |true=>simp [hk] at hb;exact ⟨by simp [lW,ceq,<-hb],rfl⟩
 ·obtain ⟨_,h⟩:=h;obtain ⟨_,h'⟩:=h';cases h;cases h';simp at hb;exact ⟨by simp [lW,ceq,<-hb],rfl⟩
 ·rename_i x y;have h:v=bV x:=h;have h':v'=bV y:=h';subst h;subst h';simp at hb;exact ⟨by rw [OR,<-hb],by rw [dL,dL]⟩
 ·cases hb
theorem acP {ls:List aT}: ∀{Ad:List aT} {vs Vi:List Value} {b:Bool},aM e vs ls->aM e Vi Ad->km ls Ad=some b->lW vs Vi=b:=by
 induction ls with
 |nil=>
  intro Ad vs Vi b h h' hb;cases Ad with
  |nil=>cases h;cases h';simp [km] at hb;subst hb;rfl
  |cons l' Ad=>simp [km] at hb
 |cons l ls ih=>
  intro Ad vs Vi b h h' hb;cases Ad with
  |nil=>simp [km] at hb
  |cons l' Ad=>
   obtain ⟨v,u,rfl,h1,h2⟩:=h;obtain ⟨v',u',rfl,Jv,SD⟩:=h';have two: ∀x y,GV l l'=some x->km ls Ad=some y->b=(x&&y)->lW (v++u) (v'++u')=b:=by intro x y hx hy hxy;obtain ⟨g1,g2⟩:=Nn h1 Jv hx;rw [wD g2,g1,ih h2 SD hy,hxy]
   cases ls with
   |nil=>
    cases Ad with
    |nil=>have hb:GV l l'=some b:=hb;exact two b true hb rfl (by simp)
    |cons p q=>
     simp only [km] at hb;split at hb
     ·rename_i x y hx hy;exact two x y hx hy (by simpa using hb.symm)
     ·cases hb
   |cons p q=>
    simp only [km] at hb;split at hb
    ·rename_i x y hx hy;exact two x y hx hy (by simpa using hb.symm)
    ·cases hb
end
def xn (F:TypeId->Option (List Kd))(P:Program):List Field->Nat->Nat->Option (List Kd)
 |[],o,n=>bif No o n then some [] else none
 |f::fs,o,n=>match F f.type with
  |some ks=>bif No f.offset o&&No ks.length (P.cellsOf f.type)&&!(f.name== "_") then (match xn F P fs (o+ks.length) n with|some r=>some (ks++r)|none=>none) else none
  |none=>none
def S9:Nat->List Kd->List Kd
 |0,_=>[]
 |n+1,ks=>ks++S9 n ks
def oP (P:Program):Nat->TypeId->Option (List Kd)
 |0,_=>none
 |d+1,t=>match P.underlying t with
  |some .bool=>some [.b]
  |some (.int k)=>some [.i k]
  |some .string=>some [.s]
  |some (.array n e)=>match oP P d e with
   |some ks=>bif No ks.length (P.cellsOf e)&&(match P.info? e with|some _=>true|none=>false) then some (S9 n ks) else none
   |none=>none
  |some (.struct fs)=>bif P.stoodInHeld t then none else xn (oP P d) P fs.toList 0 (P.cellsOf t)
  |_=>none
def Np:TypeDesc->Bool
 | .struct _=>true
 | .array _ _=>true
 |_=>false
theorem KI {F:TypeId->Option (List Kd)}{P:Program}: ∀(fs:List Field) (o n:Nat) (ks:List Kd),xn F P fs o n=some ks->o+ks.length=n:=by
 intro fs;induction fs with
 |nil=>
  intro o n ks hk;simp only [xn] at hk;cases hb:No o n with
  |false=>simp [hb] at hk
  |true=>simp [hb] at hk;subst hk;simpa using sh hb
 |cons f fs ihf=>
  intro o n ks hk;simp only [xn] at hk;cases hf:F f.type with
  |none=>simp [hf] at hk
  |some js=>
   simp only [hf] at hk
   cases hc:No f.offset o&&No js.length (P.cellsOf f.type)&&!(f.name== "_") with
   |false=>simp [hc] at hk
   |true=>
    simp only [hc,cond_true] at hk;cases hr:xn F P fs (o+js.length) n with
    |none=>simp [hr] at hk
    |some rs=>simp only [hr,AI] at hk;subst hk;have:=ihf _ _ _ hr;simp only [aaH];omega
def vO (P:Program)(t:TypeId)(v:Value)(cs:List Value):Prop:=match P.underlying t with
 |some (.struct _)|some (.array _ _)=>v= .agg cs.toArray
 |_=>cs=[v]
theorem Ta (n:Nat)(ks:List Kd):(S9 n ks).length=n *ks.length:=by
 induction n with
 |zero=>simp [S9]
 |succ n ih=>simp only [S9,aaH,ih,aiT];omega
section
variable {P:Program}{w:World}
theorem B1 {t:TypeId}{xs:Array Value}{off:Nat}{n:Nat}{d:TypeDesc}(hu:P.underlying t=some d)(hn:P.cellsOf t=n)(o4:Np d=false->n=1)(hl:off+n<=xs.size): ∃v,(aiC t xs off).run P w= .ok v w/\vO P t v ((xs.toList.drop off).take n):=by
 obtain ⟨i,hi⟩:=info_of_underlying hu;have ug:i.size=n:=by rw [<-hn];simp [Program.cellsOf,hi]
 cases hd:Np d with
 |true=>
  refine ⟨.agg (xs.extract off (off+n)),?_,?_⟩
  ·cases d<;>simp [Np] at hd<;>simp [aiC,isAgg,run_underlying hu,ahw,typeInfo,hi,ug]
  ·have he:(xs.extract off (off+n))=((xs.toList.drop off).take n).toArray:=by apply Array.toList_inj.1;rw [Array.toList_extract];simp [List.extract]
   unfold vO;cases d<;>simp [Np] at hd<;>simp only [hu]<;>rw [he]
 |false=>
  have Sb:=o4 hd;subst Sb;have eE:off<xs.size:=by omega
  refine ⟨xs[off],?_,?_⟩
  ·cases d<;>simp [Np] at hd<;>simp [aiC,isAgg,run_underlying hu,eE]
  ·have he:(xs.toList.drop off).take 1=[xs[off]]:=by rw [List.take_one,List.head?_drop];simp [eE]
   unfold vO;cases d<;>simp [Np] at hd<;>simp only [hu]<;>exact he
theorem ZE {F:TypeId->Option (List Kd)}{dd:Nat}{xs ys:Array Value}: ∀(fs:List Field) (o n:Nat) (ks:List Kd),xn F P fs o n=some ks->xs.size=n->ys.size=n->kq ks (xs.toList.drop o)->kq ks (ys.toList.drop o)-> (∀f∈fs,∀js,F f.type=some js->(∃d,P.underlying f.type=some d/\(Np d=false->js.length=1))/\ ∀(x y:Value) (us vs:List Value),vO P f.type x us->vO P f.type y vs->kq js us->kq js vs->(ahf dd f.type x y).run P w= .ok (lW us vs) w)-> (Op.eqFields dd xs ys fs).run P w= .ok (lW (xs.toList.drop o) (ys.toList.drop o)) w:=by
 intro fs;induction fs with
 |nil=>
  intro o n ks hk hx hy _ _ _;simp only [xn] at hk;cases hb:No o n with
  |false=>simp [hb] at hk
  |true=>have hb:=sh hb;have h1:xs.toList.drop o=[]:=acW (by simp [hx,hb]);have h2:ys.toList.drop o=[]:=acW (by simp [hy,hb]);rw [h1,h2];simp [Op.eqFields,lW]
 |cons f fs ih=>
  intro o n ks hk hx hy fx fy hF;simp only [xn] at hk;cases hf:F f.type with
  |none=>simp [hf] at hk
  |some js=>
   simp only [hf] at hk
   cases hc:No f.offset o&&No js.length (P.cellsOf f.type)&&!(f.name== "_") with
   |false=>simp [hc] at hk
   |true=>
    simp only [hc,cond_true] at hk;simp only [fj,aav] at hc;obtain ⟨⟨h1,h2⟩,h3⟩:=hc;have h1:=sh h1;have h2:=sh h2
    have h3:f.name≠ "_" :=by intro he;rw [he] at h3;simp at h3
    cases hr:xn F P fs (o+js.length) n with
    |none=>simp [hr] at hk
    |some rs=>
     simp only [hr,AI] at hk;subst hk;obtain ⟨fx1,fx2⟩:=fx.split;obtain ⟨fy1,fy2⟩:=fy.split;rw [afs] at fx2 fy2;have lx:=fx.length;have ly:=fy.length;simp only [abY,aaH,aaQ] at lx ly;obtain ⟨⟨d,hu,o4⟩,ju⟩:=hF f (by simp) js hf;by_cases hz:o+js.length<=xs.size/\o+js.length<=ys.size
     ·obtain ⟨x,px,wx⟩:=B1 (w:=w) (xs:=xs) (off:=f.offset) hu h2.symm o4 (by rw [h1];exact hz.1);obtain ⟨y,py,wy⟩:=B1 (w:=w) (xs:=ys) (off:=f.offset) hu h2.symm o4 (by rw [h1];exact hz.2);rw [h1] at wx wy;have he:=ju x y _ _ wx wy fx1 fy1;have Dh:=ih (o+js.length) n rs hr hx hy fx2 fy2 (λg hg=>hF g (by simp [hg]));simp only [Op.eqFields,h3,ne_eq,not_false_eq_true,if_true,afL,px,py,he,adO];have DU:lW (xs.toList.drop o) (ys.toList.drop o)=(lW ((xs.toList.drop o).take js.length) ((ys.toList.drop o).take js.length)&&lW (xs.toList.drop (o+js.length)) (ys.toList.drop (o+js.length))):=by rw [<-afs,<-afs,<-wD (by rw [fx1.length,fy1.length]),abZ,abZ]
      rw [DU];cases lW ((xs.toList.drop o).take js.length) ((ys.toList.drop o).take js.length)
      ·simp
      ·simpa using Dh
     ·exfalso;have:=KI _ _ _ _ hr;omega
theorem acQ {e:TypeId}{dd:Nat}{xs ys:Array Value}{js:List Kd}(M5:js.length=P.cellsOf e)(hd: ∃d,P.underlying e=some d/\(Np d=false->js.length=1))(ju: ∀(x y:Value)(us vs:List Value),vO P e x us->vO P e y vs->kq js us->kq js vs->(ahf dd e x y).run P w= .ok (lW us vs) w): ∀(m i:Nat),xs.size=(i+m) *js.length->ys.size=(i+m) *js.length->kq (S9 m js) (xs.toList.drop (i *js.length))->kq (S9 m js) (ys.toList.drop (i *js.length))-> (Op.eqItems dd e (P.cellsOf e) xs ys (ai9 i m)).run P w= .ok (lW (xs.toList.drop (i *js.length)) (ys.toList.drop (i *js.length))) w:=by
 intro m;induction m with
 |zero=>intro i hx hy _ _;have h1:xs.toList.drop (i *js.length)=[]:=acW (by simp [hx]);have h2:ys.toList.drop (i *js.length)=[]:=acW (by simp [hy]);rw [h1,h2];simp [Op.eqItems,lW]
 |succ m ih=>
  intro i hx hy fx fy;simp only [S9] at fx fy;obtain ⟨fx1,fx2⟩:=fx.split;obtain ⟨fy1,fy2⟩:=fy.split;have hmul:i *js.length+js.length=(i+1) *js.length:=by rw [aiT]
  rw [afs,hmul] at fx2 fy2;obtain ⟨d,hu,o4⟩:=hd;have hle:(i+1) *js.length<=(i+(m+1)) *js.length:=acn _ (by omega);obtain ⟨x,px,wx⟩:=B1 (w:=w) (xs:=xs) (off:=i *js.length) hu M5.symm o4 (by omega);obtain ⟨y,py,wy⟩:=B1 (w:=w) (xs:=ys) (off:=i *js.length) hu M5.symm o4 (by omega);have he:=ju x y _ _ wx wy fx1 fy1;have Dh:=ih (i+1) (by rw [hx];congr 1;omega) (by rw [hy];congr 1;omega) fx2 fy2;rw [List.range'_succ];simp only [Op.eqItems,afL,<-M5,px,py,he,adO];have DU:lW (xs.toList.drop (i *js.length)) (ys.toList.drop (i *js.length))=(lW ((xs.toList.drop (i *js.length)).take js.length) ((ys.toList.drop (i *js.length)).take js.length)&&lW (xs.toList.drop ((i+1) *js.length)) (ys.toList.drop ((i+1) *js.length))):=by rw [<-hmul,<-afs,<-afs,<-wD (by rw [fx1.length,fy1.length]),abZ,abZ]
  rw [DU];cases lW ((xs.toList.drop (i *js.length)).take js.length) ((ys.toList.drop (i *js.length)).take js.length)
  ·simp
  ·rw [<-M5] at Dh;simpa using Dh
theorem OT: ∀(d:Nat) (t:TypeId) (ks:List Kd),oP P d t=some ks-> ∃k,P.underlying t=some k/\(Np k=false->ks.length=1):=by
 intro d t ks h;cases d with
 |zero=>simp [oP] at h
 |succ d=>
  simp only [oP] at h;cases hu:P.underlying t with
  |none=>simp [hu] at h
  |some k=>
   refine ⟨k,rfl,λha=> ?_⟩;cases k<;>simp only [hu] at h<;>first
    |(simp only [AI] at h;subst h;rfl)
    |(cases h;done)
    |(simp [Np] at ha;done)
theorem Ic: ∀(d:Nat) (t:TypeId) (ks:List Kd),oP P d t=some ks-> ∀(m:Nat) (x y:Value) (us vs:List Value),vO P t x us->vO P t y vs->kq ks us->kq ks vs-> (ahf (m+d) t x y).run P w= .ok (lW us vs) w:=by
 intro d;induction d with
 |zero=>intro t ks h;simp [oP] at h
 |succ d ih=>
  intro t ks h m x y us vs hx hy fx fy;simp only [oP] at h;have hmd:m+(d+1)=(m+d)+1:=rfl;rw [hmd];cases hu:P.underlying t with
  |none=>simp [hu] at h
  |some k=>
   cases k<;>simp only [hu] at h<;>try (cases h;done)
   case bool=>simp only [AI] at h;subst h;simp only [vO,hu] at hx hy;subst hx;subst hy;obtain ⟨v,r,h1,h2,h3⟩:=fx;obtain ⟨v',r',Jv,SD,h3'⟩:=fy;simp at h1 Jv;obtain ⟨rfl,_⟩:=h1;obtain ⟨rfl,_⟩:=Jv;cases x<;>simp [QT] at h2;cases y<;>simp [QT] at SD;rename_i a b;rw [run_equalIn_bool' w _ t a b hu];simp [lW,ceq];cases a<;>cases b<;>rfl
   case int k=>simp only [AI] at h;subst h;simp only [vO,hu] at hx hy;subst hx;subst hy;obtain ⟨v,r,h1,h2,h3⟩:=fx;obtain ⟨v',r',Jv,SD,h3'⟩:=fy;simp at h1 Jv;obtain ⟨rfl,_⟩:=h1;obtain ⟨rfl,_⟩:=Jv;cases x<;>simp [QT] at h2;cases y<;>simp [QT] at SD;subst h2;subst SD;rw [run_equalIn_int w _ t _ _ _ _ hu];simp only [lW,ceq,af4];congr 1
   case string=>simp only [AI] at h;subst h;simp only [vO,hu] at hx hy;subst hx;subst hy;obtain ⟨v,r,h1,h2,h3⟩:=fx;obtain ⟨v',r',Jv,SD,h3'⟩:=fy;simp at h1 Jv;obtain ⟨rfl,_⟩:=h1;obtain ⟨rfl,_⟩:=Jv;cases x<;>simp [QT] at h2;cases y<;>simp [QT] at SD;rw [run_equalIn_string w _ t _ _ hu];simp only [lW,ceq,af4,toList_data];congr 1;exact Bool.beq_eq_decide_eq _ _
   case array n e=>
    cases hke:oP P d e with
    |none=>simp [hke] at h
    |some js=>
     simp only [hke] at h;cases hc:No js.length (P.cellsOf e)&&(match P.info? e with|some _=>true|none=>false) with
     |false=>simp [hc] at h
     |true=>
      simp only [hc,cond_true,AI] at h;subst h;simp only [fj] at hc;have M5:=sh hc.1;obtain ⟨i,hi⟩: ∃i,P.info? e=some i:=by
       cases hi:P.info? e with
       |none=>rw [hi] at hc;simp at hc
       |some i=>exact ⟨i,rfl⟩
      simp only [vO,hu] at hx hy;subst hx;subst hy;rw [run_equalIn_array w (m+d) us.toArray vs.toArray hu hi,List.range_eq_range'];have l1:=fx.length;have l2:=fy.length;rw [Ta] at l1 l2;have:=acQ (w:=w) (xs:=us.toArray) (ys:=vs.toArray) (js:=js) (dd:=m+d) M5 (OT d e js hke) (λx y us vs a b c d'=>ih e js hke m x y us vs a b c d') n 0 (by simpa using l1) (by simpa using l2) (by simpa using fx) (by simpa using fy);simpa using this
   case struct fs=>
    cases jf:P.stoodInHeld t with
    |true=>simp [jf] at h
    |false=>
     simp only [jf,cond_false] at h;simp only [vO,hu] at hx hy;subst hx;subst hy;have hfs:P.fieldsOf t=fs:=by simp [Program.fieldsOf,hu]
     rw [run_equalIn_struct w (m+d) t us.toArray vs.toArray (by rw [hfs];exact hu) jf,hfs];have hl:=KI _ _ _ _ h;have:=ZE (w:=w) (dd:=m+d) (xs:=us.toArray) (ys:=vs.toArray) fs.toList 0 (P.cellsOf t) ks h (by simp [fx.length];omega) (by simp [fy.length];omega) (by simpa using fx) (by simpa using fy) (λf hf js hjs=>⟨OT d f.type js hjs,λx y us vs a b c d'=>ih f.type js hjs m x y us vs a b c d'⟩);simpa using this
end
theorem XW {l m:List Kd}(h:EG l m=true):l=m:=by
 induction l generalizing m with
 |nil=>cases m<;>simp [EG] at h;rfl
 |cons a l ih=>
  cases m with
  |nil=>simp [EG] at h
  |cons b m=>simp only [EG,fj] at h;rw [acJ h.1,ih h.2]
def We:List Kd->Bool
 |[]=>true
 | .l::_=>false
 | .raw::_=>false
 |_::r=>We r
def eqB (P:Program)(t:Nat)(I:TI):Bool:=!We I.lay||!zi I.dJ||((match oP P 20 t with|some ks=>EG ks (cks I.lay)|none=>false)&&!P.eqGuardType P.depth t&& (match P.underlying t with|some (.struct _)=>I.st|some (.array _ _)=>!I.st&&mN I.lay .h|some .bool=>!I.st&&mN I.lay .b|some (.int k)=>!I.st&&mN I.lay (.i k)|some .string=>!I.st&&mN I.lay .s|_=>false))
def aj4 (P:Program)(tab:List (Nat×TI)):Bool:=tab.all λp=>eqB P p.1 p.2
theorem ZF {lay:List Kd}: ∀{ls:List aT},gn lay ls=true->We lay=true:=by
 induction lay with
 |nil=>intro ls _;rfl
 |cons k lay ih=>
  intro ls h;cases ls with
  |nil=>simp [gn] at h
  |cons l ls=>
   simp only [gn] at h;cases h1:oZ k l with
   |false=>simp [h1] at h
   |true=>simp only [h1,cond_true] at h;have:=ih h;cases k<;>first|exact this|(cases l<;>simp [oZ] at h1)
theorem ZG {t:TypeId}{x y:Value}(h:(∃b,x= .bool b)\/ ∃cs,x= .agg cs)(op:BinOp): (op= .eql->binOp op t x y=(do pure (.bool (<-aii t x y))))/\(op= .neq->binOp op t x y=(do pure (.bool (!(<-aii t x y))))):=by rcases h with ⟨b,rfl⟩|⟨cs,rfl⟩<;>refine ⟨?_,?_⟩<;>rintro rfl<;>cases y<;>rfl
theorem ZH {P:Program}{tab:List (Nat×TI)}(h:aj4 P tab=true):Qs P (wC tab):=by
 intro t I hI hc e w vx vy sx sy b rx ry fx fy shx shy hb n1 n2;have hr:=aaN.1 h (t,I) (OQ hI);simp only [eqB,ZF fx,agX,Bool.false_or] at hr;rw [hc] at hr;simp only [zi,agX,Bool.false_or,fj,aav] at hr;obtain ⟨⟨hk,hg⟩,hd⟩:=hr;cases Vm:oP P 20 t with
 |none=>simp [Vm] at hk
 |some ks=>
  simp only [Vm] at hk;have hk:=XW hk;subst hk;have cells: ∀(v:Value) (s:Slot),ao e v s->gn I.lay (ba s)=true->nT I.st s=true->(∃us,vO P t v us/\aM e us (ba s))/\((∃b,v= .bool b)\/(∃cs,v= .agg cs)\/(∃k n,s= .sc (.p (.i k n)))\/ ∃l,s= .sc (.p (.s l))):=by
   intro v s hv hf hs;cases s<;>simp only [nT] at hs<;>try (cases hs;done)
   ·rename_i l;have jf:I.st=false:=by simpa using hs
    cases hu:P.underlying t with
    |none=>simp [hu] at hd
    |some d=>
     simp only [hu] at hd;cases d<;>simp only [jf,Bool.not_false,agY] at hd<;>try (cases hd;done)
     ·have hl:=fF hd;rw [hl] at hf;simp only [ba,gn] at hf;cases l<;>simp [oZ] at hf;rename_i m;cases m<;>simp [oZ] at hf;have:=AR hv;exact ⟨⟨[v],by simp [vO,hu],[v],[],rfl,hv,rfl⟩,.inl ⟨_,this⟩⟩
     ·have hl:=fF hd;rw [hl] at hf;simp only [ba,gn] at hf;cases l<;>simp [oZ] at hf;rename_i m;cases m<;>simp [oZ] at hf;exact ⟨⟨[v],by simp [vO,hu],[v],[],rfl,hv,rfl⟩,.inr (.inr (.inl ⟨_,_,rfl⟩))⟩
     ·have hl:=fF hd;rw [hl] at hf;simp only [ba,gn] at hf;cases l<;>simp [oZ] at hf;rename_i m;cases m<;>simp [oZ] at hf;exact ⟨⟨[v],by simp [vO,hu],[v],[],rfl,hv,rfl⟩,.inr (.inr (.inr ⟨_,rfl⟩))⟩
     ·have hl:=fF hd;rw [hl] at hf;simp only [ba,gn] at hf;cases l<;>simp [oZ] at hf;rename_i x;have hv:v= .agg (bV x).toArray:=hv;exact ⟨⟨bV x,by simp [vO,hu,hv],bV x,[],by simp,rfl,rfl⟩,.inr (.inl ⟨_,hv⟩)⟩
   ·rename_i cs;cases hu:P.underlying t with
    |none=>simp [hu] at hd
    |some d=>
     simp only [hu] at hd;cases d<;>simp only [hs,agX,Bool.false_and] at hd<;>try (cases hd;done)
     obtain ⟨arr,hv,tM⟩:=hv;exact ⟨⟨arr.toList,by simp [vO,hu,hv],tM⟩,.inr (.inl ⟨_,hv⟩)⟩
  obtain ⟨⟨us,wx,lx⟩,kx⟩:=cells vx sx rx fx shx;obtain ⟨⟨vs,wy,ly⟩,ky⟩:=cells vy sy ry fy shy;have ju:(aii t vx vy).run P w= .ok b w:=by have:=Ic (P:=P) (w:=w) 20 t _ Vm 9980 vx vy us vs wx wy (OS lx fx) (OS ly fy);rw [acP lx ly hb] at this;exact this
  refine ⟨ju,λx y op=> ?_⟩;have hxk:(∃b,vx= .bool b)\/ ∃cs,vx= .agg cs:=by
   rcases kx with h1|h1|⟨k,n,h1⟩|⟨l,h1⟩
   ·exact .inl h1
   ·exact .inr h1
   ·exfalso;subst h1;cases hu:P.underlying t with
    |none=>simp [hu] at hd
    |some d=>
     simp only [ba] at fx fy hb;cases acR:I.lay with
     |nil=>rw [acR] at fx;simp [gn] at fx
     |cons k0 r0=>
      rw [acR] at fx fy;simp only [gn] at fx;cases k0<;>simp [oZ] at fx;obtain ⟨hk0,hr0⟩:=fx;have hr0:r0=[]:=by cases r0<;>simp [gn] at hr0;rfl
      subst hr0;cases sy<;>simp only [nT] at shx shy<;>try (cases shy;done)
      ·rename_i l;simp only [ba,gn] at fy;cases l<;>simp [oZ] at fy;rename_i m;cases m<;>simp [oZ] at fy;exact n1 _ _ _ _ rfl rfl
      ·rw [shy] at shx;cases shx
   ·exfalso;subst h1;simp only [ba] at fx fy hb;cases acR:I.lay with
    |nil=>rw [acR] at fx;simp [gn] at fx
    |cons k0 r0=>
     rw [acR] at fx fy;simp only [gn] at fx;cases k0<;>simp [oZ] at fx;have hr0:r0=[]:=by cases r0<;>simp [gn] at fx;rfl
     subst hr0;cases sy<;>simp only [nT] at shx shy<;>try (cases shy;done)
     ·rename_i l;simp only [ba,gn] at fy;cases l<;>simp [oZ] at fy;rename_i m;cases m<;>simp [oZ] at fy;exact n2 _ _ rfl rfl
     ·rw [shy] at shx;cases shx
  refine ⟨?_,ZG hxk op⟩;have hg':P.eqGuardType P.depth t=false:=hg;rcases hxk with ⟨bb,rfl⟩|⟨cs,rfl⟩
  ·cases op<;>rfl
  ·cases vy<;>cases op<;>first|rfl|(simp [eqGuard,hg'])
end Dn
/-
  A program's types of maps, looked through. Conditions: none.
-/
namespace Dn
open Go
theorem QU {lay:List Kd}: ∀{ks:List MV},et lay ks=true->kq (cks lay) (ks.flatMap GQ):=by
 induction lay with
 |nil=>intro ks h;cases ks with|nil=>rfl|cons=>simp [et] at h
 |cons k lay ih=>
  intro ks h;cases ks with
  |nil=>simp [et] at h
  |cons m ks=>
   simp only [et,fj] at h;have h2:=ih h.2;have h1:=h.1;cases k<;>cases m<;>simp only [G3] at h1<;>try (cases h1;done)
   ·exact ⟨_,_,rfl,rfl,h2⟩
   ·exact ⟨_,_,rfl,h1,h2⟩
   ·exact ⟨_,_,rfl,rfl,h2⟩
   ·exact (KH _).append h2
theorem agD {lay:List Kd}: ∀{a b:List MV},et lay a=true->et lay b=true->lW (a.flatMap GQ) (b.flatMap GQ)=ft b a:=by
 induction lay with
 |nil=>intro a b ha hb;cases a<;>cases b<;>simp [et] at ha hb;rfl
 |cons k lay ih=>
  intro a b ha hb;cases a with
  |nil=>simp [et] at ha
  |cons x a=>
   cases b with
   |nil=>simp [et] at hb
   |cons y b=>
    simp only [et,fj] at ha hb;have ih:=ih ha.2 hb.2;have h1:=ha.1;have h2:=hb.1;cases k<;>cases x<;>simp only [G3] at h1<;>try (cases h1;done)
    all_goals cases y<;>simp only [G3] at h2<;>try (cases h2;done)
    ·rename_i p q;simp only [afM,GQ,aaZ,afF,lW,ceq,ft,GX,ih];congr 1;rw [decide_eq_decide];exact eq_comm
    ·rename_i k1 p k2 q;have e1:=of_decide_eq_true h1;have e2:=of_decide_eq_true h2;subst e1;subst e2;simp only [afM,GQ,aaZ,afF,lW,ceq,ft,GX,ih,decide_true,agY];congr 1;rw [decide_eq_decide];exact eq_comm
    ·rename_i p q;simp only [afM,GQ,aaZ,afF,lW,ceq,ft,GX,ih];congr 1;rw [decide_eq_decide];simp [eq_comm]
    ·rename_i p q;simp only [afM,GQ,ft,GX];rw [wD (by rw [dL,dL]),OR,ih];congr 1;rw [decide_eq_decide];exact eq_comm
def He:TypeDesc->Bool
 | .bool| .int _| .string=>true
 |_=>false
def aoC (P:Program)(n:Nat)(fs:List Field):Bool:=fs.all λf=>(match P.underlying f.type with|some d=>He d|none=>false)&&acO (f.offset+1) n
def aiH (P:Program)(kt:Nat)(I:TI):Bool:=match P.underlying kt with
 |some .bool=>!I.st&&mN I.lay .b
 |some (.int k)=>!I.st&&mN I.lay (.i k)
 |some .string=>!I.st&&mN I.lay .s
 |some (.struct fs)=>I.st&&(match oP P 20 kt with|some ks=>EG ks (cks I.lay)|none=>false)&&aoC P (cks I.lay).length fs.toList
 |_=>false
def aiI (b:Bool):Option Value->Bool
 |some (.bool false)=>b
 |some (.int .i64 n)=>!b&&decide (n=0)
 |_=>false
def aoD (P:Program)(ti:Nat->Option TI)(t kt:Nat)(b:Bool):Bool:=match P.underlying t with
 |some (.map kt' el)=>No kt' kt&&(match P.info? el with|some i=>aiI b i.zero|none=>false)&&(match ti kt with|some I=>zi I.dJ&&aiH P kt I|none=>false)
 |_=>false
def E8:List (Nat×(Nat×Bool))->Nat->Option (Nat×Bool)
 |[],_=>none
 |(k,s)::r,t=>bif No k t then some s else E8 r t
theorem ZI {l:List (Nat×(Nat×Bool))}{t:Nat}{I:Nat×Bool}(h:E8 l t=some I):(t,I)∈l:=by
 induction l with
 |nil=>simp [E8] at h
 |cons p l ih=>
  obtain ⟨k,s⟩:=p;simp only [E8,fc] at h;by_cases hk:k=t
  ·subst hk;simp at h;subst h;simp
  ·simp only [hk,decide_false,cond_false] at h;exact af5 _ (ih h)
def agE (P:Program)(ti:Nat->Option TI)(l:List (Nat×(Nat×Bool))):Bool:=l.all λp=>aoD P ti p.1 p.2.1 p.2.2
theorem B2 {k:Kd}{ks:List MV}(h:et [k] ks=true): ∃m,ks=[m]/\G3 k m=true:=by
 cases ks with
 |nil=>simp [et] at h
 |cons m r=>
  cases r with
  |cons=>simp [et] at h
  |nil=>exact ⟨m,rfl,by simpa [et] using h⟩
theorem lf {P:Program}{t:TypeId}{d:TypeDesc}(hu:P.underlying t=some d)(hd:He d=true)(em:Bool)(n:Nat)(v:Value)(w:World):(aho em (n+1) t v).run P w= .ok () w:=by rw [aho];simp only [afL,run_underlying hu,afN];cases d<;>simp [He] at hd<;>cases v<;>rfl
theorem KJ {P:Program}{t:TypeId}{d:TypeDesc}(hu:P.underlying t=some d)(hd:He d=true){xs:Array Value}{off:Nat}(h:off<xs.size)(w:World):(aiC t xs off).run P w= .ok xs[off] w:=by cases d<;>simp [He] at hd<;>simp [aiC,isAgg,run_underlying hu,h]
theorem KK {P:Program}{c:Ctx}{l:List (Nat×(Nat×Bool))}(h:agE P c.ti l=true)(hm: ∀t p,c.mt t=some p->E8 l t=some p):zf P c:=by
 intro t s hs;unfold xh at hs;cases Se:c.mt t with
 |none=>simp [Se] at hs
 |some p=>
  obtain ⟨kt,b⟩:=p;simp only [Se] at hs;cases hI:c.tv kt with
  |none=>simp [hI] at hs
  |some I=>
   simp only [hI] at hs;cases hit:EF ⟨I.st,I.lay,b⟩ with
   |true=>simp [hit] at hs
   |false=>
   simp only [hit,cond_false,AI] at hs;subst hs;obtain ⟨VJ,Vg⟩:=cz hI;have hb:=aaN.1 h _ (ZI (hm t _ Se));simp only [aoD] at hb;split at hb
   ·rename_i kt' el hu;simp only [fj] at hb;obtain ⟨⟨xS,xK⟩,hb3⟩:=hb;have xS:=sh xS;subst xS;split at xK
    ·rename_i inf avj;rw [VJ] at hb3;simp only [fj] at hb3;have hk:=hb3.2;have hz: ∀w:World,(zeroValue el).run P w= .ok (CJ b (j0 b)) w:=by
      intro w;have:inf.zero=some (CJ b (j0 b)):=by
       generalize inf.zero=z at xK;unfold aiI at xK;split at xK
       ·subst xK;rfl
       ·simp only [fj,aav] at xK;obtain ⟨h1,h2⟩:=xK;subst h1;rw [of_decide_eq_true h2];rfl
       ·cases xK
      simp [zeroValue,typeInfo,avj,this]
     unfold aiH at hk;refine ⟨kt',el,hu,hz,?_⟩;split at hk
     ·rename_i hd;simp only [fj,aav] at hk;have hl:=fF hk.2;refine ⟨λem ks w hf=>lf hd rfl em 9999 _ w,_,hd,.inl λa b' ha EO=> ?_⟩;rw [hl] at ha EO;obtain ⟨x,rfl,hx⟩:=B2 ha;obtain ⟨y,rfl,hy⟩:=B2 EO;cases x<;>simp [G3] at hx;cases y<;>simp [G3] at hy;rename_i p q;simp only [hk.1,gz,aie,ft,GX,af4];congr 1;rw [ahi];simp only [beq_iff_eq,decide_eq_true_eq];exact eq_comm
     ·rename_i k hd;simp only [fj,aav] at hk;have hl:=fF hk.2;refine ⟨λem ks w hf=>lf hd rfl em 9999 _ w,_,hd,.inl λa b' ha EO=> ?_⟩;rw [hl] at ha EO;obtain ⟨x,rfl,hx⟩:=B2 ha;obtain ⟨y,rfl,hy⟩:=B2 EO;cases x<;>simp [G3] at hx;cases y<;>simp [G3] at hy;subst hx;subst hy;rename_i p q;simp only [hk.1,gz,aie,ft,GX,af4,if_true,decide_true,agY];congr 1;rw [ahi];simp only [beq_iff_eq,decide_eq_true_eq];exact eq_comm
     ·rename_i hd;simp only [fj,aav] at hk;have hl:=fF hk.2;refine ⟨λem ks w hf=>lf hd rfl em 9999 _ w,_,hd,.inl λa b' ha EO=> ?_⟩;rw [hl] at ha EO;obtain ⟨x,rfl,hx⟩:=B2 ha;obtain ⟨y,rfl,hy⟩:=B2 EO;cases x<;>simp [G3] at hx;cases y<;>simp [G3] at hy;rename_i p q;simp only [hk.1,gz,aie,ft,GX,af4];congr 1;rw [beq_toListBytes,ah8,ah8,ahi];simp only [beq_iff_eq,decide_eq_true_eq,List.toList_toArray];exact eq_comm
     ·rename_i fs hd;simp only [fj] at hk;obtain ⟨⟨jf,hkk⟩,hfs⟩:=hk;split at hkk
      ·rename_i ks Vm;have hkk:=XW hkk;subst hkk;have hkv: ∀q,gz true q= .agg (q.flatMap GQ).toArray:=by intro q;rfl
       refine ⟨λem q w hf=> ?_,_,hd,.inr λx y hx hy=>⟨?_,λw=> ?_⟩⟩
       ·have hlen:(q.flatMap GQ).length=(cks I.lay).length:=(QU hf).length;rw [jf,hkv,show (10000:Nat)=9999+1 from rfl,aho];simp only [afL,run_underlying hd,adO];rw [<-Array.forIn_toList];have each: ∀f∈fs.toList,(∃d,P.underlying f.type=some d/\He d=true)/\f.offset<(q.flatMap GQ).toArray.size:=by
         intro f hf;have:=aaN.1 hfs f hf;simp only [fj] at this;obtain ⟨h1,h2⟩:=this;split at h1
         ·rename_i d hd;exact ⟨⟨d,hd,h1⟩,by have:=aay h2;simp only [aaX];omega⟩
         ·cases h1
        clear hfs;generalize fs.toList=L at each;generalize (q.flatMap GQ).toArray=xs at each;induction L with
        |nil=>simp
        |cons f L ih=>
         obtain ⟨⟨d,h1,h2⟩,h3⟩:=each f (by simp);have xS:=lf h1 h2 em 9998 xs[f.offset] w;have xK:=KJ (P:=P) h1 h2 h3 w
         by_cases hn:f.name= "_"
         ·simp only [List.forIn_cons,afL,hn,ne_eq,not_true_eq_false,if_false,adO,ai1];exact ih (λy hy=>each y (by simp [hy]))
         ·simp only [List.forIn_cons,afL,hn,ne_eq,not_false_eq_true,if_true,adO,xS,xK,ai1];exact ih (λy hy=>each y (by simp [hy]))
       ·rw [jf,hkv,hkv];rfl
       ·rw [jf,hkv,hkv];have:=Ic (P:=P) (w:=w) 20 kt' _ Vm 9980 (.agg (x.flatMap GQ).toArray) (.agg (y.flatMap GQ).toArray) (x.flatMap GQ) (y.flatMap GQ) (by simp [vO,hd]) (by simp [vO,hd]) (QU hx) (QU hy);rw [agD hx hy] at this;exact this
      ·cases hkk
     ·cases hk
    ·cases xK
   ·cases hb
end Dn
/-
  Functions that are handed a variable do what their abstract run says. Conditions: none.
-/
namespace Dn
open Go
section
variable {P:Program}{c:Ctx}{Z:b8} {e e':Env}{st cB:St} {a a':Act} {w w':World}{R:Type}{r:R}
theorem ZJ {rs:List ResultVar}(hT:lS P c.ti): ∀{e:Env} {st:St} {K:List MV->St->Option R},cF c Z e st a w->Y2 c st rs K=some r-> ∃e' cB ms vs,cF c Z e' cB a w/\Ext Z.In e e'/\(rs.mapM (lV a.tmps)).run P w= .ok vs w/\dw e'.key e'.φ vs ms/\K ms cB=some r:=by
 induction rs with
 |nil=>intro e st K h hK;exact ⟨e,st,[],[],h,.refl _ _,by simp,rfl,hK⟩
 |cons x rs ih=>
  intro e st K h hK;have go: ∀(s:Slot) (v:Value),ao e v s->(lV a.tmps x).run P w= .ok v w->(nS st s λm st=>Y2 c st rs λms st=>K (m::ms) st)=some r-> ∃e' cB ms vs,cF c Z e' cB a w/\Ext Z.In e e'/\((x::rs).mapM (lV a.tmps)).run P w= .ok vs w/\dw e'.key e'.φ vs ms/\K ms cB=some r:=by
   intro s v hs cV hK;obtain ⟨e1,dC,m,h1,h2,h3,h4,hK⟩:=pn h hs hK;obtain ⟨e2,eM,ms,vs,q1,q2,q3,q4,hK⟩:=ih h1 hK;refine ⟨e2,eM,m::ms,v::vs,q1,h2.trans q2,?_,⟨v,vs,rfl,?_,q4⟩,hK⟩
   ·simp [List.mapM_cons,cV,q3]
   ·have:=h4.mono q2.on.φ;rw [<-q2.on.key] at this;exact this
  simp only [Y2] at hK;cases x with
  |tmp t=>
   simp only at hK;have hs:=h.slot t;by_cases hb: ∃cs,aH st.fr t= .box cs
   ·obtain ⟨cs,hb⟩:=hb;rw [hb] at hK;simp [nS] at hK
   ·refine go (aH st.fr t) (a.tmps.getD t undef) ?_ rfl hK;generalize aH st.fr t=s at hs hb;cases s<;>first|exact hs|exact absurd ⟨_,rfl⟩ hb
  |cell b t=>
   simp only at hK;have hs:=h.slot b;split at hK
   ·rename_i I cs hI hb;obtain ⟨VJ,Vg⟩:=cz hI;rw [hb] at hs;obtain ⟨hv,ET⟩:=hs;cases DV:gY cs||AE b with
    |true=>simp [DV] at hK
    |false=>
    obtain ⟨xJ,hpb⟩:=aaV.1 DV;simp only [DV,cond_false] at hK;have hv:=hv.1 hpb;rw [xi xJ] at hv;obtain ⟨arr,T,fD,tM⟩:=ET.cells xJ;have hm:w.rangeAt (e.B b) 0 arr.toList:=by intro j v hj;rw [aij,cell_of fD];simpa using hj
    obtain ⟨v,s,h1,h2,h3,h4⟩:=kY (P:=P) (st:=st) (s:= .skip) (hT t I VJ) Vg tM hm hK;refine go s v h2 ?_ h4;simpa [lV,hv,asAddr,Instr.loadAt,Instr.sureAddr] using h1 w hm
   ·simp at hK
theorem KL {key:Nat->Nat} {φ:Ph}{v:Value}{m:MV}(h:jQ key φ v (.cell m)):False:=by have:=h.1;simp [MV.one] at this
theorem aoF (off pos:Nat):AE (1000000+off *1000+pos)=true:=adq (by omega)
theorem acS {f pos:Nat}{ks:List LK}{fn:Func}{dI:List (List Kd)}{ms:List MV}{m:MV}(hG:Good P c)(hD:KC P c)(hf:P.funcs[f]? =some fn)(E5:(fn.name== "runtime.NumGoroutine")=false)
 (hn:c.n=fn.ntmps) (hnp:fn.ntmps<=1000000) (ug:fn.params.size+dI.length<=fn.ntmps) (hg:c.iL (c.key f)=true) (QK:c.sig (c.key f)=some (pos,ks)) (hb:EH c dI pos ks fn ms=some m):mL P c f ms m:=by
 intro φ w Z vs hz kL pO;unfold EH at hb;cases uQ:fn.body with
 |none=>simp [uQ] at hb
 |some b=>
 simp only [uQ] at hb;split at hb;rotate_left
 ·simp at hb
 rename_i b' off ls EO DV;cases EO;cases xU:!j6 c ks||!acO pos 999 with
 |true=>simp [xU] at hb
 |false=>
 simp only [xU,cond_false] at hb;simp only [aaV,agI] at xU;obtain ⟨kK,jv⟩:=xU;have jv:=aay jv;simp only [jh,hg,if_true] at kL;have hC:ais c Z φ w (c.key f) vs ms:=by
  rcases kL with ⟨v0,v1,v2,xs,m1,ys,_,rfl,_,h4,_⟩|⟨v0,v1,v2,xs,m1,m2,_,rfl,_,_,h4,h5⟩|h
  ·exfalso;rcases pos with _|_|_|pos<;>simp at DV;subst DV;exact KL h4
  ·exfalso;rcases pos with _|_|_|pos<;>simp at DV
   ·subst DV;exact KL h4
   ·subst DV;exact KL h5
  ·exact h
 obtain ⟨pos',OJ,abi,Ad,bO,Dd,hvp,aj7,acT,C8⟩:=hC;rw [QK] at Dd;simp only [AI,aiF] at Dd;obtain ⟨rfl,rfl⟩:=Dd;rw [DV] at aj7;simp only [AI,MV.cell.injEq,MV.func.injEq] at aj7;obtain ⟨rfl,rfl⟩:=aj7;obtain ⟨cs,mm,E,arr,T,Kv,fD,hzb,wk,tM,mK,gy⟩:=C8;let e:Env:=⟨c.key,φ,E,λ_=>bO,mm⟩
 have cV:(callFunc f vs.toArray).run P w= .ok (.enter f vs.toArray) w:=by
  have Qt: ¬fn.name= "runtime.NumGoroutine" :=by simpa using E5
  simp [callFunc,hf,Qt,uQ]
 unfold lc;rw [cV];refine calls_of_wp hf uQ ?_;have acT:dw e.key e.φ vs (ms.set pos (.rp [])):=acT;obtain ⟨fr,rest,fO,pP,hb,rfl,l1,a2,k1,s1⟩:=Ia acT hb;obtain ⟨rq,hb,l2,k2,s2⟩:=ON a2 hb;simp only [AN] at hb;obtain ⟨j9,aoG,JQ,g1,hb⟩:=mM hb;cases aoG with
 |cons=>simp [gN] at hb
 |nil=>
 simp only [gN] at hb;have ju:cs=j9/\mm=JQ.bA:=by unfold ab0 at Kv;rw [g1] at Kv;simp only [gN,AI,aiF] at Kv;exact ⟨Kv.1.symm,Kv.2.symm⟩
 obtain ⟨rfl,hmm⟩:=ju;rw [<-hmm] at hb;have htn:(fO++pP).toArray.size=fn.params.size+dI.length:=by simp [l1,l2]
 let a:Act:={tmps:=(fO++pP).toArray++OF (fn.ntmps-(fO++pP).toArray.size) undef,defers:=[]}
 have Sc: ∀(t:Nat) (v:Value),(fO++pP)[t]? =some v->a.tmps.getD t undef=v:=by intro t v ht;have eE:t<(fO++pP).length:=(afD.1 ht).1;rw [abK];show (((fO++pP).toArray++OF _ undef)[t]?).getD undef=v;rw [Array.getElem?_append_left (by simpa using eE)];simp only [List.getElem?_toArray];rw [ht];rfl
 have KD: ∀t,eo (aH (fr++rq) t)=false/\(∀cs,aH (fr++rq) t≠ .box cs)/\ao e (a.tmps.getD t undef) (aH (fr++rq) t):=by
  intro t;rw [AO];by_cases h1:t∈bk fr
  ·simp only [h1,if_true];obtain ⟨g1,g2,v,g3,g4⟩:=s1 _ (E4 h1);refine ⟨g1,?_,?_⟩
   ·intro cs hc;simp only [hc,dD] at g2;cases g2
   ·rw [Sc t v ?_];exact g4;have eE:t<fO.length:=(afD.1 g3).1;rw [agO eE];exact g3
  ·simp only [h1,if_false];by_cases h2:t∈bk rq
   ·obtain ⟨g1,g2,v,g3,g4⟩:=s2 _ (E4 h2);refine ⟨g1,g2,?_⟩;rw [Sc t v ?_];exact g4;have hk:=h2;rw [k2,aiB] at hk;obtain ⟨i,hi,he⟩:=hk;have Db:fn.params.size=fO.length:=by rw [l1];simp
    rw [agM (by omega),<-Db];exact g3
   ·rw [uf _ _ h2];exact ⟨rfl,λcs hc=>(by cases hc),by simp [ao]⟩
 obtain ⟨q,hq⟩: ∃q,q=1000000+off *1000+pos:=⟨_,rfl⟩
 have V9:AE q=true:=by rw [hq];exact aoF off pos
 have hpo:posOf q=pos:=by rw [hq];unfold posOf;omega
 have hof:Sj q=off:=by rw [hq];unfold Sj;omega
 rw [<-hq] at hb;let Zc:b8:={b8.plain Z with dg:=[pos],T:=λ_=> .pointer (some ⟨bO,off,none⟩)}
 have aoH:a.tmps.getD pos undef= .pointer (some ⟨bO,off,none⟩):=Sc pos _ hvp;have hgt: ∀t,aH ((q,Slot.box cs)::(fr++rq)) t=if t=q then .box cs else aH (fr++rq) t:=by
  intro t;simp only [aH,fc];by_cases ZK:t=q
  ·subst ZK;simp
  ·have: ¬q=t:=λh=>ZK h.symm;simp [ZK,this]
 have aoI:bk (fr++rq)=ai9 0 (fn.params.toList.length+dI.length):=by
  have:bk (fr++rq)=bk fr++bk rq:=by simp [bk]
  rw [this,k1,k2];have:=List.range'_append_1 (s:=0) (m:=fn.params.toList.length) (n:=dI.length);simpa using this
 have aiJ: ∀t ds,aH ((q,Slot.box cs)::(fr++rq)) t= .box ds->t=q:=by
  intro t ds ht;rw [hgt] at ht;by_cases ZK:t=q
  ·exact ZK
  ·rw [if_neg ZK] at ht;exact absurd ht ((KD t).2.1 ds)
 have tP:cF c Zc e ⟨[pos],[],(q,.box cs)::(fr++rq),mm⟩ a w:=by
  refine ⟨⟨rfl,rfl,rfl,λt ht=> ?_⟩,?_,rfl,rfl,?_,?_,?_,λf o ho=> ?_,λt t' cs j9 h1 h2 eu=> ?_,λt ds f o h1 ho=> ?_,λf f' o o' k h1 h2 h3 h4=>gy f f' o o' k h1 h2 h3 h4,pO,hz⟩
  ·have:t=pos:=by simpa [Zc] using ht
   rw [this];exact aoH
  ·show ((fO++pP).toArray++OF (fn.ntmps-(fO++pP).toArray.size) undef).size=c.n;rw [aik,Array.size_replicate,htn,hn];omega
  ·show (bk ((q,Slot.box cs)::(fr++rq))).Nodup;show (q::bk (fr++rq)).Nodup;rw [aoI];refine ab9.2 ⟨λhm=> ?_,List.nodup_range'⟩;rw [aiB] at hm;obtain ⟨i,hi,he⟩:=hm;have:fn.params.toList.length=fn.params.size:=by simp
   omega
  ·intro t;show cW Zc e w t _ (aH ((q,Slot.box cs)::(fr++rq)) t);rw [hgt];by_cases ZK:t=q
   ·rw [if_pos ZK,ZK];exact ⟨⟨λhp=>(by rw [V9] at hp;cases hp),λ_=>⟨by rw [hpo];simp [Zc],by rw [hof]⟩⟩,⟨.inr hzb,⟨_,fD,rfl,tM⟩,wk⟩⟩
   ·rw [if_neg ZK];obtain ⟨g1,g2,g3⟩:=KD t;generalize aH (fr++rq) t=s at g1 g2 g3;cases s<;>first|exact g3|exact absurd rfl (g2 _)
  ·intro t;show dq _ (aH ((q,Slot.box cs)::(fr++rq)) t);rw [hgt];by_cases ZK:t=q
   ·rw [if_pos ZK];trivial
   ·rw [if_neg ZK];exact xV (KD t).1
  ·obtain ⟨I,cells,q1,q2,q3,q4,q5⟩:=(mK f o ho).1.row;exact ⟨I,cells,q1,q2,q3,q4,λb hb=>⟨.inr (q5 b hb).1,(q5 b hb).2.1,λhc=>by simp [Zc,b8.fz,b8.plain] at hc⟩⟩
  ·exact absurd ((aiJ t _ h1).trans (aiJ t' _ h2).symm) eu
  ·exact (mK f o ho).2
 refine wB hG hD b tP hb ?_;intro n e' cB a' w' h' t' hK;cases hle:acO n 1 with
 |false=>simp [hle] at hK
 |true=>
  simp only [hle,cond_true] at hK;obtain ⟨e2,eM,ns,us,q1,q2,q3,q4,hK⟩:=ZJ (P:=P) hG.ti h' hK;split at hK;rotate_left
  ·simp at hK
  rename_i iM EE;cases XC:gY iM with
  |true=>simp [XC] at hK
  |false=>
  simp only [XC,cond_false] at hK;obtain ⟨outs,ps,ht,hK⟩:=Kr hK;simp only [AI] at hK;have Aq:(results fn a'.tmps).run P w'= .ok (if h:us.toArray.size=1 then us.toArray[0] else .tuple us.toArray) w':=by
   have hm:(fn.results.mapM (lV a'.tmps)).run P w'= .ok us.toArray w':=by rw [Array.mapM_eq_mapM_toList];simp [q3]
   have XC:results fn a'.tmps=(do let vs<-fn.results.mapM (lV a'.tmps);pure (if h:vs.size=1 then vs[0] else .tuple vs)):=by unfold results;congr 1
   rw [XC];simp [hm]
  have aoJ:=q1.slot q;rw [EE] at aoJ;obtain ⟨_,hT⟩:=aoJ.1.2 V9;have hB:e2.B q=bO:=by have hT:Value.pointer (some ⟨bO,off,none⟩)= .pointer (some ⟨e2.B q,Sj q,none⟩):=hT;simp only [ajt,AI,Addr.mk.injEq] at hT;exact hT.1.symm
  have aoK:bU eM.dg q=false:=by
   rw [q1.defers.2.1];cases hh:bU Zc.dg q with
   |false=>rfl
   |true=>
    have:=(ck _ _).1 hh;have:q=pos:=by simpa [Zc] using this
    omega
  have hco:=(SU q1 EE XC kK ht).wide (QH q1 EE aoK ht);have OC:e2.key=c.key:=q1.key;have S3: ∃φ',Trans Z φ w φ' w'/\EV φ' w'/\wm c Z φ' w' (c.key f) (fO++pP) (if h:us.toArray.size=1 then us.toArray[0] else .tuple us.toArray) m:=by
   refine ⟨e2.φ,t'.trans q2.tr,q1.q9,?_⟩;rw [OC] at q4;subst hK;refine ⟨?_,pos,ks,bO,off,QK,hvp,by rw [<-hB];exact hco⟩;by_cases hns: ∃m',ns=[m']
   ·obtain ⟨m',rfl⟩:=hns;obtain ⟨v,u,rfl,g1,g2⟩:=q4;have g2:u=[]:=g2;subst g2;simp only [aaX,ahm,dite_true];cases m'<;>first|exact g1|exact absurd g1.1 (by simp [MV.one])
   ·have hm:anq ns= .cM ns:=by
     cases ns with
     |nil=>rfl
     |cons x l=>
      cases l with
      |nil=>exact absurd ⟨x,rfl⟩ hns
      |cons=>rfl
    have eu:us.toArray.size≠1:=by intro h1;have:=q4.length;rw [aaX] at h1;rw [h1] at this;obtain ⟨m1,h2⟩:=List.length_eq_one_iff.1 this.symm;exact hns ⟨m1,h2⟩
    rw [hm,dif_neg eu];exact ⟨us.toArray,rfl,by simpa using q4⟩
  match n,hle with
  |0,_=>exact ⟨h'.defers.1,_,Aq,_,rfl,S3⟩
  |1,_=>exact ⟨h'.defers.1,_,Aq,_,rfl,S3⟩
  |n+2,hle=>simp [acO] at hle
end
end Dn
/-
  Operations whose order is open. Conditions: none.
-/
namespace Dn
open Go
section
variable {P:Program}{c:Ctx}{ops:Array Oper}{N:Act->World->Prop}
def vP (N:Act->World->Prop):Exit->Act->World->Prop
 | .normal,a,w=>N a w
 |_,_,_=>False
def zj (c:Ctx)(oi:Oper)(ops:Array Oper)(i:Nat):Bool:=match ops[i]? with|some o=>abl c o||C4 oi o|none=>true
def Nq (P:Program)(c:Ctx)(ops:Array Oper)(N:Act->World->Prop) (φ:Ph):Nat->Array Bool->Act->World->Prop
 |0,listed,a,w=>AT .any ops listed=[]/\N a w
 |fuel+1,listed,a,w=>(AT .any ops listed=[]->N a w)/\ ∀i∈AT .any ops listed,wpOp P ops (vP N) i (λa' w'=>((∀oi,zj c oi ops i=true->gO c oi w w')/\EV φ w')/\Nq P c ops N φ fuel (listed.setIfInBounds i true) a' w') a w
theorem ZL {φ φ':Ph}(hp:tI φ φ'): ∀(fuel:Nat) (listed:Array Bool) (a:Act) (w:World),Nq P c ops N φ' fuel listed a w->Nq P c ops N φ fuel listed a w:=by
 intro fuel;induction fuel with
 |zero=>intro listed a w h;exact h
 |succ fuel ih=>intro listed a w h;exact ⟨h.1,λi hi=>wpOp_mono (λa w h=>⟨⟨h.1.1,λb o v hv=>h.1.2 b o v (hp b o v hv)⟩,ih _ _ _ h.2⟩) (h.2 i hi)⟩
theorem acU {φ:Ph}: ∀(fuel:Nat) (listed:Array Bool) (a:Act) (w:World),Nq P c ops N φ fuel listed a w->wpAny P .any ops (vP N) fuel listed a w:=by
 intro fuel;induction fuel with
 |zero=>intro listed a w h;exact h
 |succ fuel ih=>intro listed a w h;exact ⟨h.1,λi hi=>wpOp_mono (λa w h=>ih _ _ _ h.2) (h.2 i hi)⟩
theorem Wf {oi oj p:Oper} {w w':World}(h1:C4 oi p=true)(h2:C4 oj p=true)(h:gO c oi w w'):gO c oj w w':=by
 unfold C4 at h1 h2;split at h1
 ·rename_i t t' g1 g2;split at h2
  ·rename_i u u' g3 g4;rw [g2] at g4;cases g4;have e1:=sh h1;have e2:=sh h2;subst e1;subst e2;simpa [gO,Zs,g1,g3] using h
  ·cases h2
 ·cases h1
theorem aj8 {j:Nat}{oi oj:Oper}{v:Value}(hj:ops[j]? =some oj)(zd:oi.apart ops oj=true)(hsi: ∀cs b,oi.op≠ .select cs b)(hsj: ∀cs b,oj.op≠ .select cs b){K:Act->World->Prop}{a:Act}{w:World}(h:wpOp P ops (vP N) j K (a.put oi.dst v) w): wpOp P ops (vP N) j (λa' w'=>(execOp a'.eval oi=execOp a.eval oi/\aaK oi (yielded ops a'.tmps)=aaK oi (yielded ops a.tmps))/\K (a'.put oi.dst v) w') a w:=by
 obtain ⟨h1,h2,h3⟩:=ahj zd;have keep: ∀(a:Act) (u:Value),execOp (a.put oj.dst u).eval oi=execOp a.eval oi/\aaK oi (yielded ops (a.put oj.dst u).tmps)=aaK oi (yielded ops a.tmps):=λa u=>⟨execOp_put oi hsi a oj.dst u h3,wanted_put oi a oj.dst u h3⟩
 unfold wpOp at *;simp only [hj] at *;rw [wanted_put oj a oi.dst v h1] at h;split
 ·rename_i hw;simp only [hw,if_true] at h;rcases h with h|⟨aoL,acV⟩;case inr=>obtain ⟨_,_,hf⟩:=acV;exact hf.elim
  refine .inl ?_;unfold ahg at *;rw [execOp_put oj hsj a oi.dst v h1] at h;generalize (execOp a.eval oj).run P w=r at *;cases r with
  |ok n w'=>
   cases n<;>simp only [ahd] at h⊢;case value u=>exact ⟨keep a u,by rw [<-aaS a v u h2];exact h⟩
   case skip=>exact ⟨keep a _,by rw [<-aaS a v undef h2];exact h⟩
   case defer d=>refine ⟨keep _ _,?_⟩;rw [<-aaS _ v undef h2,<-Act.put_defers];exact h
   case enter f args=>
    refine Calls.mono h λx BT he=> ?_;cases x with
    |returned u=>exact ⟨keep a u,by rw [<-aaS a v u h2];exact he⟩
    |panicked c=>exact he
    |outgrown=>exact he
   case row row args=>exact Rows.mono h λu BT he=>⟨keep a u,by rw [<-aaS a v u h2];exact he⟩
  |halt x w'=>cases x<;>simp only [ahd] at h⊢;case panic u=>exact h
 ·rename_i hw;simp only [hw] at h;exact ⟨keep a _,by rw [<-aaS a v undef h2];exact h⟩
def XX (P:Program)(c:Ctx)(ops:Array Oper) (φ:Ph)(o:Oper)(v:Value)(a:Act)(w:World):Prop:=(aaK o (yielded ops a.tmps)=true/\ ∀w',(mI c o=true->(still c o=false->gO c o w w')/\EV φ w')->(execOp a.eval o).run P w'= .ok (.value v) w')\/ (aaK o (yielded ops a.tmps)=false/\v=undef)
theorem KM {φ:Ph}{i:Nat}{oi:Oper}{v:Value}{D:List Nat}(hD: ∀j oj,j∈D->j≠i->ops[j]? =some oj-> ∃e∈oj.after,afB .any e=true/\e.on∈D)(hi:ops[i]? =some oi)(Tb: ∀(j:Nat)(o:Oper) cs b,ops[j]? =some o->o.op≠ .select cs b): ∀(fuel:Nat) (listed:Array Bool) (a:Act) (w:World),(∀j oj,ops[j]? =some oj->j∉D->j≠i->listed.getD j true=false->oi.apart ops oj=true/\(mI c oi=true->still c oi=false->zj c oi ops j=true))->(∀d∈D,listed.getD d false=false)-> i∈AT .any ops listed->XX P c ops φ oi v a w->EV φ w-> Nq P c ops N φ fuel (listed.setIfInBounds i true) (a.put oi.dst v) w->Nq P c ops N φ (fuel+1) listed a w:=by
 have self: ∀(fuel:Nat) (listed:Array Bool) (a:Act) (w:World),XX P c ops φ oi v a w->EV φ w->Nq P c ops N φ fuel (listed.setIfInBounds i true) (a.put oi.dst v) w-> wpOp P ops (vP N) i (λa' w'=>((∀oi,zj c oi ops i=true->gO c oi w w')/\EV φ w')/\Nq P c ops N φ fuel (listed.setIfInBounds i true) a' w') a w:=by
  intro fuel listed a w hy hm H;unfold wpOp;simp only [hi];rcases hy with ⟨hw,hv⟩|⟨hw,rfl⟩
  ·simp only [hw,if_true,ahg,hv w (λ_=>⟨λ_=>(fa.refl w).for,hm⟩),ahd];exact .inl ⟨⟨λ_ _=>(fa.refl w).for,hm⟩,H⟩
  ·simp only [hw,aaO,if_false];exact ⟨⟨λ_ _=>(fa.refl w).for,hm⟩,H⟩
 intro fuel;induction fuel with
 |zero=>
  intro listed a w _ _ hr hy hm H;refine ⟨λh=>(by rw [h] at hr;cases hr),λj hj=> ?_⟩;by_cases hji:j=i
  ·subst hji;exact self 0 listed a w hy hm H
  ·have:=ready_mono hj hji;rw [H.1] at this;cases this
 |succ fuel ih=>
  intro listed a w wk acX hr hy hm H;refine ⟨λh=>(by rw [h] at hr;cases hr),λj hj=> ?_⟩;by_cases hji:j=i
  ·subst hji;exact self (fuel+1) listed a w hy hm H
  ·have h1:=H.2 j (ready_mono hj hji);obtain ⟨agF,oj,hoj,mz⟩:=mem_ready.1 hj;have hjD:j∉D:=by intro hjd;obtain ⟨e,he,hb,yR⟩:=hD j oj hjd hji hoj;have h1:=mz e he hb;rw [acX e.on yR] at h1;cases h1
   obtain ⟨zd,Vn⟩:=wk j oj hoj hjD hji agF;have h2:=aj8 hoj zd (λcs b=>Tb i oi cs b hi) (λcs b=>Tb j oj cs b hoj) h1;have aoM: ∀d∈D,(listed.setIfInBounds j true).getD d false=false:=by intro d hd;rw [getD_set_ne false (λhe=>hjD (by rw [he];exact hd))];exact acX d hd
   have aj9: ∀k ok,ops[k]? =some ok->k∉D->k≠i->(listed.setIfInBounds j true).getD k true=false->oi.apart ops ok=true/\(mI c oi=true->still c oi=false->zj c oi ops k=true):=λk ok hk hkD hki hun=>by
    refine wk k ok hk hkD hki ?_;by_cases hjk:j=k
    ·subst hjk;exact agF
    ·rw [getD_set_ne true hjk] at hun;exact hun
   refine wpOp_mono (λa' w' h3=>⟨h3.2.1,ih (listed.setIfInBounds j true) a' w' aj9 aoM (ready_mono hr (ahV hji)) ?_ h3.2.1.2 ?_⟩) h2
   ·obtain ⟨⟨he,hwn⟩,⟨hg,_⟩,_⟩:=h3;rcases hy with ⟨hw,hv⟩|⟨hw,rfl⟩
    ·refine .inl ⟨by rw [hwn];exact hw,λBT hg2=> ?_⟩;rw [he];exact hv BT (λhl=>⟨λhs=>(hg oi (Vn hl hs)).trans ((hg2 hl).1 hs),(hg2 hl).2⟩)
    ·exact .inr ⟨by rw [hwn];exact hw,rfl⟩
   ·rw [agZ _ _ hji];exact h3.2.2
variable {Z:b8}{R:Type}{K:St->Option R}{r:R}
theorem ZM (op:Op):Vz op=op.operands.toList:=by
 cases op<;>first|rfl|simp [Vz,Op.operands,Call.operands]
 all_goals first|rfl|(rename_i c;cases c.callee<;>simp)
theorem acY (l:List Operand):Su l=l.filterMap λ| .tmp t=>some t|_=>none:=by
 induction l with
 |nil=>rfl
 |cons x l ih=>cases x<;>simp [Su,ih]
theorem OU (o:Oper):Qm ops.toList o=o.looksAt ops:=by
 unfold Qm Oper.looksAt;rw [ZM,acY];congr 1;cases o.guard with
 |none=>rfl
 |some g=>obtain ⟨g,wnt⟩:=g;simp only [aaR];cases ops[g]? <;>rfl
theorem B3 {x y:Oper}(h:Qn ops.toList x y=true):x.apart ops y=true:=by
 unfold Qn at h;unfold Oper.apart;rw [OU,OU] at h;have hn: ∀(l:List Nat) (d:Nat),bU l d=l.contains d:=by intro l d;have:=ck l d;cases h1:bU l d<;>cases h2:l.contains d<;>simp_all
 cases hx:x.dst<;>cases hy:y.dst<;>simp_all [bne,fc]
theorem xY (e:Edge):DI e=afB .any e:=by unfold DI afB;cases e.ground<;>rfl
structure Lst (ops:Array Oper) (listed:Array Bool) (pre:List Nat):Prop where
 size:listed.size=ops.size
 mem: ∀i,i<ops.size->(listed.getD i true=true↔i∈pre)
theorem Lst.set {listed:Array Bool}{pre:List Nat}{x:Nat}(h:Lst ops listed pre)(hx:x<ops.size):Lst ops (listed.setIfInBounds x true) (x::pre):=by
 refine ⟨by simpa using h.size,λi hi=> ?_⟩;by_cases hix:x=i
 ·subst hix;have:x<listed.size:=by rw [h.size];exact hx
  simp [this]
 ·rw [getD_set_ne true hix,h.mem i hi];simp only [BY];exact ⟨.inr,λhh=>hh.resolve_left (λhe=>hix he.symm)⟩
theorem Lst.E9 {listed:Array Bool}{pre:List Nat}{i:Nat}(h:Lst ops listed pre)(hi:i<ops.size):listed.getD i true=false↔i∉pre:=by rw [<-h.mem i hi];cases listed.getD i true<;>simp
theorem Lst.done {listed:Array Bool}{pre:List Nat}{i:Nat}(h:Lst ops listed pre)(hi:i<ops.size):listed.getD i false=true↔i∈pre:=by
 rw [<-h.mem i hi];have hl:i<listed.size:=by rw [h.size];exact hi
 simp [hl]
theorem A2: ∀(rest pre:List Nat),xN c ops.toList pre rest=true-> ∀z∈rest,z∉pre:=by
 intro rest;induction rest with
 |nil=>intro pre _ z hz;cases hz
 |cons y rest ihr=>
  intro pre hd z hz;simp only [xN] at hd;cases hy:ops.toList[y]? with
  |none=>simp [hy] at hd
  |some oy=>
   simp only [hy,fj,aav] at hd;rcases BY.1 hz with rfl|hz
   ·rw [<-ck,hd.1.1.1.2];simp
   ·exact λhzp=>ihr (y::pre) hd.2 z hz (by simp [hzp])
theorem Nr {o:Oper}{x:Nat}: ∀(rest D0:List Nat),uJ c ops.toList o D0 rest=true->(∀y,y∈D0->y≠x-> ∃p,ops[y]? =some p/\ ∃e∈p.after,afB .any e=true/\e.on∈D0)-> ∃D:List Nat,(∀y∈D0,y∈D)/\(∀y∈D,y∈D0\/y∈rest)/\(∀j oj,j∈D->j≠x->ops[j]? =some oj-> ∃e∈oj.after,afB .any e=true/\e.on∈D)/\ (∀y∈rest,y∉D-> ∃p,ops[y]? =some p/\o.apart ops p=true/\(mI c o=true->still c o=false->(abl c p||C4 o p)=true)):=by
 intro rest;induction rest with
 |nil=>intro D0 _ h0;refine ⟨D0,λy hy=>hy,λy hy=> .inl hy,λj oj hj eu ho=> ?_,λy hy=>by cases hy⟩;obtain ⟨p,hp,he⟩:=h0 j hj eu;rw [ho] at hp;cases hp;exact he
 |cons y rest ih=>
  intro D0 h h0;simp only [uJ] at h;cases hy:ops.toList[y]? with
  |none=>simp [hy] at h
  |some p=>
   simp only [hy] at h;have hy':ops[y]? =some p:=by simpa using hy
   cases he:DJ p (bU D0) with
   |true=>
    simp only [he,cond_true] at h;obtain ⟨D,D1,D2,D3,D4⟩:=ih (y::D0) h (by
     intro z hz eu;rcases BY.1 hz with rfl|hz
     ·unfold DJ at he;obtain ⟨ed,hed,hb⟩:=afX.1 he;simp only [fj,xY] at hb;exact ⟨p,hy',ed,by simpa using hed,hb.1,by simp [(ck _ _).1 hb.2]⟩
     ·obtain ⟨q,hq,ed,h1,h2,h3⟩:=h0 z hz eu;exact ⟨q,hq,ed,h1,h2,by simp [h3]⟩)
    refine ⟨D,λz hz=>D1 z (by simp [hz]),λz hz=> ?_,D3,λz hz hzD=> ?_⟩
    ·rcases D2 z hz with h1|h1
     ·rcases BY.1 h1 with h1|h1
      ·exact .inr (by simp [h1])
      ·exact .inl h1
     ·exact .inr (by simp [h1])
    ·rcases BY.1 hz with rfl|hz
     ·exact absurd (D1 z (by simp)) hzD
     ·exact D4 z hz hzD
   |false=>
    simp only [he,cond_false,fj,ahk,aav] at h;obtain ⟨⟨h1,h2⟩,h3⟩:=h;obtain ⟨D,D1,D2,D3,D4⟩:=ih D0 h3 h0;refine ⟨D,D1,λz hz=>(D2 z hz).imp id (λh=>by simp [h]),D3,λz hz hzD=> ?_⟩;rcases BY.1 hz with rfl|hz
    ·refine ⟨p,hy',B3 h1,λhl hs=> ?_⟩;rcases h2 with ((h2|h2)|h2)|h2
     ·rw [hl] at h2;cases h2
     ·simp [h2]
     ·rw [hs] at h2;cases h2
     ·simp [h2]
    ·exact D4 z hz hzD
def b8.outs (Z:b8)(bs:List Nat):b8:={Z with In:=λb=>Z.In b/\b∉bs,Pr:=λb=>Z.Pr b/\b∉bs}
theorem cF.XY {Z Z':b8}{e:Env}{st:St}{a:Act}{w:World}(h:cF c Z e st a w)(hI: ∀b,Z.In b->Z'.In b)(hP: ∀b,Z.Pr b->Z'.Pr b)(h1:Z'.dg=Z.dg)(h2:Z'.dt=Z.dt)(h3:Z'.T=Z.T)(h4:Z'.cov=Z.cov):cF c Z' e st a w:=by
 refine ⟨by rw [h1,h2,h3];exact h.defers,h.size,h.m,h.key,h.nodup,λt=> ?_,h.root,λf o ho=> ?_,h.bb,h.bf,h.ff,h.q9,λb hb=>hI b (h.dp b hb)⟩
 ·have hs:=h.slot t;generalize aH st.fr t=s at hs;cases s<;>simp only [cW] at hs⊢ <;>first|exact hs|skip
  exact ⟨⟨hs.1.1,λhp=>by rw [h1,h3];exact hs.1.2 hp⟩,⟨by rcases hs.2.dp with ⟨x,y⟩|x;exact .inl ⟨by rw [h1];exact x,hP _ y⟩;exact .inr (hI _ x),hs.2.obj,hs.2.free⟩⟩
 ·obtain ⟨I,cells,g1,g2,g3,g4,g5⟩:=(h.jr f o ho).row;refine ⟨I,cells,g1,g2,g3,g4,λbO hb=> ?_⟩;obtain ⟨k1,k2,k3⟩:=g5 bO hb;refine ⟨?_,k2,λhc hz j hj=>k3 (by have hc:f∈Z'.dt:=hc;rw [h2] at hc;exact hc) hz j hj⟩;rcases k1 with ⟨x,y⟩|x
  ·exact .inl ⟨by rw [h2];exact x,hP _ y⟩
  ·exact .inr (hI _ x)
theorem cF.narrow {e:Env}{st:St}{a:Act} {w w':World}{bs:List Nat}(h:cF c (Z.outs bs) e st a w)(g:fa w w')(hs:w.heap.size<w'.heap.size):cF c (Z.outs (w.heap.size::bs)) e st a w':=by
 have h':=h.grow g;have Ap: ∀b,b<w.heap.size->(Z.outs bs).In b->(Z.outs (w.heap.size::bs)).In b:=λb hb hi=>⟨hi.1,by simp only [BY,not_or];exact ⟨by omega,hi.2⟩⟩
 have hpr: ∀b,b<w.heap.size->(Z.outs bs).Pr b->(Z.outs (w.heap.size::bs)).Pr b:=λb hb hi=>⟨hi.1,by simp only [BY,not_or];exact ⟨by omega,hi.2⟩⟩
 refine ⟨h'.defers,h'.size,h'.m,h'.key,h'.nodup,λt=> ?_,h'.root,λf o ho=> ?_,h'.bb,h'.bf,h'.ff,h'.q9,λb hb=> ?_⟩
 ·have hs:=h.slot t;have Dd:=h'.slot t;generalize aH st.fr t=s at hs Dd;cases s<;>simp only [cW] at hs Dd⊢ <;>first|exact Dd|skip
  obtain ⟨o2,k1,_⟩:=hs.2.obj;have hl:=bR k1;exact ⟨Dd.1,⟨by rcases Dd.2.dp with ⟨x,y⟩|x;exact .inl ⟨x,hpr _ hl y⟩;exact .inr (Ap _ hl x),Dd.2.obj,Dd.2.free⟩⟩
 ·obtain ⟨I,cells,g1,g2,g3,g4,g5⟩:=(h'.jr f o ho).row;refine ⟨I,cells,g1,g2,g3,g4,λbO hb=> ?_⟩;obtain ⟨k1,k2,k3⟩:=g5 bO hb;refine ⟨?_,k2,k3⟩;have hl:bO<w.heap.size:=by
   obtain ⟨I',Qv,l1,l2,l3,l4,l5⟩:=(h.jr f o ho).row;rcases l3.2 with ⟨hv,_⟩|⟨gg,cap,gV,hv,_,hg,_⟩
   ·rw [hv] at hb;simp [afA] at hb
   ·rw [hv] at hb;simp only [afA,AI] at hb;have:=bR hg;omega
  rcases k1 with ⟨x,y⟩|x
  ·exact .inl ⟨x,hpr _ hl y⟩
  ·exact .inr (Ap _ hl x)
 ·refine ⟨(h.dp b (by omega)).1,?_⟩;simp only [BY,not_or];exact ⟨by omega,(h.dp b (by omega)).2⟩
def vOf (b:Nat):Value:= .pointer (some ⟨b,0,none⟩)
def xZ (ops:Array Oper)(i:Nat):Option Nat:=match ops[i]? with
 |some o=>o.dst
 |none=>none
def xp (ops:Array Oper):List (Nat×Nat)->Act->Act
 |[],a=>a
 |p::r,a=>(xp ops r a).put (xZ ops p.1) (vOf p.2)
structure agJ (c:Ctx) (Z:b8) (ops:Array Oper) (e:Env) (w:World) (p:Nat×Nat):Prop where
 row: ∃o t I d arr T,ops[p.1]? =some o/\Sv o=true/\o.op= .alloc t/\c.tv t=some I/\o.dst=some d/\w.heap[p.2]? =some (.cells arr T (0,0))/\ ∀e':Env,aM e' arr.toList I.zero
 free: ∀off,e.φ p.2 off=none
 dp:Z.In p.2
theorem B4 {o:Oper}(h:Sv o=true): ∃t d,o.op= .alloc t/\o.dst=some d/\o.guard=none/\ ∀e∈o.after,afB .any e=false:=by
 unfold Sv at h;split at h
 ·rename_i t d h1 h2 h3;refine ⟨t,d,h1,h2,h3,λe he=> ?_⟩;have:=aaN.1 h e (by simpa using he);simpa [xY] using this
 ·cases h
theorem Wg {t:TypeId}{I:TI}(hI:c.tv t=some I)(hT:lS P c.ti): ∃i z,P.info? t=some i/\i.zero=some z/\ ∀e:Env,aM e z.cells.toList I.zero:=by
 obtain ⟨qe,hc⟩:=cz hI;obtain ⟨d,i,h1,h2,h3,h4⟩:=hT t I qe;suffices hz: ∃z,i.zero=some z/\ ∀e:Env,aM e z.cells.toList I.zero by obtain ⟨z,h5,h6⟩:=hz;exact ⟨i,z,h2,h5,h6⟩
 cases d<;>simp only [uL] at h4;case struct fs=>obtain ⟨_,_,_,_,_,_,cs,hz,hl,_⟩:=h4;exact ⟨_,hz,λe=>by simpa [aix] using mJ hl⟩
 case tuple ts=>exact absurd hc h4.2.1
 case slice el=>obtain ⟨_,_,_,_,_,hz,hl,_⟩:=h4;exact ⟨_,hz,λe=>by rw [hl];exact ⟨[.slice none 0 0],[],rfl,rfl,rfl⟩⟩
 case array n el=>obtain ⟨_,_,_,_,_,_,_,hl,hz⟩:=h4;exact ⟨_,hz,λe=>by rw [hl];exact ⟨bV lp.zero,[],by simp [aix],rfl,rfl⟩⟩
 case bool=>obtain ⟨_,_,_,_,hl,hz⟩:=h4;exact ⟨_,hz,λe=>by rw [hl];exact ⟨[.bool false],[],rfl,⟨rfl,.b _⟩,rfl⟩⟩
 case int k=>obtain ⟨_,_,_,_,hl,hz⟩:=h4;exact ⟨_,hz,λe=>by rw [hl];exact ⟨[.int k 0],[],rfl,⟨rfl,.i _ _⟩,rfl⟩⟩
 case string=>obtain ⟨_,_,_,_,hl,b,hz,hb⟩:=h4;refine ⟨_,hz,λe=>by rw [hl];refine ⟨[.string b],[],rfl,⟨rfl,?_⟩,rfl⟩;rw [<-hb];exact .s b⟩
 all_goals
  obtain ⟨_,_,_,_,v,hz,hv,hl⟩:=h4;refine ⟨v,hz,λe=> ?_⟩;have:v.cells.toList=[v]:=by cases v<;>simp_all [aix,Value.oneCell']
  rw [this];exact mJ hl
theorem Ie {o:Oper}(hs: ∀cs b,o.op≠ .select cs b)(a:Act): ∀(pd:List (Nat×Nat)),(∀p∈pd,∀d,xZ ops p.1=some d->d∉o.looksAt ops)-> execOp (xp ops pd a).eval o=execOp a.eval o/\aaK o (yielded ops (xp ops pd a).tmps)=aaK o (yielded ops a.tmps)
 |[],_=>⟨rfl,rfl⟩
 |p::r,h=>by obtain ⟨h1,h2⟩:=Ie hs a r (λq hq=>h q (by simp [hq]));have hp:=h p (by simp);exact ⟨(execOp_put o hs _ _ _ hp).trans h1,(wanted_put o _ _ _ hp).trans h2⟩
theorem Fa (a:Act)(y:Option Nat)(v:Value): ∀(pd:List (Nat×Nat)),(∀p∈pd,∀d,xZ ops p.1=some d->y≠some d)->(xp ops pd a).put y v=xp ops pd (a.put y v)
 |[],_=>rfl
 |p::r,h=>by simp only [xp];rw [aaS _ _ _ (λd hd=>h p (by simp) d hd),Fa a y v r (λq hq=>h q (by simp [hq]))]
theorem agK {j:Nat}{oj:Oper}{x:Option Nat}{v:Value}(hj:ops[j]? =some oj)(h1: ∀d,x=some d->d∉oj.looksAt ops)(h2: ∀d,x=some d->oj.dst≠some d)(hsj: ∀cs b,oj.op≠ .select cs b){K:Act->World->Prop}{a:Act}{w:World}(h:wpOp P ops (vP N) j K a w): wpOp P ops (vP N) j (λa' w'=> ∃a'',a'=a''.put x v/\K a'' w') (a.put x v) w:=by
 unfold wpOp at *;simp only [hj] at *;rw [wanted_put oj a x v h1];split
 ·rename_i hw;simp only [hw,if_true] at h;rcases h with h|⟨aoL,acV⟩;case inr=>obtain ⟨_,_,hf⟩:=acV;exact hf.elim
  refine .inl ?_;unfold ahg at *;rw [execOp_put oj hsj a x v h1];generalize (execOp a.eval oj).run P w=r at *;cases r with
  |ok n w'=>
   cases n<;>simp only [ahd] at h⊢;case value u=>exact ⟨_,aaS a v u h2,h⟩
   case skip=>exact ⟨_,aaS a v undef h2,h⟩
   case defer d=>refine ⟨{a.put oj.dst undef with defers:=d::(a.put oj.dst undef).defers},?_,by simpa [Act.put_defers] using h⟩;have:=aaS a v undef h2;cases x<;>cases hd:oj.dst<;>simp_all [Act.put]
   case enter f args=>
    refine Calls.mono h λy BT he=> ?_;cases y with
    |returned u=>exact ⟨_,aaS a v u h2,he⟩
    |panicked c=>exact he
    |outgrown=>exact he
   case row row args=>exact Rows.mono h λu BT he=>⟨_,aaS a v u h2,he⟩
  |halt y w'=>cases y<;>simp only [ahd] at h⊢;case panic u=>exact h
 ·rename_i hw;simp only [hw] at h;exact ⟨_,aaS a v undef h2,h⟩
theorem XZ {j:Nat}{oj:Oper}(hj:ops[j]? =some oj)(hsj: ∀cs b,oj.op≠ .select cs b){K:Act->World->Prop}{a:Act}{w:World}(h:wpOp P ops (vP N) j K a w): ∀(pd:List (Nat×Nat)),(∀p∈pd,∀d,xZ ops p.1=some d->d∉oj.looksAt ops/\oj.dst≠some d)->wpOp P ops (vP N) j (λa' w'=> ∃a'',a'=xp ops pd a''/\K a'' w') (xp ops pd a) w
 |[],_=>wpOp_mono (λa' w' hk=>⟨a',rfl,hk⟩) h
 |p::r,hp=>by have h1:=XZ hj hsj h r (λq hq=>hp q (by simp [hq]));have h2:=agK (v:=vOf p.2) hj (λd hd=>(hp p (by simp) d hd).1) (λd hd=>(hp p (by simp) d hd).2) hsj h1;refine wpOp_mono ?_ h2;rintro a' w' ⟨a1,rfl,a2,rfl,hk⟩;exact ⟨a2,rfl,hk⟩
theorem Hf: ∀{l m:List Nat},l.Nodup->(∀x∈l,x∈m)->l.length<=m.length
 |[],m,_,_=>afK _
 |x::l,m,hn,hs=>by have hn:=ab9.1 hn;have h1:l.length<=(m.erase x).length:=Hf hn.2 λy hy=>(List.mem_erase_of_ne (λhe=>hn.1 (by rw [<-he];exact hy))).2 (hs y (by simp [hy]));have h2:=List.length_erase_of_mem (hs x (by simp));have h3:0<m.length:=List.length_pos_of_mem (hs x (by simp));simp only [aaI];omega
theorem Tc {x b:Nat}{o:Oper}(hdo:xZ ops x=o.dst)(a:Act)(pr:List (Nat×Nat)): ∀(pl:List (Nat×Nat)),(∀p∈pl++pr,∀dd,xZ ops p.1=some dd->o.dst≠some dd)->xp ops (pl++(x,b)::pr) a=xp ops (pl++pr) (a.put o.dst (vOf b))
 |[],h=>by simp only [afF,xp,hdo];exact Fa a o.dst (vOf b) pr (λp hp=>h p (by simp [hp]))
 |q::pl,h=>by simp only [aaZ,xp];rw [Tc hdo a pr pl (λp hp=>h p (by simp only [aaZ,BY];exact .inr hp))]
theorem Lst.congr {listed:Array Bool} {l l':List Nat}(h:Lst ops listed l)(he: ∀i,i∈l↔i∈l'):Lst ops listed l':=⟨h.size,λi hi=>by rw [h.mem i hi,he]⟩
theorem Td {o:Oper}: ∀(rest D:List Nat),uJ c ops.toList o D rest=true-> ∀y∈rest,∀p,ops[y]? =some p->Sv p=true->o.apart ops p=true:=by
 intro rest;induction rest with
 |nil=>intro D _ y hy;cases hy
 |cons z rest ih=>
  intro D h y hy p hp EX;simp only [uJ] at h;cases hz:ops.toList[z]? with
  |none=>simp [hz] at h
  |some q=>
   simp only [hz] at h;cases he:DJ q (bU D) with
   |true=>
    simp only [he,cond_true] at h;rcases BY.1 hy with rfl|hy
    ·exfalso;have hz':ops[y]? =some q:=by simpa using hz
     rw [hz'] at hp;cases hp;obtain ⟨_,_,_,_,_,eu⟩:=B4 EX;unfold DJ at he;obtain ⟨ed,hed,hb⟩:=afX.1 he;simp only [fj,xY] at hb;rw [eu ed (by simpa using hed)] at hb;exact absurd hb.1 (by simp)
    ·exact ih _ h y hy p hp EX
   |false=>
    simp only [he,cond_false,fj] at h;rcases BY.1 hy with rfl|hy
    ·have hz':ops[y]? =some q:=by simpa using hz
     rw [hz'] at hp;cases hp;exact B3 h.1.1
    ·exact ih _ h.2 y hy p hp EX
theorem KN {o p:Oper}{y:Nat}(hp:ops[y]? =some p)(h:p.apart ops o=true\/o.apart ops p=true): ∀d,xZ ops y=some d->d∉o.looksAt ops/\o.dst≠some d:=by
 intro d hd;have hd:p.dst=some d:=by simpa [xZ,hp] using hd
 rcases h with h|h
 ·obtain ⟨h1,h2,h3⟩:=ahj h;exact ⟨h1 d hd,h2 d hd⟩
 ·obtain ⟨h1,h2,h3⟩:=ahj h;exact ⟨h3 d hd,λhe=>h2 d he hd⟩
theorem agJ.later {Z:b8}{bs:List Nat} {e e':Env} {w w':World}{p:Nat×Nat}(h:agJ c Z ops e w p)(hb:p.2∈bs)(t:Trans (Z.outs bs).In e.φ w e'.φ w'):agJ c Z ops e' w' p:=by obtain ⟨o,ty,I,d,arr,T,h1,h2,h3,h4,h5,h6,h7⟩:=h.row;have hn: ¬(Z.outs bs).In p.2:=λhh=>hh.2 hb;exact ⟨⟨o,ty,I,d,arr,T,h1,h2,h3,h4,h5,by rw [t.heap _ hn (bR h6)];exact h6,h7⟩,λoff=>by rw [t.free _ off hn];exact h.free off,h.dp⟩
theorem Trans.wide {Z Z':Nat->Prop} {φ φ':Ph} {w w':World}(t:Trans Z φ w φ' w')(h: ∀b,Z b->Z' b):Trans Z' φ w φ' w':=⟨t.ph,λb hb hl=>t.heap b (λhz=>hb (h b hz)) hl,λb o hb=>t.free b o (λhz=>hb (h b hz)),t.size,t.rest⟩
theorem agL (hG:Good P c)(Tb: ∀(j:Nat)(o:Oper) cs b,ops[j]? =some o->o.op≠ .select cs b) {φ0:Ph}{w0:World}(hN: ∀a' w',Out c Z K r φ0 w0 a' w'->N a' w'): ∀(m:Nat) (rest pre:List Nat) (pd:List (Nat×Nat)) (l:List Oper) (listed:Array Bool) (e:Env) (st:St) (a:Act) (w:World),2 *rest.length-pd.length<=m->cF c (Z.outs (pd.map (·.2))) e st a w->DH c ops.toList l st K=some r->Trans Z.In φ0 w0 e.φ w->rU ops.toList rest=some l-> xN c ops.toList pre rest=true->Lst ops listed (pd.map (·.1)++pre)->(∀i,i<ops.size->i∈pre\/i∈rest)->(∀i∈pre,i<ops.size)->(∀p∈pd,p.1∈rest)->(pd.map (·.1)).Nodup->(pd.map (·.2)).Nodup->(∀p∈pd,agJ c Z ops e w p)-> pd.length<=rest.length->Nq P c ops N e.φ (rest.length-pd.length) listed (xp ops pd a) w:=by
 intro m;induction m with
 |zero=>
  intro rest pre pd l listed e st a w hm h hK ht hp hd hL mz ac0 hpr Sb Qt hpe hle;cases rest with
  |cons x rest=>simp only [aaI] at hm hle;omega
  |nil=>
   cases pd with
   |cons p pd=>simp at hle
   |nil=>
    cases hp;have h':cF c Z e st a w:=h.XY (λb hb=>hb.1) (λb hb=>hb.1) rfl rfl rfl rfl;refine ⟨?_,hN a w ⟨e,st,h',ht,hK⟩⟩;cases hr:AT .any ops listed with
    |nil=>rfl
    |cons i is=>
     have hi:i∈AT .any ops listed:=by rw [hr];simp
     obtain ⟨h1,o,ho,_⟩:=mem_ready.1 hi;have eE:i<ops.size:=(aaY.1 ho).1;exact absurd (by simpa using (mz i eE).resolve_right (by simp)) ((hL.E9 eE).1 h1)
 |succ m ihm=>
  intro rest pre pd l listed e st a w hm h hK ht hp hd hL mz ac0 hpr Sb Qt hpe hle;cases rest with
  |nil=>
   cases pd with
   |cons p pd=>simp at hle
   |nil=>exact ihm [] pre [] l listed e st a w (by simp) h hK ht hp hd hL mz ac0 hpr Sb Qt hpe hle
  |cons x rest=>
   simp only [rU] at hp;cases hox:ops.toList[x]? with
   |none=>simp [hox] at hp
   |some o=>
    cases hpk:rU ops.toList rest with
    |none=>simp [hox,hpk] at hp
    |some l'=>
     simp only [hox,hpk,AI] at hp;subst hp;have hx:ops[x]? =some o:=by simpa using hox
     have akb:x<ops.size:=(aaY.1 hx).1;have hd0:=hd;simp only [xN,hox] at hd;simp only [fj,aav] at hd;obtain ⟨⟨⟨⟨d1,d2⟩,d3⟩,d4⟩,d5⟩:=hd;have aiL:x∉pre:=by rw [<-ck,d2];simp
     have avk:x∉rest:=by rw [<-ck,d3];simp
     have X0: ∀i,i<ops.size->i∈x::pre\/i∈rest:=by
      intro i hi;rcases mz i hi with h1|h1
      ·exact .inl (by simp [h1])
      ·rcases BY.1 h1 with h1|h1
       ·exact .inl (by simp [h1])
       ·exact .inr h1
     have aiM: ∀i∈x::pre,i<ops.size:=by
      intro i hi;rcases BY.1 hi with rfl|hi
      ·exact akb
      ·exact ac0 i hi
     have akc:=hK;simp only [DH] at hK;have ac1: ∀p∈pd,∃q,ops[p.1]? =some q/\Sv q=true:=λp hp=>by obtain ⟨q,_,_,_,_,_,h1,h2,_⟩:=(hpe p hp).row;exact ⟨q,h1,h2⟩
     unfold Xx at hK;obtain ⟨cB,go,h',hK,hw⟩:=SY h hK;have aiN: ∀cs b,o.op≠ .select cs b:=λcs b=>Tb x o cs b hx;by_cases hxp:x∈pd.map (·.1)
     ·
      obtain ⟨⟨x',b⟩,hpx,hxe⟩:=aaT.1 hxp;have hxe:x'=x:=hxe;subst hxe;obtain ⟨o',t,I,d,arr,T,k1,k2,k3,k4,k5,k6,k7⟩:=(hpe _ hpx).row;rw [hx] at k1;cases k1;obtain ⟨_,_,_,_,hgn,eu⟩:=B4 k2;have hgo:go=true:=by rw [<-hw];simp [aaK,hgn]
      subst hgo;have Sy:(rn o&&!nq c o)=false:=by simp [rn,k3]
      simp only [Sy,cond_false] at d4;obtain ⟨pl,pr,rfl⟩:=List.append_of_mem hpx;have hbn:b∉(pl++pr).map (·.2):=by have:((pl++(x',b)::pr).map (·.2)).Nodup:=Qt;simp only [adp,afE,aim,ab9,BY] at this;simp only [adp,aaU,not_or];exact ⟨λhm=>this.2.2 b hm b (by simp) rfl,this.2.1.1⟩
      have hxn:x'∉(pl++pr).map (·.1):=by have:((pl++(x',b)::pr).map (·.1)).Nodup:=Sb;simp only [adp,afE,aim,ab9,BY] at this;simp only [adp,aaU,not_or];exact ⟨λhm=>this.2.2 x' hm x' (by simp) rfl,this.2.1.1⟩
      have Te: ∀p∈pl++pr,p∈pl++(x',b)::pr:=λp hp=>by
       simp only [aaU,BY] at hp⊢;rcases hp with hp|hp
       ·exact .inl hp
       ·exact .inr (.inr hp)
      have tP:cF c (Z.outs ((pl++pr).map (·.2))) e cB a w:=by
       refine h'.XY (λu hu=>⟨hu.1,λhm=>hu.2 ?_⟩) (λu hu=>⟨hu.1,λhm=>hu.2 ?_⟩) rfl rfl rfl rfl<;>
       ·obtain ⟨p,hp,rfl⟩:=aaT.1 hm;exact aaT.2 ⟨p,Te p hp,rfl⟩
      have agN:b∈(pl++(x',b)::pr).map (·.2):=by simp
      have xO:rr (Z.outs ((pl++pr).map (·.2))) e w cB (vOf b) (.box I.zero):=by
       refine ⟨b,by rw [xi (k7 e).AU];rfl,⟨⟨(hpe _ hpx).dp,hbn⟩,⟨_,k6,rfl,k7 e⟩,(hpe _ hpx).free⟩,λt' j9 EM C7=> ?_,λf o' Nc C7=> ?_⟩
       ·have hs:=h'.slot t';rw [EM] at hs;rcases hs.2.dp with ⟨_,u⟩|u
        ·exact u.2 (by rw [C7];exact agN)
        ·exact u.2 (by rw [C7];exact agN)
       ·obtain ⟨I',cells,g1,g2,g3,g4,g5⟩:=(h'.jr f o' Nc).row;rcases (g5 b C7).1 with ⟨_,u⟩|u
        ·exact u.2 agN
        ·exact u.2 agN
      simp only [cond_true,opK,k3,k4] at hK;obtain ⟨e2,eM,j1,j2,j3⟩:=ec tP xO hK;have akd:xp ops (pl++(x',b)::pr) a=xp ops (pl++pr) (a.put o.dst (vOf b)):=by
       have zd: ∀p∈pl++pr,∀dd,xZ ops p.1=some dd->o.dst≠some dd:=by
        intro p hp dd hdd;obtain ⟨q,hq,EX⟩:=ac1 p (Te p hp);have Wh:p.1∈rest:=by
         rcases BY.1 (hpr p (Te p hp)) with he|he
         ·exact absurd (aaT.2 ⟨p,hp,he⟩) hxn
         ·exact he
        have:=aaN.1 d4 p.1 Wh;have hq':ops.toList[p.1]? =some q:=by simpa using hq
        simp only [hq',EX,cond_true,fj] at this;exact (KN hq (.inl (B3 this.1)) dd hdd).2
       exact Tc (by simp [xZ,hx]) a pr pl zd
      rw [akd,<-j3];have hlen:(x'::rest).length-(pl++(x',b)::pr).length=rest.length-(pl++pr).length:=by simp only [aaI,aaH];omega
      rw [hlen];refine ihm rest (x'::pre) (pl++pr) l' listed e2 eM _ w ?_ j1 j2 (by rw [j3];exact ht) hpk d5 ?_ X0 aiM ?_ ?_ ?_ ?_ ?_
      ·simp only [aaI,aaH] at hm⊢;omega
      ·refine hL.congr (λi=> ?_);simp only [adp,afE,aaU,BY];constructor
       ·rintro ((h1|h1|h1)|h1)
        ·exact .inl (.inl h1)
        ·exact .inr (.inl h1)
        ·exact .inl (.inr h1)
        ·exact .inr (.inr h1)
       ·rintro ((h1|h1)|h1|h1)
        ·exact .inl (.inl h1)
        ·exact .inl (.inr (.inr h1))
        ·exact .inl (.inr (.inl h1))
        ·exact .inr h1
      ·intro p hp;rcases BY.1 (hpr p (Te p hp)) with he|he
       ·exact absurd (aaT.2 ⟨p,hp,he⟩) hxn
       ·exact he
      ·have:((pl++(x',b)::pr).map (·.1)).Nodup:=Sb;refine List.Nodup.sublist ?_ this;exact List.Sublist.map _ (ag0 (ahh _ _) pl)
      ·have:((pl++(x',b)::pr).map (·.2)).Nodup:=Qt;refine List.Nodup.sublist ?_ this;exact List.Sublist.map _ (ag0 (ahh _ _) pl)
      ·intro p hp;obtain ⟨q1,q2,q3⟩:=hpe p (Te p hp);exact ⟨q1,λoff=>by rw [j3];exact q2 off,q3⟩
      ·simp only [aaI,aaH] at hle⊢;omega
     ·have Wh: ∀p∈pd,p.1∈rest:=λp hp=>by
       rcases BY.1 (hpr p hp) with he|he
       ·exact absurd (aaT.2 ⟨p,hp,he⟩) hxp
       ·exact he
      have hlr:pd.length<=rest.length:=by have h1:(pd.map (·.1)).length<=rest.length:=Hf Sb (λi hi=>by obtain ⟨p,hp,rfl⟩:=aaT.1 hi;exact Wh p hp);simpa using h1
      have aoO:(x::rest).length-pd.length=(rest.length-pd.length)+1:=by simp only [aaI];omega
      rw [aoO];have hun:x∉pd.map (·.1)++pre:=by simp only [aaU,not_or];exact ⟨hxp,aiL⟩
      have QV:x∈AT .any ops listed:=by refine mem_ready.2 ⟨(hL.E9 akb).2 hun,o,hx,λed hed hb=> ?_⟩;have:=aaN.1 d1 ed (by simpa using hed);simp only [xY,hb,agX,Bool.false_or] at this;have hm:=(ck _ _).1 this;exact (hL.done (ac0 _ hm)).2 (by simp [hm])
      have next: ∀(e':Env) (eM:St) (a':Act) (w':World),cF c (Z.outs (pd.map (·.2))) e' eM a' w'->Trans (Z.outs (pd.map (·.2))).In e.φ w e'.φ w'->DH c ops.toList l' eM K=some r->Nq P c ops N e.φ (rest.length-pd.length) (listed.setIfInBounds x true) (xp ops pd a') w':=by
       intro e' eM a' w' h1 t1 ol;refine ZL t1.ph _ _ _ _ ?_;refine ihm rest (x::pre) pd l' _ e' eM a' w' ?_ h1 ol (ht.trans (t1.wide λb hb=>hb.1)) hpk d5 ((hL.set akb).congr λi=> ?_) X0 aiM Wh Sb Qt (λp hp=>(hpe p hp).later (aaT.2 ⟨p,hp,rfl⟩) t1) hlr
       ·simp only [aaI] at hm;omega
       ·simp only [BY,aaU];constructor
        ·rintro (h1|h1|h1)
         ·exact .inr (.inl h1)
         ·exact .inl h1
         ·exact .inr (.inr h1)
        ·rintro (h1|h1|h1)
         ·exact .inr (.inl h1)
         ·exact .inl h1
         ·exact .inr (.inr h1)
      cases Sy:rn o&&!nq c o with
      |true=>
       simp only [Sy,cond_true] at d4;have zd: ∀p∈pd,∀dd,xZ ops p.1=some dd->dd∉o.looksAt ops/\o.dst≠some dd:=by intro p hp;obtain ⟨q,hq,EX⟩:=ac1 p hp;exact KN hq (.inr (Td rest [x] d4 p.1 (Wh p hp) q hq EX))
       obtain ⟨hex,hwn⟩:=Ie aiN a pd (λp hp d hd=>(zd p hp d hd).1);obtain ⟨D,D1,D2,D3,D4⟩:=Nr rest [x] d4 (λy hy eu=>absurd (by simpa using hy) eu);have wk: ∀j oj,ops[j]? =some oj->j∉D->j≠x->listed.getD j true=false->o.apart ops oj=true/\(mI c o=true->still c o=false->zj c o ops j=true):=by
        intro j oj hoj hjD hjx agF;have aoP:j<ops.size:=(aaY.1 hoj).1;have hjr:j∈rest:=by
         rcases X0 j aoP with h1|h1
         ·rcases BY.1 h1 with h1|h1
          ·exact absurd h1 hjx
          ·exact absurd (by simp [h1]) ((hL.E9 aoP).1 agF)
         ·exact h1
        obtain ⟨p,hp1,Vk,hp3⟩:=D4 j hjr hjD;rw [hoj] at hp1;cases hp1;exact ⟨Vk,λhl hs=>by simp [zj,hoj,hp3 hl hs]⟩
       have acX: ∀d∈D,listed.getD d false=false:=by
        have avm: ∀p∈pd,p.1∉D:=by intro p hp hpD;obtain ⟨q,hq,EX⟩:=ac1 p hp;obtain ⟨ed,hed,hb,_⟩:=D3 p.1 q hpD (λhe=>hxp (aaT.2 ⟨p,hp,he⟩)) hq;obtain ⟨_,_,_,_,_,eu⟩:=B4 EX;rw [eu ed hed] at hb;cases hb
        intro d hd;have hdn:d∉pd.map (·.1)++pre:=by
         simp only [aaU,not_or];constructor
         ·intro hm;obtain ⟨p,hp,rfl⟩:=aaT.1 hm;exact avm p hp hd
         ·rcases D2 d hd with h1|h1
          ·have h1:d=x:=by simpa using h1
           rw [h1];exact aiL
          ·exact λhp=>A2 rest (x::pre) d5 d h1 (by simp [hp])
        by_cases hdl:d<ops.size
        ·cases hg:listed.getD d false with
         |false=>rfl
         |true=>exact absurd ((hL.done hdl).1 hg) hdn
        ·have hl: ¬d<listed.size:=by rw [hL.size];exact hdl
         simp [hl]
       cases go with
       |true=>simp only [cond_true] at hK;obtain ⟨v,hv,e2,eM,k1,k2,k3⟩:=(V8 (Q:=vP N) hG h' hK).auY (by simp only [fj] at Sy;exact Sy.1) (by simp only [fj,aav] at Sy;exact Sy.2);refine KM D3 hx Tb (rest.length-pd.length) listed _ w wk acX QV (.inl ⟨by rw [hwn];exact hw,λw' hg=>by rw [hex];exact hv w' hg⟩) h.q9 ?_;rw [Fa a o.dst v pd (λp hp d hd=>(zd p hp d hd).2)];exact next e2 eM _ w k1 k2 k3
       |false=>simp only [cond_false] at hK;obtain ⟨e2,eM,k1,k2,k3⟩:=ec (v:=undef) (s:= .skip) h' ⟨rfl,trivial⟩ hK;refine KM D3 hx Tb (rest.length-pd.length) listed _ w wk acX QV (.inr ⟨by rw [hwn];exact hw,rfl⟩) h.q9 ?_;rw [Fa a o.dst undef pd (λp hp d hd=>(zd p hp d hd).2)];exact next e2 eM _ w k1 (by rw [k3];exact .refl _ _ _) k2
      |false=>
       simp only [Sy,cond_false] at d4;have zd: ∀p∈pd,∀dd,xZ ops p.1=some dd->dd∉o.looksAt ops/\o.dst≠some dd:=by
        intro p hp;obtain ⟨q,hq,EX⟩:=ac1 p hp;have:=aaN.1 d4 p.1 (Wh p hp);have hq':ops.toList[p.1]? =some q:=by simpa using hq
        simp only [hq',EX,cond_true,fj] at this;exact KN hq (.inl (B3 this.1))
       refine ⟨λhr0=>(by rw [hr0] at QV;cases QV),λi hi=> ?_⟩;obtain ⟨avn,oi,hoi,akf⟩:=mem_ready.1 hi;have akg:i<ops.size:=(aaY.1 hoi).1;have Ap:=(hL.E9 akg).1 avn;simp only [aaU,not_or] at Ap;by_cases hix:i=x
       ·subst hix;rw [hx] at hoi;cases hoi;have tP:wpOp P ops (vP N) i (λa' w'=>(∀oi,zj c oi ops i=true->gO c oi w w')/\ ∃e2 eM,cF c (Z.outs (pd.map (·.2))) e2 eM a' w'/\Trans (Z.outs (pd.map (·.2))).In e.φ w e2.φ w'/\DH c ops.toList l' eM K=some r) a w:=by
         unfold wpOp;simp only [hx];rw [hw];cases go with
         |true=>
          simp only [cond_true] at hK;simp only [if_true];left;have hd:=V8 (Q:=vP N) hG h' hK;cases Vn:abl c o with
          |true=>simp only [abl,ahk] at Vn;refine ain ?_ (hd.auZ Vn);rintro a' w' ⟨hg,e2,eM,k1,k2,k3⟩;exact ⟨λ_ _=>hg.for,e2,eM,k1,k2,k3⟩
          |false=>
           by_cases Zo: ∃oi,C4 oi o=true
           ·obtain ⟨oi0,Zo⟩:=Zo;refine ain ?_ (aoj (Q:=vP N) hG h' hK Zo);rintro a' w' ⟨hg,e2,eM,k1,k2,k3⟩;refine ⟨λoi hh=> ?_,e2,eM,k1,k2,k3⟩;have hoi:C4 oi o=true:=by simpa [zj,hx,Vn] using hh
            exact Wf Zo hoi hg
           ·refine ain ?_ hd.wp;rintro a' w' ⟨e2,eM,k1,k2,k3⟩;exact ⟨λoi hh=>absurd ⟨oi,by simpa [zj,hx,Vn] using hh⟩ Zo,e2,eM,k1,k2,k3⟩
         |false=>simp only [cond_false] at hK;simp only [aaO,if_false];obtain ⟨e2,eM,k1,k2,k3⟩:=ec (v:=undef) (s:= .skip) h' ⟨rfl,trivial⟩ hK;exact ⟨λ_ _=>(fa.refl w).for,e2,eM,k1,by rw [k3];exact .refl _ _ _,k2⟩
        refine wpOp_mono ?_ (XZ hx aiN tP pd zd);rintro a' w' ⟨a2,rfl,hg,e2,eM,k1,k2,k3⟩;exact ⟨⟨hg,λb o v hv=>k1.q9 b o v (k2.ph b o v hv)⟩,next e2 eM a2 w' k1 k2 k3⟩
       ·have hir:i∈rest:=by
         rcases X0 i akg with h1|h1
         ·rcases BY.1 h1 with h1|h1
          ·exact absurd h1 hix
          ·exact absurd h1 Ap.2
         ·exact h1
        have Wi:=aaN.1 d4 i hir;have avp:ops.toList[i]? =some oi:=by simpa using hoi
        simp only [avp] at Wi;cases EX:Sv oi with
        |false=>
         exfalso;simp only [EX,cond_false] at Wi;unfold DJ at Wi;obtain ⟨ed,hed,hb⟩:=afX.1 Wi;simp only [fj,xY,ahk,aav] at hb;obtain ⟨xS,xK⟩:=hb;have Tf:=akf ed (by simpa using hed) xS;have Jw:ed.on∉pd.map (·.1)++pre:=by
          rcases xK with xK|⟨xK,hb3⟩
          ·rw [sh xK];exact hun
          ·simp only [aaU,not_or];refine ⟨λhm=> ?_,λhp=>A2 rest (x::pre) d5 _ ((ck _ _).1 xK) (by simp [hp])⟩;obtain ⟨p,hp,he⟩:=aaT.1 hm;obtain ⟨q,hq,hqa⟩:=ac1 p hp;have hq':ops.toList[ed.on]? =some q:=by rw [<-he];simpa using hq
           simp [ann,hq',hqa] at hb3
         by_cases yR:ed.on<ops.size
         ·exact Jw ((hL.done yR).1 Tf)
         ·have:listed.getD ed.on false=false:=by
           have hl: ¬ed.on<listed.size:=by rw [hL.size];exact yR
           simp [hl]
          rw [this] at Tf;cases Tf
        |true=>
         obtain ⟨t,d,q1,q2,q3,q4⟩:=B4 EX;have hI: ∃I,c.tv t=some I:=by
          simp only [EX,cond_true,fj,anm,q1] at Wi;cases htv:c.tv t with
          |none=>rw [htv] at Wi;exact absurd Wi.2 (by simp)
          |some I=>exact ⟨I,rfl⟩
         obtain ⟨I,hI⟩:=hI;obtain ⟨inf,z,hz1,hz2,hz3⟩:=Wg hI hG.ti;have hg:fa w (w.alloc (.cells z.cells t)):= .alloc w _ _;unfold wpOp;simp only [hoi];have hwn:aaK oi (yielded ops (xp ops pd a).tmps)=true:=by simp [aaK,q3]
         simp only [hwn,if_true];left;have cV:(execOp (xp ops pd a).eval oi).run P w= .ok (.value (vOf w.heap.size)) (w.alloc (.cells z.cells t)):=by simp [execOp,q1,Instr.alloc,zeroValue,typeInfo,hz1,hz2,newVar,newRow,newObj,Sem.run,vOf]
         unfold ahg;rw [cV];simp only [ahd];refine ⟨⟨λ_ _=>hg.for,(h.grow hg).q9⟩,?_⟩;have ug:w.heap.size<(w.alloc (.cells z.cells t)).heap.size:=by simp
         have avq: ∀p∈pd,p.2<w.heap.size:=λp hp=>by obtain ⟨_,_,_,_,_,_,_,_,_,_,_,k6,_⟩:=(hpe p hp).row;exact bR k6
         have akd:(xp ops pd a).put oi.dst (vOf w.heap.size)=xp ops ((i,w.heap.size)::pd) a:=by simp [xp,xZ,hoi]
         rw [akd];have eE:pd.length<rest.length:=by
          have h1:(i::pd.map (·.1)).length<=rest.length:=by
           refine Hf (ab9.2 ⟨Ap.1,Sb⟩) ?_;intro j hj;rcases BY.1 hj with rfl|hj
           ·exact hir
           ·obtain ⟨p,hp,rfl⟩:=aaT.1 hj;exact Wh p hp
          simp only [aaI,afG] at h1;omega
         have EE:rest.length-pd.length=(x::rest).length-((i,w.heap.size)::pd).length:=by simp only [aaI];omega
         rw [EE];refine ihm (x::rest) pre ((i,w.heap.size)::pd) (o::l') _ e st a _ ?_ (h.narrow hg ug) ?_ (ht.trans (hg.trans (λb hb=>(h.dp b hb).1) _)) ?_ hd0 ?_ mz ac0 ?_ ?_ ?_ ?_ ?_
         ·simp only [aaI] at hm⊢;omega
         ·exact akc
         ·simp [rU,hox,hpk]
         ·refine (hL.set akg).congr (λj=> ?_);simp
         ·intro p hp;rcases BY.1 hp with rfl|hp
          ·exact af5 _ hir
          ·exact hpr p hp
         ·exact ab9.2 ⟨Ap.1,Sb⟩
         ·refine ab9.2 ⟨λhm=> ?_,Qt⟩;obtain ⟨p,hp,he⟩:=aaT.1 hm;have:=avq p hp;have he:p.2=w.heap.size:=he;omega
         ·intro p hp;rcases BY.1 hp with rfl|hp
          ·refine ⟨⟨oi,t,I,d,z.cells,t,hoi,EX,q1,hI,q2,kb w _,hz3⟩,λoff=> ?_,(h.dp _ (aa0 _)).1⟩;cases hp:e.φ w.heap.size off with
           |none=>rfl
           |some v=>have:=aaW w _ (h.q9 _ _ _ hp);simp at this
          ·obtain ⟨⟨o1,t1,I1,d1,avr,T1,k1,k2,k3,k4,k5,k6,k7⟩,q5,q6⟩:=hpe p hp;exact ⟨⟨o1,t1,I1,d1,avr,T1,k1,k2,k3,k4,k5,by rw [hg.xj _ (bR k6)];exact k6,k7⟩,q5,q6⟩
         ·simp only [aaI];omega
theorem Tg (hG:Good P c){ops:Array Oper}{l:List Oper}{ord:List Nat}(hd:DK c ops ord=true)(hp:rU ops.toList ord=some l){Z:b8}{e:Env}{st:St}{a:Act}{w:World}{R:Type}{K:St->Option R}{r:R}(h:cF c Z e st a w)(hK:DH c ops.toList l st K=some r): wpAny P .any ops (vP λa' w'=>Out c Z K r e.φ w a' w') ops.size (OF ops.size false) a {w with drawn:=w.drawn+1}:=by
 simp only [DK,fj] at hd;obtain ⟨⟨⟨hns,hl0⟩,mz⟩,hd⟩:=hd;have Tb: ∀(j:Nat) (o:Oper) cs b,ops[j]? =some o->o.op≠ .select cs b:=by intro j o cs b ho he;have:=aaN.1 hns o (agf (by simpa using ho:ops.toList[j]? =some o));simp [he] at this
 have aiO:fa w {w with drawn:=w.drawn+1}:=⟨aa0 _,λ_ _=>rfl,rfl,rfl,rfl,λ_=>rfl⟩
 ·refine acU (c:=c) (φ:=e.φ) _ _ _ _ ?_;have hlen:ord.length=ops.size:=by have:=sh hl0;simpa using this
  rw [<-hlen];have h0:cF c (Z.outs []) e st a {w with drawn:=w.drawn+1}:=(h.grow aiO).XY (λb hb=>⟨hb,by simp⟩) (λb hb=>⟨hb,by simp⟩) rfl rfl rfl rfl;refine agL hG Tb (λa' w' h=>h) (2 *ord.length) ord [] [] l _ e st a _ (by simp) h0 hK (aiO.trans h.dp e.φ) hp hd ⟨by simp [hlen],λi hi=> ?_⟩ (λi hi=> .inr ((ck _ _).1 (aaN.1 mz i (by simpa using hi)))) (by simp) (by simp) (by simp) (by simp) (by simp) (by simp);simp [hlen,hi]
end
end Dn
/-
  What is asked of slices.DeleteFunc, and of the function that it is handed. Conditions: none.
-/
namespace Dn
open Go
structure KO (P:Program) (c:Ctx) (g:Nat) (lb:Array Value) {S:Type} (Inv:S->(Nat->Prop)->Ph->World->Prop) (step:S->MV->Option (Bool×S)):Prop where
 call: ∀{s Z φ W v x b s'},Inv s Z φ W->(∀b,W.heap.size<=b->Z b)->EV φ W->jQ c.key φ v x->step s x=some (b,s')-> lc P g (#[v]++lb) W λr W'=>r= .bool b/\ ∃φ',Trans Z φ W φ' W'/\EV φ' W'/\Inv s' Z φ' W'
 frame: ∀{s Z φ W W'},Inv s Z φ W->W.heap.size<=W'.heap.size->(∀b,Z b->b<W.heap.size->W'.heap[b]? =W.heap[b]?)->Inv s (λb=>Z b/\b<W.heap.size) φ W'
 mono: ∀{s Z Z' φ W},Inv s Z φ W->(∀b,Z b->Z' b)->Inv s Z' φ W
structure agP (c:Ctx) (ob:Option Nat) {S:Type} (Inv:S->(Nat->Prop)->Ph->World->Prop) (Z0:Nat->Prop) (φ0:Ph) (w0:World) (s:S) (Z:Nat->Prop) (φ:Ph) (W:World):Prop where
 inv:Inv s Z φ W
 new: ∀b,W.heap.size<=b->Z b
 sub: ∀b,Z b->Z0 b\/w0.heap.size<=b
 q9:EV φ W
 tr:Trans (λb=>(Z0 b\/w0.heap.size<=b)\/ob=some b) φ0 w0 φ W
 free: ∀b off,ob=some b->φ b off=none
structure akh (P:Program) (c:Ctx) (h el:Nat):Prop where
 run: ∀{S:Type} {Inv:S->(Nat->Prop)->Ph->World->Prop} {step:S->MV->Option (Bool×S)} {g:Nat} {lb:Array Value},KO P c g lb Inv step-> ∀{v0:Value} {xs ys:List MV} {w:World} {Z0:Nat->Prop} {φ0:Ph} {s0 s':S},(∀x∈xs,∃ms,x= .agg ms)->eD c (b8.plain λb=>v0.ownBlock=some b) (vN c.key φ0) w v0 ⟨el,false,xs⟩->(∀b,v0.ownBlock=some b-> ¬Z0 b)-> Inv s0 Z0 φ0 w->(∀b,w.heap.size<=b->Z0 b)->EV φ0 w->ano step s0 xs=some (ys,s')-> lc P h #[v0,.func (.func g) #[] lb] w λv W=> ∃Z φ,agP c v0.ownBlock Inv Z0 φ0 w s' Z φ W/\eD c (b8.plain λb=>v0.ownBlock=some b) (vN c.key φ) W v ⟨el,false,ys⟩/\ ∀b,v.ownBlock=some b->v0.ownBlock=some b
def td (P:Program)(c:Ctx):Prop:= ∀h,c.YX h=true->akh P c h (c.tq (c.key h))
end Dn
/-
  Regions with a call of slices.DeleteFunc. Conditions: none.
-/
namespace Dn
open Go
section
variable {P:Program}{c:Ctx}{Z:b8} {Z':Nat->Prop} {e e':Env}{st cB:St}{a:Act} {w w':World}{R:Type}{K:St->Option R}{r:R}{Q:Exit->Act->World->Prop}{o:Oper}{root:Nat}{cs:List aT}{ks:List LK}{ls outs:List MV}{ps:List (Nat×Nat)} {φ':Ph}
end
end Dn
/-
  A call of slices.DeleteFunc. Conditions: none.
-/
namespace Dn
open Go
section
variable {P:Program}{c:Ctx}{Z:b8} {e e':Env}{st cB:St}{a:Act} {w w':World}{R:Type}{K:St->Option R}{r:R}{Q:Exit->Act->World->Prop}{o:Oper}
theorem lc.imp {P:Program}{f:FuncId}{args:Array Value}{w:World} {R R':Value->World->Prop}(hc:lc P f args w R)(h: ∀v w',R v w'->R' v w'):lc P f args w R':=by
 unfold lc at hc⊢;split
 ·rename_i ju;rw [ju] at hc;exact Calls.mono hc (λx BT ⟨v,e,hr⟩=>⟨v,e,h v BT hr⟩)
 ·rename_i ju;rw [ju] at hc;exact h _ _ hc
 ·rename_i h1 h2;split at hc
  ·rename_i ju;exact absurd ju (h1 _ _ _)
  ·rename_i ju;exact absurd ju (h2 _ _)
  ·exact hc
theorem Trans.XY {I J:Nat->Prop} {φ φ':Ph}(h:Trans I φ w φ' w')(hs: ∀b,I b->J b):Trans J φ w φ' w':=⟨h.ph,λb hb=>h.heap b (λhz=>hb (hs b hz)),λb o hb=>h.free b o (λhz=>hb (hs b hz)),h.size,h.rest⟩
theorem put_comm {a:Act}{x y:Nat}(h:x≠y)(v u:Value):(a.put (some x) v).put (some y) u=(a.put (some y) u).put (some x) v:=by show ({a with tmps:=(a.tmps.setIfInBounds x v).setIfInBounds y u}:Act)={a with tmps:=(a.tmps.setIfInBounds y u).setIfInBounds x v};rw [agZ v u h]
end
end Dn
/-
  Regions in the order of their text. Conditions: none.
-/
namespace Dn
open Go
section
variable {P:Program}{c:Ctx}{Z:b8}{e:Env}{st:St}{a:Act}{w:World}{R:Type}{K:St->Option R}{r:R}{Q:Exit->Act->World->Prop}{ops:Array Oper}
theorem ZN (hG:Good P c)(IX:td P c)(id:Nat)(ops:Array Oper):S1 P c id ops:=by intro Z e st a w R K r Q h hK hQ;unfold abm at hK;exact OM (Zz hG id ops) h hK hQ
end
end Dn
/-
  Open order with two operations that may be done either way round. Conditions: none.
-/
namespace Dn
open Go
section
variable {P:Program}{ops:Array Oper}{Q:Exit->Act->World->Prop}
theorem OV (A B:Nat):(Nb ops A B).size=ops.size:=by simp [Nb]
theorem KP (A B i:Nat):(Nb ops A B)[i]? =(ops[i]?).map λo=>if B=i then {o with after:=o.after.push ⟨A,.data⟩} else o:=by
 unfold Nb;rw [Array.getElem?_modify];by_cases h:B=i
 ·simp [h]
 ·cases ops[i]? <;>simp [h]
theorem QW (A B:Nat)(tmps:Array Value):yielded (Nb ops A B) tmps=yielded ops tmps:=by
 funext j;unfold yielded;rw [KP];cases ops[j]? with
 |none=>rfl
 |some o=>
  have e:(if B=j then {o with after:=o.after.push ⟨A,.data⟩} else o).dst=o.dst:=by split<;>rfl
  simp only [agA,Option.bind_some,e]
theorem ZO {A B i:Nat}{K:Act->World->Prop}{a:Act}{w:World}(h:wpOp P (Nb ops A B) Q i K a w):wpOp P ops Q i K a w:=by
 unfold wpOp at h⊢;rw [KP,QW] at h;cases hi:ops[i]? with
 |none=>rw [hi] at h;exact h
 |some o=>
  rw [hi] at h;simp only [agA] at h;by_cases hb:B=i
  ·rw [if_pos hb] at h;exact h
  ·rw [if_neg hb] at h;exact h
theorem Wj {A B i:Nat}{listed:Array Bool}:i∈AT .any (Nb ops A B) listed↔i∈AT .any ops listed/\(i=B->listed.getD A false=true):=by
 unfold AT;rw [OV];simp only [List.mem_filter,List.mem_range,KP];cases hi:ops[i]? with
 |none=>simp
 |some o=>
  by_cases hb:B=i
  ·subst hb;simp [Array.all_push,afB];constructor
   ·rintro ⟨h1,h2,h3,h4⟩;exact ⟨⟨h1,h2,h3⟩,h4⟩
   ·rintro ⟨⟨h1,h2,h3⟩,h4⟩;exact ⟨h1,h2,h3,h4⟩
  ·have EO: ¬i=B:=λe=>hb e.symm;simp [hb,EO]
def Ahd (A B:Nat):Bool->List Nat->Prop
 |_,[]=>True
 |la,i::r=>(i=B->la=true)/\Ahd A B (la||decide (i=A)) r
theorem KQ (A B:Nat): ∀L,Ahd A B true L
 |[]=>trivial
 |i::r=>⟨λ_=>rfl,by simpa using KQ A B r⟩
theorem ac2 {A B:Nat}(h:A≠B): ∀L,Ahd A B false L\/Ahd B A false L
 |[]=> .inl trivial
 |i::r=>by
  by_cases ha:i=A
  ·subst ha;exact .inl ⟨λe=>absurd e h,by simpa using KQ i B r⟩
  ·by_cases hb:i=B
   ·subst hb;exact .inr ⟨λe=>absurd e ha,by simpa using KQ i A r⟩
   ·rcases ac2 h r with h1|h1
    ·exact .inl ⟨λe=>absurd e hb,by simpa [ha] using h1⟩
    ·exact .inr ⟨λe=>absurd e ha,by simpa [hb] using h1⟩
def tx (ops:Array Oper):List (Nat×Nat)->Array Oper
 |[]=>ops
 |p::E=>Nb (tx ops E) p.1 p.2
theorem DW: ∀E,(tx ops E).size=ops.size
 |[]=>rfl
 |p::E=>by rw [tx,OV,DW E]
theorem KR {i:Nat}{K:Act->World->Prop}{a:Act}{w:World}: ∀E,wpOp P (tx ops E) Q i K a w->wpOp P ops Q i K a w
 |[],h=>h
 |_::E,h=>KR E (ZO h)
theorem A3 {i:Nat}{listed:Array Bool}: ∀E,i∈AT .any (tx ops E) listed↔i∈AT .any ops listed/\ ∀p∈E,i=p.2->listed.getD p.1 false=true
 |[]=>by simp [tx]
 |p::E=>by rw [tx,Wj,A3 E,acq];exact ⟨λh=>⟨h.1.1,h.2,h.1.2⟩,λh=>⟨⟨h.1,h.2.2⟩,h.2.1⟩⟩
theorem Wk {E:List (Nat×Nat)}: ∀(fuel t:Nat) (listed:Array Bool) (a:Act) (w:World),(∀p∈E,p.1<listed.size)->wpAny P .any (tx ops E) Q fuel listed a w-> (∀p∈E,Ahd p.1 p.2 (listed.getD p.1 false) (aaL .any ops fuel t listed []))->wpOps P ops Q (aaL .any ops fuel t listed []) a w:=by
 intro fuel;induction fuel with
 |zero=>intro t listed a w _ h _;simpa [aaL,wpOps] using h.2
 |succ fuel ih=>
  intro t listed a w hs h hA;obtain ⟨h₀,h₁⟩:=h;simp only [aaL] at hA⊢;change wpOps P ops Q (match (AT .any ops listed)[t%(AT .any ops listed).length]? with
   |some i=>aaL .any ops fuel (t/(AT .any ops listed).length) (listed.setIfInBounds i true) [i]
   |none=>[].reverse) a w
  change∀p∈E,Ahd p.1 p.2 (listed.getD p.1 false) (match (AT .any ops listed)[t%(AT .any ops listed).length]? with
   |some i=>aaL .any ops fuel (t/(AT .any ops listed).length) (listed.setIfInBounds i true) [i]
   |none=>[].reverse) at hA
  cases hi:(AT .any ops listed)[t%(AT .any ops listed).length]? with
  |none=>
   have abV:AT .any ops listed=[]:=by
    cases hr:AT .any ops listed with
    |nil=>rfl
    |cons x xs=>rw [hr] at hi;have eE:t%(x::xs).length<(x::xs).length:=Nat.mod_lt _ (by simp);simp at hi;simp at eE;omega
   have aoQ:AT .any (tx ops E) listed=[]:=by
    cases hr:AT .any (tx ops E) listed with
    |nil=>rfl
    |cons x xs=>
     have:x∈AT .any (tx ops E) listed:=by rw [hr];simp
     have:=((A3 E).1 this).1;rw [abV] at this;cases this
   simpa [wpOps] using h₀ aoQ
  |some i=>
   rw [hi] at hA;simp only [] at hA⊢;rw [linearise_go_acc,List.reverse_singleton,List.singleton_append] at hA⊢;rw [wpOps_cons];have Fb:=(A3 E).2 ⟨agf hi,λp hp=>(hA p hp).1⟩;refine wpOp_mono (λa w hw=>ih _ _ a w (λp hp=>by simpa using hs p hp) hw λp hp=> ?_) (KR E (h₁ i Fb));have hg:(listed.setIfInBounds i true).getD p.1 false=(listed.getD p.1 false||decide (i=p.1)):=by
    rw [abK,abK,Array.getElem?_setIfInBounds];by_cases hia:i=p.1
    ·subst hia;simp [hs p hp]
    ·simp [hia]
   rw [hg];exact (hA p hp).2
theorem KS {c:Ctx}(hG:Good P c)(IY:P.follows .mixedOrders=true)(IX:td P c):KC P c:=by
 refine ⟨λid ops=>ZN hG IX id ops,?_,?_⟩
 ·intro id ops l hd hp Z e st a w R K r Q h hK hQ;refine Code.wp_mono ?_ (wp_region_any IY (Tg hG hd hp h hK));intro x a' w' hx;cases x<;>first|exact hQ a' w' hx|exact hx.elim
 ·intro id ops k l Z e st a w R K r Q h hK hQ;refine Code.wp_mono (Q:=vP λa' w'=>Out c Z K r e.φ w a' w') ?_ (wp_region_draw λt=> ?_)
  ·intro x a' w' hx;cases x<;>first|exact hQ a' w' hx|exact hx.elim
  simp only [Region.schedule,IY,Bool.true_or,if_true];have leaf: ∀(E:List (Nat×Nat)) (l:List Nat),(∀p∈E,p.1<ops.size)->Xy c (tx ops E) l st K=some r->(∀p∈E,Ahd p.1 p.2 false (aaL .any ops ops.size t (OF ops.size false) []))-> wpOps P ops (vP λa' w'=>Out c Z K r e.φ w a' w') (aaL .any ops ops.size t (OF ops.size false) []) a {w with drawn:=w.drawn+1}:=by
   intro E l hE hK hA;unfold Xy at hK;cases hd:DK c (tx ops E) l with
   |false=>simp [hd] at hK
   |true=>
    simp only [hd,cond_true] at hK;split at hK
    ·rename_i l1 hp;have w1:=Tg hG hd hp h hK;rw [DW] at w1;exact Wk ops.size t _ a _ (by simpa using hE) w1 (λp hp=>by simpa [hE p hp] using hA p hp)
    ·cases hK
  have key: ∀(k:Nat) (E:List (Nat×Nat)) (l:List Nat),(∀p∈E,p.1<ops.size)->Sw c st K k (tx ops E) l=some r->(∀p∈E,Ahd p.1 p.2 false (aaL .any ops ops.size t (OF ops.size false) []))-> wpOps P ops (vP λa' w'=>Out c Z K r e.φ w a' w') (aaL .any ops ops.size t (OF ops.size false) []) a {w with drawn:=w.drawn+1}:=by
   intro k;induction k with
   |zero=>intro E l _ hK;cases hK
   |succ k ih=>
    intro E l hE hK hA;simp only [Sw] at hK;cases hb:No l.length (tx ops E).toList.length with
    |true=>simp only [hb,cond_true] at hK;exact leaf E l hE hK hA
    |false=>
     simp only [hb,cond_false] at hK;split at hK
     ·rename_i o1 o2 A B ht;obtain ⟨q1,q2,q3⟩:=Wd ht;have ug:(tx ops E).toList.length=ops.size:=by rw [aaQ,DW]
      rw [ug] at q2 q3;obtain ⟨k1,k2⟩:=ZA hK;rcases ac2 q1 (aaL .any ops ops.size t (OF ops.size false) []) with ho|ho
      ·exact leaf ((A,B)::E) o1 (acq.2 ⟨q2,hE⟩) k1 (acq.2 ⟨ho,hA⟩)
      ·exact ih ((B,A)::E) o2 (acq.2 ⟨q3,hE⟩) k2 (acq.2 ⟨ho,hA⟩)
     ·cases hK
  exact key k [] l (by simp) hK (by simp)
end
end Dn
/-
  Functions of the library, by hand: copies of slices. Conditions: none.
-/
namespace Dn
open Go
section
variable {P:Program}{c:Ctx}{Q:Exit->Act->World->Prop}{ops:Array Oper}{o:Oper}{a:Act} {w w':World}
theorem zk {i:Nat}{rest:List Nat}{v:Value}(hi:ops[i]? =some o)(hg:o.guard=none)(cV:(execOp a.eval o).run P w= .ok (.value v) w')(h:wpOps P ops Q rest (a.put o.dst v) w'):wpOps P ops Q (i::rest) a w:=by rw [wpOps_cons];unfold wpOp;simp only [hi,aaK,hg,if_true];left;unfold ahg;rw [cV,agC];exact h
structure bp (o:Oper) (d:Nat) (op:Op):Prop where
 dst:o.dst=some d
 op:o.op=op
 guard:o.guard=none
theorem aki {key:Nat->Nat} {φ:Ph}{size:Nat}{v:Value}{xs:List MV}(pO:EV φ w)(jv:0<size)(hx:nr key φ [v] (.list xs))(hw:oa size xs=true): ∃news,Src (vN key φ) w size v xs news:=by
 generalize hv:[v]=vs at hx;cases hx with
 |list ad cap _ bO off Oq f g1 g2 g3 g4 g5=>
 simp at hv;have hes: ∀i,i<xs.length->(f i).length=size:=by intro i hi;rw [(g5 i hi).width];exact EQ hw _ (ahe hi)
 obtain ⟨cs,h1,h2⟩:=Ki hes g5;refine ⟨cs,h1,ad,cap,hv,?_,?_⟩
 ·intro hn;cases xs with
  |nil=>rfl
  |cons y ys=>have:=g2 (by simp);rw [hn] at this;cases this
 ·intro x hx j u hj;have M5:j<cs.length:=(afD.1 hj).1;rw [h1.length] at M5;have Kj:0<xs.length:=by
   cases xs with
   |nil=>simp at M5
   |cons y ys=>simp
  have had:=g2 Kj;rw [hx] at had;cases had;have hq:j/size<xs.length:=(Nat.div_lt_iff_lt_mul jv).2 M5;have hm:=Nat.mod_lt j jv;have Vh:j=j/size *size+j%size:=by rw [Nat.mul_comm];exact (Nat.div_add_mod j size).symm
  have e1:=h2 (j/size) (j%size) hq hm;rw [<-Vh,hj] at e1;have abS:Oq=size:=by rw [<-g3 0 Kj,hes 0 Kj]
  have e2:=g4 (j/size) (j%size) hq (by rw [abS];exact hm);rw [<-e1,abS,Nat.add_assoc,<-Vh] at e2;have:=pO _ _ _ e2;rw [agG];exact this
theorem ZP {t t':TypeId}{el:TypeId}{x:Operand}{ad:Option Addr}{n cap:Nat}(hu:P.underlying t=some (.slice el))(ho:o.op= .binOp .eql t x (.const (.slice none 0 0)) t')(hx:a.eval x= .slice ad n cap): (execOp a.eval o).run P w= .ok (.value (.bool ad.isNone)) w:=by
 have he:a.eval (.const (.slice none 0 0))= .slice none 0 0:=rfl;have ju: ∀d:Nat,(ahf (d+1) t (.slice ad n cap) (.slice none 0 0)).run P w= .ok ad.isNone w:=by intro d;cases ad<;>simp [ahf,run_underlying hu]
 have hb:Go.binOp .eql t (.slice ad n cap) (.slice none 0 0)=(do pure (.bool (<-aii t (.slice ad n cap) (.slice none 0 0)))):=rfl;have hg: ∀(x y:Operand),(eqGuard .eql t x y (.slice ad n cap) (.slice none 0 0)).run P w= .ok () w:=λ_ _=>rfl;have h2:(aii t (.slice ad n cap) (.slice none 0 0)).run P w= .ok ad.isNone w:=ju 9999;unfold execOp;simp only [ho];rw [hx,he];simp [hg,hb,h2]
theorem A4 {f:FuncId}{fn:Func}{t:TypeId}{I E:TI}{i0 i1 i2 i3:Nat}{oA oB oC oD oE oF oG oH:Oper}{xs:List MV}(hT:lS P c.ti)(hI:c.tv t=some I)(hL:I.BS=true)(hE:c.tv I.elem=some E)(xS:1<=E.bytes)(QX:c.tq (c.key f)=I.elem)(hg:c.iL (c.key f)=false)
 (hf:P.funcs[f]? =some fn) (E5:(fn.name== "runtime.NumGoroutine")=false) (hn:fn.ntmps=8) (hr:fn.results= #[.tmp 2])
 (uQ:fn.body=some (.seq (.region i0 #[oA] false) (.seq (.seq (.region i1 #[oB,oC] false) (.cond (.tmp 4) (.seq (.region i2 #[oD] false) .ret) .skip)) (.seq (.region i3 #[oE,oF,oG,oH] false) .ret))))
 (hA:bp oA 2 (.assign (.const (.slice none 0 0)))) (hB:bp oB 3 (.move (.tmp 0))) (hC:bp oC 4 (.binOp .eql t (.tmp 3) (.const (.slice none 0 0)) t)) (hD:bp oD 2 (.assign (.const (.slice none 0 0))))
 (hEo:bp oE 5 (.buildSlice t 0 #[])) (hF:bp oF 6 (.move (.tmp 0))) (hG:bp oG 7 (.call {callee:= .builtin .append,args:= #[.tmp 5,.tmp 6],argTypes:= #[t,t]})) (hH:bp oH 2 (.assign (.tmp 7)))
 (hw:oa E.size xs=true) (kZ:xs.length *E.bytes<=2^46):mL P c f [.list xs] (.fresh xs):=by
 obtain ⟨hIt,hIc⟩:=cz hI;obtain ⟨uh,xk⟩:=cz hE;obtain ⟨hu,E2,HZ,_,jv⟩:=TI.nW (hT t I hIt) hL;rw [uh] at HZ;cases HZ;intro φ W Z vs hz kL pO;simp only [jh,hg,aaO,if_false] at kL;obtain ⟨v,u,rfl,⟨_,hx⟩,hu0⟩:=kL;have hu0:u=[]:=hu0;subst hu0;obtain ⟨ad,cap,hv,DQ,hnn⟩: ∃ad cap,v= .slice ad xs.length cap/\xs.length<=cap/\(0<xs.length->ad≠none):=by
  have Ox:=hx;generalize C9:[v]=vs at Ox;cases Ox with
  |list ad cap _ bO off Oq f g1 g2 g3 g4 g5=>exact ⟨ad,cap,by simpa using C9,g1,λh0 hn=>by rw [g2 h0] at hn;cases hn⟩
 have cV:(callFunc f [v].toArray).run P W= .ok (.enter f #[v]) W:=by
  have Qt: ¬fn.name= "runtime.NumGoroutine" :=by simpa using E5
  simp [callFunc,hf,Qt,uQ]
 unfold lc;rw [cV];refine calls_of_wp hf uQ ?_;rw [hn];have ha0:({tmps:= #[v]++OF (8-(#[v]:Array Value).size) undef,defers:=[]}:Act)={tmps:= #[v,undef,undef,undef,undef,undef,undef,undef],defers:=[]}:=rfl;rw [ha0];have avv:IS (#[oA]:Array Oper).size=[0]:=rfl;have avw:IS (#[oB,oC]:Array Oper).size=[0,1]:=rfl;have avx:IS (#[oE,oF,oG,oH]:Array Oper).size=[0,1,2,3]:=rfl;have avy:IS (#[oD]:Array Oper).size=[0]:=rfl;have fin: ∀(a:Act) (W':World) (v':Value) (cells:List Value),a.defers=[]->a.tmps.getD 2 undef=v'->(∃φ',Trans Z φ W φ' W'/\EV φ' W'/\kp c Z φ' W' (c.key f) v' (.fresh xs))-> bodyPost P fn (λx BT=> ∃v,x= .returned v/\ ∃φ',Trans Z φ W φ' BT/\EV φ' BT/\kp c Z φ' BT (c.key f) v (.fresh xs)) .ret a W':=by
  intro a W' v' cells hd h2 h3;refine ⟨hd,v',?_,v',rfl,h3⟩;have SD:a.tmps[2]?.getD undef=v':=by simpa using h2
  simp [results,hr,SD]
 refine wp_seq (wp_region ?_);rw [avv];refine zk (o:=oA) rfl hA.guard (v:= .slice none 0 0) (w':=W) (by simp [execOp,hA.op];rfl) ?_;rw [hA.dst];refine wp_seq (wp_seq (wp_region ?_));rw [avw];refine zk (o:=oB) rfl hB.guard (v:=v) (w':=W) (by simp [execOp,hB.op];rfl) ?_;rw [hB.dst];refine zk (o:=oC) rfl hC.guard (v:= .bool ad.isNone) (w':=W) (ZP hu hC.op (by rw [<-hv];rfl)) ?_;rw [hC.dst];refine wp_cond (t:=ad.isNone) rfl ?_;cases had:ad.isNone with
 |true=>
  have had:ad=none:=by simpa using had
  have hxs:xs=[]:=by
   cases xs with
   |nil=>rfl
   |cons y ys=>exact absurd had (hnn (by simp))
  simp only [if_true];refine wp_seq (wp_region ?_);rw [avy];refine zk (o:=oD) rfl hD.guard (v:= .slice none 0 0) (w':=W) (by simp [execOp,hD.op];rfl) ?_;rw [hD.dst];refine wp_ret ?_;refine fin _ W (.slice none 0 0) [] rfl rfl ⟨φ,.refl _ _ _,pO,?_⟩;show eD c (b8.plain Z) (vN c.key φ) W _ ⟨c.tq (c.key f),false,xs⟩;rw [QX,hxs];exact ⟨E,[],uh,xk,⟨by simp,.inl ⟨rfl,rfl⟩⟩,rfl,λbO hb=>by simp [afA] at hb⟩
 |false=>
  simp only [aaO,if_false];refine wp_skip ?_;refine wp_seq (wp_region ?_);rw [avx];have aoR:=XL (P:=P) (c:=c) (w:=W) (t:=t) (I:=I) (vs:=[]) (parts:= #[]) hu uh xk jv hT (by simp) (by simp) rfl;simp only [List.length_nil,List.flatMap_nil] at aoR;refine zk (o:=oE) rfl hEo.guard (v:= .slice (some ⟨W.heap.size,0,none⟩) 0 0) (w':=W.alloc (.cells #[] I.elem)) (by simp [execOp,hEo.op,aoR]) ?_;rw [hEo.dst];refine zk (o:=oF) rfl hF.guard (v:=v) (w':=W.alloc (.cells #[] I.elem)) (by simp [execOp,hF.op];rfl) ?_;rw [hF.dst];obtain ⟨news,AY⟩:=aki pO jv hx hw;have hg1:fa W (W.alloc (.cells #[] I.elem)):= .alloc W _ _;have aoS:Src (vN c.key φ) (W.alloc (.cells #[] I.elem)) E.size v xs news:=by obtain ⟨ad',abE,q1,q2,q3⟩:=AY.val;exact ⟨AY.els,ad',abE,q1,q2,λx hx j u hj=>hg1.cell (q3 x hx j u hj)⟩
  have gh:(W.alloc (.cells #[] I.elem)).ownsRow 0 I.elem E.size (.slice (some ⟨W.heap.size,0,none⟩) 0 0) 0 []:=⟨by simp,.inr ⟨W.heap.size,0, #[],rfl,afK _,kb W _,aa0 _,afK _,by simp,by simp⟩⟩
  obtain ⟨v',W',aoT,zd⟩:=DR (P:=P) (c:=c) (ty:=oG.type) hu uh xk jv hT xS gh (aoS.apx hu) (by simpa using kZ);refine zk (o:=oG) rfl hG.guard (v:=v') (w':=W') (by
   have e1: ∀(a:Act),a.eval (.tmp 5)= .slice (some ⟨W.heap.size,0,none⟩) 0 0->a.eval (.tmp 6)=v->(execOp a.eval oG).run P (W.alloc (.cells #[] I.elem))= .ok (.value v') W':=by intro a h5 h6;simp [execOp,hG.op,resolve,invoke,builtin,h5,h6,aoT]
   exact e1 _ rfl rfl) ?_
  rw [hG.dst];refine zk (o:=oH) rfl hH.guard (v:=v') (w':=W') (by simp [execOp,hH.op];rfl) ?_;rw [hH.dst];refine wp_ret ?_;refine fin _ W' v' [] rfl rfl ?_;have ug:W.heap.size<=W'.heap.size:=agH hg1.size zd.size;have hold: ∀b,b<W.heap.size->W'.heap[b]? =W.heap[b]? :=by intro b hb;rw [zd.xj b (Nat.lt_of_lt_of_le hb hg1.size) (by simp [afA];omega)];exact hg1.xj b hb
  refine ⟨φ,⟨.refl _,λb _ hb=>hold b hb,λ_ _ _=>rfl,ug,hg1.rest.trans zd.rest⟩,?_,?_⟩
  ·intro b o u hbo;have h1:=pO b o u hbo;rw [aa1 (hold b (aaW W _ h1))];exact h1
  ·show eD c (b8.plain Z) (vN c.key φ) W' v' ⟨c.tq (c.key f),false,xs⟩;rw [QX];refine ⟨E,news,uh,xk,by simpa using zd.own,AY.els,λbO hb=> ?_⟩;have lT:W.heap.size<=bO:=by
    rcases zd.place with h1|h1
    ·rw [h1] at hb;simp [afA] at hb;omega
    ·rw [h1] at hb;cases hb;exact hg1.size
   refine ⟨hz bO lT,λoff u hu=> ?_,λhc=>hc.elim⟩;have:=aaW W _ (pO _ _ _ hu);have:bO<W.heap.size:=this;omega
end
end Dn
/-
  Tables of functions. Conditions: none.
-/
namespace Dn
open Go
structure dV (P:Program) (c:Ctx) (g:Nat->List MV->Option MV):Prop where
 all: ∀f ms r,g (c.key f) ms=some r->mL P c f ms r
abbrev bt (n:Nat)(F:List MV->Option MV)(g:Nat->List MV->Option MV):Nat->List MV->Option MV:=λk ms=>match No k n with|true=>F ms|false=>g k ms
theorem dV.add {P:Program}{c:Ctx}{g:Nat->List MV->Option MV}{n:Nat}{F:List MV->Option MV}(h:dV P c g)(hF: ∀f ms r,c.key f=n->F ms=some r->mL P c f ms r):dV P c (bt n F g):=by
 refine ⟨λf ms r hr=> ?_⟩;unfold bt at hr;cases hk:No (c.key f) n with
 |true=>simp only [hk] at hr;exact hF f ms r (sh hk) hr
 |false=>simp only [hk] at hr;exact h.all f ms r hr
structure CK (c c':Ctx):Prop where
 ti:c'.ti=c.ti
 key:c'.key=c.key
 iL:c'.iL=c.iL
 fresh:c'.fresh=c.fresh
 tq:c'.tq=c.tq
 fk:c'.fk=c.fk
 mt:c'.mt=c.mt
 sig:c'.sig=c.sig
 YX:c'.YX=c.YX
theorem eD.mA {c c':Ctx}(h:c'.ti=c.ti){Z:b8}{e:Env}{w:World}{v:Value}{o:pY}(hs:eD c Z e w v o):eD c' Z e w v o:=by obtain ⟨I,cells,h1,h2⟩:=hs.row;exact ⟨I,cells,by rw [h];exact h1,h2⟩
theorem kp.mA {c c':Ctx}(h:CK c c'){Z:Nat->Prop} {φ:Ph}{w:World}{k:Nat}{v:Value}{r:MV}(hs:kp c Z φ w k v r):kp c' Z φ w k v r:=by cases r<;>simp only [kp,h.key,h.tq] at hs⊢ <;>first|exact hs|exact hs.mA h.ti
theorem rv.mA {c c':Ctx}(h:CK c c'){Z:Nat->Prop} {φ:Ph}{w:World}{bO:Nat}{ks:List LK}{ls:List MV}(hs:rv c Z φ w bO ks ls):rv c' Z φ w bO ks ls:=by obtain ⟨cs,m,E,arr,T,h1,h2,h3,h4,h5,h6,h7⟩:=hs;refine ⟨cs,m,E,arr,T,h1,h2,h3,h4,by rw [h.key];exact h5,λf o ho=>⟨?_,(h6 f o ho).2⟩,h7⟩;rw [h.key];exact (h6 f o ho).1.mA h.ti
theorem wm.mA {c c':Ctx}(h:CK c c'){Z:Nat->Prop} {φ:Ph}{w:World}{k:Nat}{vs:List Value}{v:Value}{r:MV}(hs:wm c Z φ w k vs v r):wm c' Z φ w k vs v r:=by
 cases r<;>simp only [wm] at hs⊢ <;>first|exact hs.mA h|skip
 obtain ⟨h1,pos,ks,bO,off,h2,h3,h4⟩:=hs;exact ⟨h1.mA h,pos,ks,bO,off,by rw [h.sig];exact h2,h3,h4.mA h⟩
theorem jh.mA {c c':Ctx}(h:CK c c'){Z:Nat->Prop} {φ:Ph}{w:World}{k:Nat}{vs:List Value}{ms:List MV}(hs:jh c' Z φ w k vs ms):jh c Z φ w k vs ms:=by
 unfold jh at hs⊢;rw [h.iL] at hs;split
 ·rename_i hg;rw [if_pos hg] at hs;rcases hs with ⟨v0,v1,v2,xs,m1,ys,h1,h2,h3,h4,h5,h6⟩|⟨v0,v1,v2,xs,m1,m2,h1,h2,h3,h4,h5,h6⟩|⟨pos,ks,off,ls,bO,h1,h2,h3,h4,h5⟩
  ·rw [h.key,h.tq] at h3 h5;rw [h.key] at h4;exact .inl ⟨v0,v1,v2,xs,m1,ys,h1,h2,h3.mA h.ti.symm,h4,h5.mA h.ti.symm,h6⟩
  ·rw [h.key,h.tq] at h4;rw [h.key] at h5 h6;exact .inr (.inl ⟨v0,v1,v2,xs,m1,m2,h1,h2,h3,h4.mA h.ti.symm,h5,h6⟩)
  ·refine .inr (.inr ⟨pos,ks,off,ls,bO,by rw [<-h.sig];exact h1,h2,h3,by rw [<-h.key];exact h4,?_⟩);obtain ⟨cs,m,E,arr,T,k1,k2,k3,k4,k5,k6,k7⟩:=h5;refine ⟨cs,m,E,arr,T,k1,k2,k3,k4,by rw [<-h.key];exact k5,λf o ho=>⟨?_,(k6 f o ho).2⟩,k7⟩;rw [<-h.key];exact (k6 f o ho).1.mA h.ti.symm
 ·rename_i hg;rw [if_neg hg,h.key] at hs;exact hs
theorem lc.mono {P:Program}{f:FuncId}{args:Array Value}{w:World} {R R':Value->World->Prop}(hc:lc P f args w R)(h: ∀v w',R v w'->R' v w'):lc P f args w R':=by
 unfold lc at hc⊢;split
 ·rename_i ju;rw [ju] at hc;exact Calls.mono hc (λx BT ⟨v,e,hr⟩=>⟨v,e,h v BT hr⟩)
 ·rename_i ju;rw [ju] at hc;exact h _ _ hc
 ·rename_i h1 h2;split at hc
  ·rename_i ju;exact absurd ju (h1 _ _ _)
  ·rename_i ju;exact absurd ju (h2 _ _)
  ·exact hc
theorem mL.mA {P:Program} {c c':Ctx}{f:Nat}{ms:List MV}{r:MV}(h:CK c c')(hs:mL P c f ms r):mL P c' f ms r:=by intro φ w Z vs hz ha hi;rw [h.key] at ha;refine (hs φ w Z vs hz (ha.mA h) hi).mono ?_;rintro v w' ⟨φ',h1,h2,h3⟩;rw [h.key];exact ⟨φ',h1,h2,h3.mA h⟩
theorem CK.symm {c c':Ctx}(h:CK c c'):CK c' c:=⟨h.ti.symm,h.key.symm,h.iL.symm,h.fresh.symm,h.tq.symm,h.fk.symm,h.mt.symm,h.sig.symm,h.YX.symm⟩
theorem KO.mA {P:Program} {c c':Ctx}(h:CK c c'){g:Nat}{lb:Array Value}{S:Type}{Inv:S->(Nat->Prop)->Ph->World->Prop}{step:S->MV->Option (Bool×S)}(hp:KO P c' g lb Inv step):KO P c g lb Inv step:=⟨λh1 h2 h3 h4 h5=>hp.call h1 h2 h3 (by rw [h.key];exact h4) h5,hp.frame,hp.mono⟩
theorem td.mA {P:Program} {c c':Ctx}(h:CK c c')(hd:td P c):td P c':=by intro f hf;rw [h.YX] at hf;have hx:=hd f hf;refine ⟨?_⟩;intro S Inv step g lb hp v0 xs ys w Z0 φ0 s0 s' h1 h2 h3 h4 h5 h6 h7;rw [h.key,h.tq] at h2;refine (hx.run (hp.mA h) h1 (h2.mA h.ti.symm) h3 h4 h5 h6 h7).mono ?_;rintro v W ⟨Z,φ,hW,hF,hb⟩;refine ⟨Z,φ,⟨hW.inv,hW.new,hW.sub,hW.q9,hW.tr,hW.free⟩,?_,hb⟩;rw [h.key,h.tq];exact hF.mA h.ti
def Di (c:Ctx)(n:Nat)(fn:Func)(dI:List (List Kd)):Bool:=
 !(fn.name== "runtime.NumGoroutine")&&No c.n fn.ntmps&&acO (fn.params.size+dI.length) fn.ntmps&&!c.iL n
def DX (c:Ctx)(n:Nat)(fn:Func):Option Nat->Bool
 |none=>true
 |some ty=>No ty (c.tq n)&&(No fn.results.toList.length 1&&(match c.tv ty with|some _=>true|none=>false))
theorem OW {c:Ctx}{n:Nat}{fn:Func}{fresh:Option Nat}(h:DX c n fn fresh=true): ∀ty,fresh=some ty->ty=c.tq n/\fn.results.toList.length=1/\ ∃I,c.tv ty=some I:=by
 rintro ty rfl;simp only [DX,fj] at h;obtain ⟨h1,h2,h3⟩:=h;refine ⟨sh h1,sh h2,?_⟩;cases hc:c.tv ty with
 |none=>rw [hc] at h3;cases h3
 |some I=>exact ⟨I,rfl⟩
theorem dV.body {P:Program} {c c':Ctx}{g:Nat->List MV->Option MV}{n:Nat}{fn:Func}{dI:List (List Kd)}(h:dV P c g)(hl:CK c c')(hgg:c'.g=g)(qe:lS P c.ti)(ju:Qs P c.ti)(J4: ∀t k,c.fk t=some k->P.underlying t=some (.float k))(Se:zf P c)(IY:P.follows .mixedOrders=true)(IX:td P c)(hf:P.funcs[n]? =some fn)(hh:Di c' n fn dI=true)(xl: ∀f,c.key f=f){fresh:Option Nat}(IR:DX c' n fn fresh=true):dV P c (bt n (Oo c' dI fresh fn) g):=by
 have hG:Good P c':=by
  refine ⟨by rw [hl.ti];exact qe,by rw [hl.ti];exact ju,λf ms r hr=> ?_,by rw [hl.fk];exact J4,λt s hs=>Se t s ?_⟩
  ·rw [hgg,hl.key] at hr;exact (h.all f ms r hr).mA hl
  ·rw [<-hs];unfold xh Ctx.tv;rw [hl.mt,hl.ti]
 refine h.add (λf ms r hk hr=> ?_);rw [xl] at hk;subst hk;simp only [Di,fj,aav] at hh;obtain ⟨⟨⟨h1,h2⟩,h3⟩,h4⟩:=hh;exact (agz hG (KS hG IY (IX.mA hl)) hf h1 (sh h2) (aay h3) (by rw [hl.key,xl];exact h4) (by rw [hl.key,xl];exact OW IR) hr).mA hl.symm
def Th (c:Ctx)(n:Nat)(fn:Func)(dI:List (List Kd)):Bool:=
 !(fn.name== "runtime.NumGoroutine")&&No c.n fn.ntmps&&acO fn.ntmps 1000000&&acO (fn.params.size+dI.length) fn.ntmps&&c.iL n
theorem dV.fnC {P:Program}{c:Ctx}{g:Nat->List MV->Option MV}{n pos:Nat}{ks:List LK}{fn:Func}{dI:List (List Kd)}{F:List MV->Option MV}(h:dV P c g)(qe:lS P c.ti)(ju:Qs P c.ti)(J4: ∀t k,c.fk t=some k->P.underlying t=some (.float k))(Se:zf P c)(IY:P.follows .mixedOrders=true)(IX:td P c)(hf:P.funcs[n]? =some fn)(QK:c.sig n=some (pos,ks))(xl: ∀f,c.key f=f)(hF: ∀{ms r},F ms=some r-> ∃c':Ctx,CK c c'/\c'.g=g/\Th c' n fn dI=true/\EH c' dI pos ks fn ms=some r):dV P c (bt n F g):=by
 refine h.add (λf ms r hk hr=> ?_);rw [xl] at hk;subst hk;obtain ⟨c',hl,hgg,hh,hr⟩:=hF hr;have hG:Good P c':=by
  refine ⟨by rw [hl.ti];exact qe,by rw [hl.ti];exact ju,λf ms r hr=> ?_,by rw [hl.fk];exact J4,λt s hs=>Se t s ?_⟩
  ·rw [hgg,hl.key] at hr;exact (h.all f ms r hr).mA hl
  ·rw [<-hs];unfold xh Ctx.tv;rw [hl.mt,hl.ti]
 simp only [Th,fj,aav] at hh;obtain ⟨⟨⟨⟨h1,h2⟩,SD⟩,h3⟩,h4⟩:=hh;exact (acS hG (KS hG IY (IX.mA hl)) hf h1 (sh h2) (aay SD) (aay h3) (by rw [hl.key,xl];exact h4) (by rw [hl.sig,hl.key,xl];exact QK) hr).mA hl.symm
end Dn
/-
  One function that is handed a variable in two ways. Conditions: none.
-/
namespace Dn
open Go
abbrev agR (n:Nat)(g:Nat->List MV->Option MV):Nat->List MV->Option MV:=λk ms=>match No k n with|true=>none|false=>g k ms
structure Ig (k0:Nat) (c c':Ctx):Prop where
 ti:c'.ti=c.ti
 key:c'.key=c.key
 iL:c'.iL=c.iL
 fresh:c'.fresh=c.fresh
 tq:c'.tq=c.tq
 sig: ∀k,k≠k0->c'.sig k=c.sig k
theorem kp.Dj {k0:Nat} {c c':Ctx}(h:Ig k0 c c'){Z:Nat->Prop} {φ:Ph}{w:World}{k:Nat}{v:Value}{r:MV}(hs:kp c Z φ w k v r):kp c' Z φ w k v r:=by cases r<;>simp only [kp,h.key,h.tq] at hs⊢ <;>first|exact hs|exact hs.mA h.ti
theorem rv.Dj {k0:Nat} {c c':Ctx}(h:Ig k0 c c'){Z:Nat->Prop} {φ:Ph}{w:World}{bO:Nat}{ks:List LK}{ls:List MV}(hs:rv c Z φ w bO ks ls):rv c' Z φ w bO ks ls:=by obtain ⟨cs,m,E,arr,T,h1,h2,h3,h4,h5,h6,h7⟩:=hs;refine ⟨cs,m,E,arr,T,h1,h2,h3,h4,by rw [h.key];exact h5,λf o ho=>⟨?_,(h6 f o ho).2⟩,h7⟩;rw [h.key];exact (h6 f o ho).1.mA h.ti
theorem wm.Dj {k0:Nat} {c c':Ctx}(h:Ig k0 c c'){Z:Nat->Prop} {φ:Ph}{w:World}{k:Nat}(hk:k≠k0){vs:List Value}{v:Value}{r:MV}(hs:wm c Z φ w k vs v r):wm c' Z φ w k vs v r:=by
 cases r<;>simp only [wm] at hs⊢ <;>first|exact hs.Dj h|skip
 obtain ⟨h1,pos,ks,bO,off,h2,h3,h4⟩:=hs;exact ⟨h1.Dj h,pos,ks,bO,off,by rw [h.sig k hk];exact h2,h3,h4.Dj h⟩
theorem jh.Dj {k0:Nat} {c c':Ctx}(h:Ig k0 c c'){Z:Nat->Prop} {φ:Ph}{w:World}{k:Nat}(hk:k≠k0){vs:List Value}{ms:List MV}(hs:jh c' Z φ w k vs ms):jh c Z φ w k vs ms:=by
 unfold jh at hs⊢;rw [h.iL] at hs;split
 ·rename_i hg;rw [if_pos hg] at hs;rcases hs with ⟨v0,v1,v2,xs,m1,ys,h1,h2,h3,h4,h5,h6⟩|⟨v0,v1,v2,xs,m1,m2,h1,h2,h3,h4,h5,h6⟩|⟨pos,ks,off,ls,bO,h1,h2,h3,h4,h5⟩
  ·rw [h.key,h.tq] at h3 h5;rw [h.key] at h4;exact .inl ⟨v0,v1,v2,xs,m1,ys,h1,h2,h3.mA h.ti.symm,h4,h5.mA h.ti.symm,h6⟩
  ·rw [h.key,h.tq] at h4;rw [h.key] at h5 h6;exact .inr (.inl ⟨v0,v1,v2,xs,m1,m2,h1,h2,h3,h4.mA h.ti.symm,h5,h6⟩)
  ·refine .inr (.inr ⟨pos,ks,off,ls,bO,by rw [<-h.sig k hk];exact h1,h2,h3,by rw [<-h.key];exact h4,?_⟩);obtain ⟨cs,m,E,arr,T,k1,k2,k3,k4,k5,k6,k7⟩:=h5;refine ⟨cs,m,E,arr,T,k1,k2,k3,k4,by rw [<-h.key];exact k5,λf o ho=>⟨?_,(k6 f o ho).2⟩,k7⟩;rw [<-h.key];exact (k6 f o ho).1.mA h.ti.symm
 ·rename_i hg;rw [if_neg hg,h.key] at hs;exact hs
theorem mL.Dj {P:Program}{k0:Nat} {c c':Ctx}{f:Nat}{ms:List MV}{r:MV}(h:Ig k0 c c')(hk:c.key f≠k0)(hs:mL P c f ms r):mL P c' f ms r:=by intro φ w Z vs hz ha hi;rw [h.key] at ha;refine (hs φ w Z vs hz (ha.Dj h hk) hi).mono ?_;rintro v w' ⟨φ',h1,h2,h3⟩;rw [h.key];exact ⟨φ',h1,h2,h3.Dj h hk⟩
theorem dV.alt {P:Program}{k0:Nat} {c c':Ctx}{g:Nat->List MV->Option MV}(h:dV P c g)(hl:Ig k0 c c'):dV P c' (agR k0 g):=by
 refine ⟨λf ms r hr=> ?_⟩;rw [hl.key] at hr;unfold agR at hr;cases hk:No (c.key f) k0 with
 |true=>simp only [hk] at hr;cases hr
 |false=>simp only [hk] at hr;refine (h.all f ms r hr).Dj hl (λhe=> ?_);rw [he,Nat.beq_refl] at hk;cases hk
end Dn
/-
  Steps through a function of the library by hand. Conditions: none.
-/
namespace Dn
open Go
def Sf (σ:Nat->Value)(d:Nat)(v:Value):Nat->Value:=λt=>bif No t d then v else σ t
def ev (σ:Nat->Value):Operand->Value
 | .tmp t=>σ t
 | .const v=>v
 | .global g=> .pointer (some ⟨g,0,none⟩)
 | .func f=> .func (.func f) #[] #[]
structure Tm (a:Act) (n:Nat) (σ:Nat->Value):Prop where
 defers:a.defers=[]
 size:a.tmps.size=n
 get: ∀t,a.tmps.getD t undef=σ t
theorem Tm.eval {a:Act}{n:Nat} {σ:Nat->Value}(h:Tm a n σ):a.eval=ev σ:=by
 funext x;cases x with
 |tmp t=>exact h.get t
 |_=>rfl
theorem Tm.put {a:Act}{n:Nat} {σ:Nat->Value}(h:Tm a n σ){d:Nat}(hd:d<n)(v:Value):Tm (a.put (some d) v) n (Sf σ d v):=by
 refine ⟨h.defers,by simp [Act.put,h.size],λt=> ?_⟩;show (a.tmps.setIfInBounds d v).getD t undef=bif No t d then v else σ t;by_cases ht:t=d
 ·subst ht;have:t<a.tmps.size:=by rw [h.size];exact hd
  simp [this]
 ·have hb:No t d=false:=by
   cases hq:No t d with
   |false=>rfl
   |true=>exact absurd (sh hq) ht
  rw [hb];have:=h.get t;simp only [abK,aaP (ahV ht),cond_false] at this⊢;exact this
theorem tm3 (v0 v1 v2:Value)(k:Nat):Tm {tmps:= #[v0,v1,v2]++OF k undef,defers:=[]} (k+3) (Sf (Sf (Sf (λ_=>undef) 0 v0) 1 v1) 2 v2):=by
 refine ⟨rfl,by simp [aio],λq=> ?_⟩;by_cases h0:q=0
 ·subst h0;show (#[v0,v1,v2]++OF k undef).getD 0 undef=v0;simp [adr]
 by_cases h1:q=1
 ·subst h1;show (#[v0,v1,v2]++OF k undef).getD 1 undef=v1;simp [adr]
 by_cases h2:q=2
 ·subst h2;show (#[v0,v1,v2]++OF k undef).getD 2 undef=v2;simp [adr]
 have e: ∀{x y:Nat},x≠y->No x y=false:=λ{x y} h=>by
  cases hq:No x y with
  |false=>rfl
  |true=>exact absurd (sh hq) h
 simp only [Sf,e h0,e h1,e h2,cond_false];have h3:3<=q:=by omega
 simp [adr,Array.getElem?_replicate,show¬q<3 by omega];by_cases hk:q-3<k<;>simp [hk]
section
variable {P:Program}{Q:Exit->Act->World->Prop}{ops:Array Oper}{o:Oper}{a:Act} {w w':World}{n:Nat} {σ:Nat->Value}
theorem Tm.step {i d:Nat}{op:Op}{rest:List Nat}{v:Value}(bW:Tm a n σ)(hi:ops[i]? =some o)(ho:bp o d op)(hd:d<n)(cV:(execOp (ev σ) o).run P w= .ok (.value v) w')(h: ∀a',Tm a' n (Sf σ d v)->wpOps P ops Q rest a' w'):wpOps P ops Q (i::rest) a w:=by refine zk hi ho.guard (v:=v) (w':=w') (by rw [bW.eval];exact cV) ?_;rw [ho.dst];exact h _ (bW.put hd v)
theorem cm {d:Nat}{x:Operand}{e:Operand->Value}(ho:bp o d (.move x))(w:World):(execOp e o).run P w= .ok (.value (e x)) w:=by simp [execOp,ho.op]
theorem mf {d:Nat}{x:Operand}{e:Operand->Value}(ho:bp o d (.assign x))(w:World):(execOp e o).run P w= .ok (.value (e x)) w:=by simp [execOp,ho.op]
theorem B5 {d:Nat}{t el:TypeId}{x:Operand}{e:Operand->Value}{ad:Option Addr}{m c:Nat}(ho:bp o d (.call {callee:= .builtin .len,args:= #[x],argTypes:= #[t]})) (hu:P.underlying t=some (.slice el)) (hx:e x= .slice ad m c) (w:World): (execOp e o).run P w= .ok (.value (.int .i64 m)) w:=by simp [execOp,ho.op,resolve,invoke,builtin,hx,Builtin.len_,goInt,run_underlying hu]
theorem X1 {d:Nat}{t el:TypeId}{x:Operand}{e:Operand->Value}{ad:Option Addr}{m c:Nat}(ho:bp o d (.call {callee:= .builtin .cap,args:= #[x],argTypes:= #[t]})) (hu:P.underlying t=some (.slice el)) (hx:e x= .slice ad m c) (w:World): (execOp e o).run P w= .ok (.value (.int .i64 c)) w:=by simp [execOp,ho.op,resolve,invoke,builtin,hx,Builtin.cap_,goInt,run_underlying hu]
theorem Fc {d:Nat}{op:BinOp} {t t':TypeId}{x y:Operand}{e:Operand->Value}{k:IntKind}{p q:Int}{v:Value}(ho:bp o d (.binOp op t x y t'))(hx:e x= .int k p)(hy:e y= .int k q)(hv: ∀w:World,(Go.binOp op t (.int k p) (.int k q)).run P w= .ok v w)(w:World):(execOp e o).run P w= .ok (.value v) w:=by
 have hg:(eqGuard op t x y (.int k p) (.int k q)).run P w= .ok () w:=by cases op<;>rfl
 simp [execOp,ho.op,hx,hy,hg,hv]
theorem B6 {d:Nat} {t t':TypeId}{x y:Operand}{e:Operand->Value}{p q:Int}(ho:bp o d (.binOp .eql t x y t'))(hx:e x= .int .i64 p)(hy:e y= .int .i64 q)(w:World): (execOp e o).run P w= .ok (.value (.bool (decide (p=q)))) w:=Fc ho hx hy (λw=>by simp [Go.binOp,Op.intCmp];rfl) w
theorem Ti {d:Nat} {t t':TypeId}{x y:Operand}{e:Operand->Value}{p q:Int}(ho:bp o d (.binOp .gtr t x y t'))(hx:e x= .int .i64 p)(hy:e y= .int .i64 q)(w:World): (execOp e o).run P w= .ok (.value (.bool (decide (q<p)))) w:=Fc ho hx hy (λw=>by simp [Go.binOp,Op.intCmp]) w
theorem uR {d:Nat} {t t':TypeId}{x y:Operand}{e:Operand->Value}{p q:Nat}(ho:bp o d (.binOp .add t x y t'))(hx:e x= .int .i64 p)(hy:e y= .int .i64 q)(hl:p+q<2^63)(w:World): (execOp e o).run P w= .ok (.value (.int .i64 ((p+q:Nat):Int))) w:=Fc ho hx hy (λw=>by
  have:IntKind.i64.wrap ((p:Int)+(q:Int))=((p+q:Nat):Int):=by rw [afC];omega
  simp [Go.binOp,Op.intArith,this]) w
theorem ac3 {d:Nat} {t t':TypeId}{x y:Operand}{e:Operand->Value}{p q:Nat}(ho:bp o d (.binOp .sub t x y t'))(hx:e x= .int .i64 p)(hy:e y= .int .i64 q)(hl:p<2^63)(hq:q<=p)(w:World): (execOp e o).run P w= .ok (.value (.int .i64 ((p-q:Nat):Int))) w:=Fc ho hx hy (λw=>by
  have:IntKind.i64.wrap ((p:Int)-(q:Int))=((p-q:Nat):Int):=by rw [afC];omega
  simp [Go.binOp,Op.intArith,this]) w
theorem agS {d:Nat}{t:TypeId}{x:Operand}{e:Operand->Value}{b:Bool}(ho:bp o d (.unOp .not t x))(hx:e x= .bool b)(w:World): (execOp e o).run P w= .ok (.value (.bool (!b))) w:=by simp [execOp,ho.op,hx,Op.unary]
theorem Fe {d:Nat}{t el:TypeId}{x y:Operand}{e:Operand->Value}{ad:Option Addr}{m c l size:Nat}{i:TypeInfo}(ho:bp o d (.slice t x (some y) none none))(hu:P.underlying t=some (.slice el))(hi:P.info? el=some i)(hs:i.size=size)(hx:e x= .slice ad m c)(hy:e y= .int .i64 l)(hl:l<=m)(w:World):(execOp e o).run P w= .ok (.value (.slice (if c=l then ad else ad.map (·.add (l *size))) (m-l) (c-l))) w:=by simp [execOp,ho.op,aiK,aje,run_underlying hu,hx,hy,ahw,typeInfo,hi,hs,aip,aiq,asIntOf,hl]
theorem Tj {d:Nat}{t el:TypeId}{x y:Operand}{e:Operand->Value}{ad:Option Addr}{m c l size:Nat}{i:TypeInfo}(ho:bp o d (.slice t x none (some y) none))(hu:P.underlying t=some (.slice el))(hi:P.info? el=some i)(hs:i.size=size)(hx:e x= .slice ad m c)(hy:e y= .int .i64 l)(hl:l<=c)(w:World):(execOp e o).run P w= .ok (.value (.slice ad l c)) w:=by
 have h0: ∀q:Addr,q.add 0=q:=λq=>by obtain ⟨b,o,s⟩:=q;cases s<;>simp [Addr.add]
 have:(if c=0 then ad else ad.map (·.add (0 *size)))=ad:=by cases ad<;>simp [h0]
 simp [execOp,ho.op,aiK,aje,run_underlying hu,hx,hy,ahw,typeInfo,hi,hs,aip,aiq,asIntOf,hl];cases ad<;>simp [h0]
theorem rB {d:Nat}{t el:TypeId}{x y:Operand}{e:Operand->Value}{g m c l size:Nat}{i:TypeInfo}(ho:bp o d (.slice t x (some y) none none))(hu:P.underlying t=some (.slice el))(hi:P.info? el=some i)(hs:i.size=size)(hx:e x= .slice (some ⟨g,0,none⟩) m c)(hy:e y= .int .i64 l)(hl:l<=m)(hc:l<c)(w:World):(execOp e o).run P w= .ok (.value (.slice (some ⟨g,l *size,none⟩) (m-l) (c-l))) w:=by
 rw [Fe ho hu hi hs hx hy hl w];have: ¬c=l:=by omega
 have h0:(⟨g,0,none⟩:Addr).add (l *size)=⟨g,l *size,none⟩:=by have:=agG g 0 (l *size);rwa [aij] at this
 simp [this,h0]
theorem agT {d:Nat}{x y:Operand}{t1 t2:TypeId}{f:FuncId}{e:Operand->Value}{v1 v2 v:Value}(ho:bp o d (.call {callee:= .value (.func f),args:= #[x,y],argTypes:= #[t1,t2]})) (he:e (.func f)= .func (.func f) #[] #[]) (hx:e x=v1) (hy:e y=v2) (h:(callFunc f #[v1,v2]).run P w= .ok (.value v) w'):(execOp e o).run P w= .ok (.value v) w':=by simp [execOp,ho.op,resolve,invoke,builtin,he,hx,hy,Deferred.ofValue,h]
theorem Tk {d:Nat}{x y:Operand}{t1 t2:TypeId}{e:Operand->Value}{v1 v2 v:Value}(ho:bp o d (.call {callee:= .builtin .append,args:= #[x,y],argTypes:= #[t1,t2]})) (hx:e x=v1) (hy:e y=v2) (h:(afH #[t1,t2] o.type #[v1,v2]).run P w= .ok v w'):(execOp e o).run P w= .ok (.value v) w':=by simp [execOp,ho.op,resolve,invoke,builtin,hx,hy,h]
theorem Ff {d:Nat}{x y:Operand}{t1 t2:TypeId}{e:Operand->Value}{v1 v2 v:Value}(ho:bp o d (.call {callee:= .builtin .copy,args:= #[x,y],argTypes:= #[t1,t2]})) (hx:e x=v1) (hy:e y=v2) (h:(abW #[t1,t2] o.type #[v1,v2]).run P w= .ok v w'):(execOp e o).run P w= .ok (.value v) w':=by simp [execOp,ho.op,resolve,invoke,builtin,hx,hy,h]
theorem rX {dT sT ty elem t:TypeId}{g o agU akj ru Ao size k:Nat}{a:Addr}{gV:Array Value}{cs:List Value}{i:TypeInfo}(hu:P.underlying dT=some (.slice elem))(hi:P.info? elem=some i)(hs:i.size=size)(hg:w.heap[g]? =some (.cells gV t (0,0)))(hk:Nat.min ru agU=k)(hn:cs.length=k *size)(AY: ∀(j:Nat) v,cs[j]? =some v->w.cell? (a.add j)=some v)(Qu:o+cs.length<=gV.size)(h1: ∀v∈cs,v.oneCell'=true): (abW #[dT,sT] ty #[.slice (some ⟨g,o,none⟩) agU akj,.slice (some a) ru Ao]).run P w= .ok (goInt k) (w.setRow g (gV.toList.take o++cs++gV.toList.drop (o+cs.length)).toArray):=by have hl:=run_loadCells_list (P:=P) w a cs AY;have jf:=run_storeCells_at P g o t cs 0 gV w hg (by simpa using Qu) h1;simp only [Nat.add_zero] at jf;simp [abW,run_underlying hu,Builtin.lenOf,aif,ahw,typeInfo,hi,hs,hk,<-hn,hl,jf]
def Tl (ops:Array Oper):Nat->Nat->Array Bool->Bool
 |0,i,listed=>(AT .any ops (listed.setIfInBounds i true)).isEmpty&&(AT .any ops listed==[i])
 |k+1,i,listed=>Region.free .any ops listed i&&(AT .any ops listed).contains i&&Tl ops k (i+1) (listed.setIfInBounds i true)
def X2 (ops:Array Oper):Bool:=ahl ops&&Nat.blt 0 ops.size&&Tl ops (ops.size-1) 0 (OF ops.size false)
structure X3 (ops:Array Oper) (k i:Nat) (listed:Array Bool):Prop where
 sel:ahl ops=true
 ord:Tl ops k i listed=true
theorem Tm.draw {N:Act->World->Prop}{i d:Nat}{op:Op}{k:Nat}{listed:Array Bool}{v:Value}(bW:Tm a n σ)(hi:ops[i]? =some o)(ho:bp o d op)(hd:d<n)(hb:X3 ops (k+1) i listed)(cV: ∀w,(execOp (ev σ) o).run P w= .ok (.value v) w)(h: ∀a',Tm a' n (Sf σ d v)->X3 ops k (i+1) (listed.setIfInBounds i true)->wpAny P .any ops (vP N) (k+1) (listed.setIfInBounds i true) a' w):wpAny P .any ops (vP N) (k+2) listed a w:=by obtain ⟨hs,hb⟩:=hb;simp only [Tl,fj] at hb;obtain ⟨⟨h1,h2⟩,h3⟩:=hb;refine wpAny_take hi hs h1 h2 (λc a w hq=>hq.elim) (v:=v) (.inl ⟨by simp [aaK,ho.guard],λw=>by rw [bW.eval];exact cV w⟩) ?_;rw [ho.dst];exact h _ (bW.put hd v) ⟨hs,h3⟩
theorem Tm.last {N:Act->World->Prop}{i d:Nat}{op:Op}{listed:Array Bool}{v:Value}(bW:Tm a n σ)(hi:ops[i]? =some o)(ho:bp o d op)(hd:d<n)(hb:X3 ops 0 i listed)(cV:(execOp (ev σ) o).run P w= .ok (.value v) w')(h: ∀a',Tm a' n (Sf σ d v)->N a' w'):wpAny P .any ops (vP N) 1 listed a w:=by obtain ⟨hs,hb⟩:=hb;simp only [Tl,fj,List.isEmpty_iff,beq_iff_eq] at hb;obtain ⟨h1,h2⟩:=hb;refine wpAny_all h2 (by simp) ?_;intro j hj;simp only [aih] at hj;subst hj;unfold wpOp;simp only [hi,aaK,ho.guard,if_true];left;unfold ahg;rw [bW.eval,cV,agC,ho.dst];exact wpAny_done h1 (h _ (bW.put hd v)) 0
theorem X4 {id k:Nat}(hm:P.follows .mixedOrders=true)(hb:X2 ops=true)(hk:ops.size=k+1)(h:X3 ops k 0 (OF (k+1) false)->wpAny P .any ops (vP λa w=>Q .normal a w) (k+1) (OF (k+1) false) a {w with drawn:=w.drawn+1}): (aji id ops true).wp P Q a w:=by simp only [X2,fj] at hb;rw [hk] at hb;refine Code.wp_mono ?_ (wp_region_any (Q:=vP λa w=>Q .normal a w) hm (by rw [hk];exact h ⟨hb.1.1,hb.2⟩));intro x a' w' hx;cases x<;>first|exact hx|exact hx.elim
theorem Tm.cond {x:Operand}{b:Bool}{A B:Code}(bW:Tm a n σ)(hx:ev σ x= .bool b)(h:(if b then A else B).wp P Q a w):(Code.cond x A B).wp P Q a w:=by refine wp_cond (t:=b) (by rw [bW.eval];exact hx) h
end
end Dn
/-
  slices.Insert of the library, walked. Printed by a program. Conditions: none.
-/
namespace Dn
open Go
def zl (r:Nat->Nat)(o:Nat->Oper)(tail:Code):Code:= .seq (.region (r 0) #[o 0] false) (.seq (.region (r 1) #[o 1,o 2,o 3] false) (.seq (.region (r 2) #[o 4,o 5,o 6] false) (.seq (.seq (.region (r 3) #[o 7,o 8] false) (.cond (.tmp 16) (.seq (.region (r 4) #[o 9,o 10] false) .ret) .skip)) (.seq (.region (r 5) #[o 11,o 12,o 13] false) (.seq (.seq (.region (r 6) #[o 14,o 15,o 16] false) (.cond (.tmp 22) (.seq (.region (r 7) #[o 17,o 18,o 19,o 20] false) .ret) .skip)) (.seq (.seq (.region (r 8) #[o 21,o 22,o 23,o 24,o 25,o 26] false) (.cond (.tmp 31) (.seq (.region (r 9) #[o 27,o 28,o 29,o 30,o 31,o 32,o 33,o 34,o 35,o 36] false) (.seq (.region (r 10) #[o 37,o 38,o 39,o 40,o 41] false) (.seq (.region (r 11) #[o 42,o 43,o 44,o 45,o 46,o 47,o 48,o 49,o 50] true) (.seq (.region (r 12) #[o 51,o 52] false) .ret)))) .skip)) (.seq (.region (r 13) #[o 53,o 54,o 55,o 56,o 57,o 58] false) (.seq (.seq (.region (r 14) #[o 59,o 60,o 61,o 62,o 63,o 64,o 65,o 66] false) (.cond (.tmp 68) (.seq (.region (r 15) #[o 67,o 68,o 69,o 70,o 71,o 72,o 73,o 74,o 75] true) (.seq (.region (r 16) #[o 76,o 77,o 78,o 79,o 80] false) (.seq (.region (r 17) #[o 81,o 82] false) .ret))) .skip)) tail))))))))
structure akk (t ti tb fo:Nat) (o:Nat->Oper):Prop where
 h0:bp (o 0) 6 (.assign (.const (.slice none 0 0)))
 h1:bp (o 1) 10 (.move (.tmp 0))
 h2:bp (o 2) 11 (.move (.tmp 1))
 h3:bp (o 3) 12 (.slice t (.tmp 10) (some (.tmp 11)) none none)
 h4:bp (o 4) 13 (.move (.tmp 2))
 h5:bp (o 5) 14 (.call {callee:= .builtin .len,args:= #[.tmp 13],argTypes:= #[t]})
 h6:bp (o 6) 7 (.assign (.tmp 14))
 h7:bp (o 7) 15 (.move (.tmp 7))
 h8:bp (o 8) 16 (.binOp .eql ti (.tmp 15) (.const (.int .i64 0)) ti)
 h9:bp (o 9) 17 (.move (.tmp 0))
 h10:bp (o 10) 6 (.assign (.tmp 17))
 h11:bp (o 11) 18 (.move (.tmp 0))
 h12:bp (o 12) 19 (.call {callee:= .builtin .len,args:= #[.tmp 18],argTypes:= #[t]})
 h13:bp (o 13) 8 (.assign (.tmp 19))
 h14:bp (o 14) 20 (.move (.tmp 1))
 h15:bp (o 15) 21 (.move (.tmp 8))
 h16:bp (o 16) 22 (.binOp .eql ti (.tmp 20) (.tmp 21) ti)
 h17:bp (o 17) 23 (.move (.tmp 0))
 h18:bp (o 18) 24 (.move (.tmp 2))
 h19:bp (o 19) 25 (.call {callee:= .builtin .append,args:= #[.tmp 23,.tmp 24],argTypes:= #[t,t]})
 h20:bp (o 20) 6 (.assign (.tmp 25))
 h21:bp (o 21) 26 (.move (.tmp 8))
 h22:bp (o 22) 27 (.move (.tmp 7))
 h23:bp (o 23) 28 (.binOp .add ti (.tmp 26) (.tmp 27) ti)
 h24:bp (o 24) 29 (.move (.tmp 0))
 h25:bp (o 25) 30 (.call {callee:= .builtin .cap,args:= #[.tmp 29],argTypes:= #[t]})
 h26:bp (o 26) 31 (.binOp .gtr ti (.tmp 28) (.tmp 30) ti)
 h27:bp (o 27) 32 (.move (.tmp 0))
 h28:bp (o 28) 33 (.move (.tmp 1))
 h29:bp (o 29) 34 (.slice t (.tmp 32) none (some (.tmp 33)) none)
 h30:bp (o 30) 35 (.move (.tmp 8))
 h31:bp (o 31) 36 (.move (.tmp 7))
 h32:bp (o 32) 37 (.binOp .add ti (.tmp 35) (.tmp 36) ti)
 h33:bp (o 33) 38 (.move (.tmp 1))
 h34:bp (o 34) 39 (.binOp .sub ti (.tmp 37) (.tmp 38) ti)
 h35:bp (o 35) 40 (.call {callee:= .builtin .append,args:= #[.tmp 34,.tmp 39],argTypes:= #[t,ti]})
 h36:bp (o 36) 9 (.assign (.tmp 40))
 h37:bp (o 37) 41 (.move (.tmp 9))
 h38:bp (o 38) 42 (.move (.tmp 1))
 h39:bp (o 39) 43 (.slice t (.tmp 41) (some (.tmp 42)) none none)
 h40:bp (o 40) 44 (.move (.tmp 2))
 h41:bp (o 41) 45 (.call {callee:= .builtin .copy,args:= #[.tmp 43,.tmp 44],argTypes:= #[t,t]})
 h42:bp (o 42) 46 (.move (.tmp 9))
 h43:bp (o 43) 47 (.move (.tmp 1))
 h44:bp (o 44) 48 (.move (.tmp 7))
 h45:bp (o 45) 49 (.binOp .add ti (.tmp 47) (.tmp 48) ti)
 h46:bp (o 46) 50 (.slice t (.tmp 46) (some (.tmp 49)) none none)
 h47:bp (o 47) 51 (.move (.tmp 0))
 h48:bp (o 48) 52 (.move (.tmp 1))
 h49:bp (o 49) 53 (.slice t (.tmp 51) (some (.tmp 52)) none none)
 h50:bp (o 50) 54 (.call {callee:= .builtin .copy,args:= #[.tmp 50,.tmp 53],argTypes:= #[t,t]})
 h51:bp (o 51) 55 (.move (.tmp 9))
 h52:bp (o 52) 6 (.assign (.tmp 55))
 h53:bp (o 53) 56 (.move (.tmp 0))
 h54:bp (o 54) 57 (.move (.tmp 8))
 h55:bp (o 55) 58 (.move (.tmp 7))
 h56:bp (o 56) 59 (.binOp .add ti (.tmp 57) (.tmp 58) ti)
 h57:bp (o 57) 60 (.slice t (.tmp 56) none (some (.tmp 59)) none)
 h58:bp (o 58) 0 (.assign (.tmp 60))
 h59:bp (o 59) 61 (.move (.tmp 2))
 h60:bp (o 60) 62 (.move (.tmp 0))
 h61:bp (o 61) 63 (.move (.tmp 1))
 h62:bp (o 62) 64 (.move (.tmp 7))
 h63:bp (o 63) 65 (.binOp .add ti (.tmp 63) (.tmp 64) ti)
 h64:bp (o 64) 66 (.slice t (.tmp 62) (some (.tmp 65)) none none)
 h65:bp (o 65) 67 (.call {callee:= .value (.func fo),args:= #[.tmp 61,.tmp 66],argTypes:= #[t,t]})
 h66:bp (o 66) 68 (.unOp .not tb (.tmp 67))
 h67:bp (o 67) 69 (.move (.tmp 0))
 h68:bp (o 68) 70 (.move (.tmp 1))
 h69:bp (o 69) 71 (.move (.tmp 7))
 h70:bp (o 70) 72 (.binOp .add ti (.tmp 70) (.tmp 71) ti)
 h71:bp (o 71) 73 (.slice t (.tmp 69) (some (.tmp 72)) none none)
 h72:bp (o 72) 74 (.move (.tmp 0))
 h73:bp (o 73) 75 (.move (.tmp 1))
 h74:bp (o 74) 76 (.slice t (.tmp 74) (some (.tmp 75)) none none)
 h75:bp (o 75) 77 (.call {callee:= .builtin .copy,args:= #[.tmp 73,.tmp 76],argTypes:= #[t,t]})
 h76:bp (o 76) 78 (.move (.tmp 0))
 h77:bp (o 77) 79 (.move (.tmp 1))
 h78:bp (o 78) 80 (.slice t (.tmp 78) (some (.tmp 79)) none none)
 h79:bp (o 79) 81 (.move (.tmp 2))
 h80:bp (o 80) 82 (.call {callee:= .builtin .copy,args:= #[.tmp 80,.tmp 81],argTypes:= #[t,t]})
 h81:bp (o 81) 83 (.move (.tmp 0))
 h82:bp (o 82) 6 (.assign (.tmp 83))
 d11:X2 #[o 42,o 43,o 44,o 45,o 46,o 47,o 48,o 49,o 50]=true
 d15:X2 #[o 67,o 68,o 69,o 70,o 71,o 72,o 73,o 74,o 75]=true
structure OX (P:Program) (f t ti tb el fo:Nat) (fn:Func) (r:Nat->Nat) (o:Nat->Oper) (tail:Code):Prop where
 pos:P.funcs[f]? =some fn
 name:(fn.name== "runtime.NumGoroutine")=false
 tmps:fn.ntmps=95
 res:fn.results= #[.tmp 6]
 body:fn.body=some (zl r o tail)
 ops:akk t ti tb fo o
 mix:P.follows .mixedOrders=true
 OY:P.underlying t=some (.slice el)
section
variable {P:Program}{f t ti tb el fo:Nat}{fn:Func}{r:Nat->Nat}{o:Nat->Oper}{tail:Code}{ie:TypeInfo}{size n m c c2 i g g2:Nat}{ad:Option Addr}{w:World}
theorem QY {a:Act}{w:World} {σ:Nat->Value}{R:Ending->World->Prop}{v:Value}(hr:fn.results= #[.tmp 6])(bW:Tm a 95 σ)(h6:σ 6=v)(h:R (.returned v) w):bodyPost P fn R .ret a w:=by
 refine ⟨bW.defers,v,?_,h⟩;have h2:a.tmps[6]?.getD undef=v:=by have:=bW.get 6;rw [h6] at this;simpa using this
 simp [results,hr,h2]
theorem ag1 (hf:OX P f t ti tb el fo fn r o tail)(ED:P.info? el=some ie)(IZ:ie.size=size)(hm:0<m)(hn:n<=c)(hc:c<2^63)(hnm:n+m<2^63)(hi:i=n){v:Value}{w1:World}(cV: ∀ty,(afH #[t,t] ty #[.slice ad n c,.slice (some ⟨g2,0,none⟩) m c2]).run P w= .ok v w1) :Calls P f #[.slice ad n c,.int .i64 ((i:Nat):Int),.slice (some ⟨g2,0,none⟩) m c2] w λx w'=>x= .returned v/\w'=w1:=by
 refine calls_of_wp hf.pos hf.body ?_;rw [hf.tmps];have key: ∀a:Act,Tm a 95 (Sf (Sf (Sf (λ_=>undef) 0 (.slice ad n c)) 1 (.int .i64 ((i:Nat):Int))) 2 (.slice (some ⟨g2,0,none⟩) m c2))->(zl r o tail).wp P (bodyPost P fn λx w'=>x= .returned v/\w'=w1) a w:=by intro a bW;unfold zl;refine wp_seq (wp_region ?_);rw [show IS (#[o 0]:Array Oper).size=[0] from rfl];refine bW.step (v:= .slice none 0 0) rfl hf.ops.h0 (by decide) (mf hf.ops.h0 _) (λa bW=> ?_);refine wp_seq (wp_region ?_);rw [show IS (#[o 1,o 2,o 3]:Array Oper).size=[0,1,2] from rfl];refine bW.step (v:= .slice ad n c) rfl hf.ops.h1 (by decide) (cm hf.ops.h1 _) (λa bW=> ?_);refine bW.step (v:= .int .i64 ((i:Nat):Int)) rfl hf.ops.h2 (by decide) (cm hf.ops.h2 _) (λa bW=> ?_);refine bW.step (v:= .slice (if c=i then ad else (ad:Option Addr).map (·.add (i *size))) (n-i) (c-i)) rfl hf.ops.h3 (by decide) (Fe hf.ops.h3 hf.OY ED IZ rfl rfl (by omega) _) (λa bW=> ?_);refine wp_seq (wp_region ?_);rw [show IS (#[o 4,o 5,o 6]:Array Oper).size=[0,1,2] from rfl];refine bW.step (v:= .slice (some ⟨g2,0,none⟩) m c2) rfl hf.ops.h4 (by decide) (cm hf.ops.h4 _) (λa bW=> ?_);refine bW.step (v:= .int .i64 ((m:Nat):Int)) rfl hf.ops.h5 (by decide) (B5 hf.ops.h5 hf.OY rfl _) (λa bW=> ?_);refine bW.step (v:= .int .i64 ((m:Nat):Int)) rfl hf.ops.h6 (by decide) (mf hf.ops.h6 _) (λa bW=> ?_);refine wp_seq ?_;refine wp_seq (wp_region ?_);rw [show IS (#[o 7,o 8]:Array Oper).size=[0,1] from rfl];refine bW.step (v:= .int .i64 ((m:Nat):Int)) rfl hf.ops.h7 (by decide) (cm hf.ops.h7 _) (λa bW=> ?_);refine bW.step (v:= .bool (decide (((m:Nat):Int)=((0:Nat):Int)))) rfl hf.ops.h8 (by decide) (B6 hf.ops.h8 rfl rfl _) (λa bW=> ?_);refine bW.cond (b:=false) (by show afJ (decide (((m:Nat):Int)=((0:Nat):Int)))=_;rw [decide_eq_false (by omega)]) ?_;simp only [aaO,if_false];refine wp_skip ?_;refine wp_seq (wp_region ?_);rw [show IS (#[o 11,o 12,o 13]:Array Oper).size=[0,1,2] from rfl];refine bW.step (v:= .slice ad n c) rfl hf.ops.h11 (by decide) (cm hf.ops.h11 _) (λa bW=> ?_);refine bW.step (v:= .int .i64 ((n:Nat):Int)) rfl hf.ops.h12 (by decide) (B5 hf.ops.h12 hf.OY rfl _) (λa bW=> ?_);refine bW.step (v:= .int .i64 ((n:Nat):Int)) rfl hf.ops.h13 (by decide) (mf hf.ops.h13 _) (λa bW=> ?_);refine wp_seq ?_;refine wp_seq (wp_region ?_);rw [show IS (#[o 14,o 15,o 16]:Array Oper).size=[0,1,2] from rfl];refine bW.step (v:= .int .i64 ((i:Nat):Int)) rfl hf.ops.h14 (by decide) (cm hf.ops.h14 _) (λa bW=> ?_);refine bW.step (v:= .int .i64 ((n:Nat):Int)) rfl hf.ops.h15 (by decide) (cm hf.ops.h15 _) (λa bW=> ?_);refine bW.step (v:= .bool (decide (((i:Nat):Int)=((n:Nat):Int)))) rfl hf.ops.h16 (by decide) (B6 hf.ops.h16 rfl rfl _) (λa bW=> ?_);refine bW.cond (b:=true) (by show afJ (decide (((i:Nat):Int)=((n:Nat):Int)))=_;rw [decide_eq_true (by omega)]) ?_;simp only [if_true];refine wp_seq (wp_region ?_);rw [show IS (#[o 17,o 18,o 19,o 20]:Array Oper).size=[0,1,2,3] from rfl];refine bW.step (v:= .slice ad n c) rfl hf.ops.h17 (by decide) (cm hf.ops.h17 _) (λa bW=> ?_);refine bW.step (v:= .slice (some ⟨g2,0,none⟩) m c2) rfl hf.ops.h18 (by decide) (cm hf.ops.h18 _) (λa bW=> ?_);refine bW.step (v:=v) rfl hf.ops.h19 (by decide) (Tk hf.ops.h19 rfl rfl (cV _)) (λa bW=> ?_);refine bW.step (v:=v) rfl hf.ops.h20 (by decide) (mf hf.ops.h20 _) (λa bW=> ?_);refine wp_ret ?_;show bodyPost P fn (λx wq=>x= .returned (v)/\wq=w1) .ret a w1;refine QY hf.res bW (v:=v) rfl ?_;exact ⟨rfl,rfl⟩
 exact key _ (tm3 _ _ _ 92)
theorem ac4 (hf:OX P f t ti tb el fo fn r o tail)(ED:P.info? el=some ie)(IZ:ie.size=size)(hm:0<m)(hn:n<=c)(hc:c<2^63)(hnm:n+m<2^63)(hi:i<n)(wj:c<n+m){g9 G:Nat}{v1 v2:Value}{w1 w2 w3:World}(hG:n+m<=G)(hA: ∀ty,(afH #[t,ti] ty #[.slice (some ⟨g,0,none⟩) i c,.int .i64 ((n+m-i:Nat):Int)]).run P w= .ok (.slice (some ⟨g9,0,none⟩) (n+m) G) w1)(hB: ∀ty,(abW #[t,t] ty #[.slice (some ⟨g9,i *size,none⟩) (n+m-i) (G-i),.slice (some ⟨g2,0,none⟩) m c2]).run P w1= .ok v1 w2)(hC: ∀ty,(abW #[t,t] ty #[.slice (some ⟨g9,(i+m) *size,none⟩) (n+m-(i+m)) (G-(i+m)),.slice (some ⟨g,i *size,none⟩) (n-i) (c-i)]).run P {w2 with drawn:=w2.drawn+1}= .ok v2 w3) :Calls P f #[.slice (some ⟨g,0,none⟩) n c,.int .i64 ((i:Nat):Int),.slice (some ⟨g2,0,none⟩) m c2] w λx w'=>x= .returned (.slice (some ⟨g9,0,none⟩) (n+m) G)/\w'=w3:=by
 refine calls_of_wp hf.pos hf.body ?_;rw [hf.tmps];have key: ∀a:Act,Tm a 95 (Sf (Sf (Sf (λ_=>undef) 0 (.slice (some ⟨g,0,none⟩) n c)) 1 (.int .i64 ((i:Nat):Int))) 2 (.slice (some ⟨g2,0,none⟩) m c2))->(zl r o tail).wp P (bodyPost P fn λx w'=>x= .returned (.slice (some ⟨g9,0,none⟩) (n+m) G)/\w'=w3) a w:=by intro a bW;unfold zl;refine wp_seq (wp_region ?_);rw [show IS (#[o 0]:Array Oper).size=[0] from rfl];refine bW.step (v:= .slice none 0 0) rfl hf.ops.h0 (by decide) (mf hf.ops.h0 _) (λa bW=> ?_);refine wp_seq (wp_region ?_);rw [show IS (#[o 1,o 2,o 3]:Array Oper).size=[0,1,2] from rfl];refine bW.step (v:= .slice (some ⟨g,0,none⟩) n c) rfl hf.ops.h1 (by decide) (cm hf.ops.h1 _) (λa bW=> ?_);refine bW.step (v:= .int .i64 ((i:Nat):Int)) rfl hf.ops.h2 (by decide) (cm hf.ops.h2 _) (λa bW=> ?_);refine bW.step (v:= .slice (if c=i then (some ⟨g,0,none⟩) else ((some ⟨g,0,none⟩):Option Addr).map (·.add (i *size))) (n-i) (c-i)) rfl hf.ops.h3 (by decide) (Fe hf.ops.h3 hf.OY ED IZ rfl rfl (by omega) _) (λa bW=> ?_);refine wp_seq (wp_region ?_);rw [show IS (#[o 4,o 5,o 6]:Array Oper).size=[0,1,2] from rfl];refine bW.step (v:= .slice (some ⟨g2,0,none⟩) m c2) rfl hf.ops.h4 (by decide) (cm hf.ops.h4 _) (λa bW=> ?_);refine bW.step (v:= .int .i64 ((m:Nat):Int)) rfl hf.ops.h5 (by decide) (B5 hf.ops.h5 hf.OY rfl _) (λa bW=> ?_);refine bW.step (v:= .int .i64 ((m:Nat):Int)) rfl hf.ops.h6 (by decide) (mf hf.ops.h6 _) (λa bW=> ?_);refine wp_seq ?_;refine wp_seq (wp_region ?_);rw [show IS (#[o 7,o 8]:Array Oper).size=[0,1] from rfl];refine bW.step (v:= .int .i64 ((m:Nat):Int)) rfl hf.ops.h7 (by decide) (cm hf.ops.h7 _) (λa bW=> ?_);refine bW.step (v:= .bool (decide (((m:Nat):Int)=((0:Nat):Int)))) rfl hf.ops.h8 (by decide) (B6 hf.ops.h8 rfl rfl _) (λa bW=> ?_);refine bW.cond (b:=false) (by show afJ (decide (((m:Nat):Int)=((0:Nat):Int)))=_;rw [decide_eq_false (by omega)]) ?_;simp only [aaO,if_false];refine wp_skip ?_;refine wp_seq (wp_region ?_);rw [show IS (#[o 11,o 12,o 13]:Array Oper).size=[0,1,2] from rfl];refine bW.step (v:= .slice (some ⟨g,0,none⟩) n c) rfl hf.ops.h11 (by decide) (cm hf.ops.h11 _) (λa bW=> ?_);refine bW.step (v:= .int .i64 ((n:Nat):Int)) rfl hf.ops.h12 (by decide) (B5 hf.ops.h12 hf.OY rfl _) (λa bW=> ?_);refine bW.step (v:= .int .i64 ((n:Nat):Int)) rfl hf.ops.h13 (by decide) (mf hf.ops.h13 _) (λa bW=> ?_);refine wp_seq ?_;refine wp_seq (wp_region ?_);rw [show IS (#[o 14,o 15,o 16]:Array Oper).size=[0,1,2] from rfl];refine bW.step (v:= .int .i64 ((i:Nat):Int)) rfl hf.ops.h14 (by decide) (cm hf.ops.h14 _) (λa bW=> ?_);refine bW.step (v:= .int .i64 ((n:Nat):Int)) rfl hf.ops.h15 (by decide) (cm hf.ops.h15 _) (λa bW=> ?_);refine bW.step (v:= .bool (decide (((i:Nat):Int)=((n:Nat):Int)))) rfl hf.ops.h16 (by decide) (B6 hf.ops.h16 rfl rfl _) (λa bW=> ?_);refine bW.cond (b:=false) (by show afJ (decide (((i:Nat):Int)=((n:Nat):Int)))=_;rw [decide_eq_false (by omega)]) ?_;simp only [aaO,if_false];refine wp_skip ?_;refine wp_seq ?_;refine wp_seq (wp_region ?_);rw [show IS (#[o 21,o 22,o 23,o 24,o 25,o 26]:Array Oper).size=[0,1,2,3,4,5] from rfl];refine bW.step (v:= .int .i64 ((n:Nat):Int)) rfl hf.ops.h21 (by decide) (cm hf.ops.h21 _) (λa bW=> ?_);refine bW.step (v:= .int .i64 ((m:Nat):Int)) rfl hf.ops.h22 (by decide) (cm hf.ops.h22 _) (λa bW=> ?_);refine bW.step (v:= .int .i64 ((n+m:Nat):Int)) rfl hf.ops.h23 (by decide) (uR hf.ops.h23 rfl rfl (by omega) _) (λa bW=> ?_);refine bW.step (v:= .slice (some ⟨g,0,none⟩) n c) rfl hf.ops.h24 (by decide) (cm hf.ops.h24 _) (λa bW=> ?_);refine bW.step (v:= .int .i64 ((c:Nat):Int)) rfl hf.ops.h25 (by decide) (X1 hf.ops.h25 hf.OY rfl _) (λa bW=> ?_);refine bW.step (v:= .bool (decide (((c:Nat):Int)<(((n+m):Nat):Int)))) rfl hf.ops.h26 (by decide) (Ti hf.ops.h26 rfl rfl _) (λa bW=> ?_);refine bW.cond (b:=true) (by show afJ (decide (((c:Nat):Int)<((n+m:Nat):Int)))=_;rw [decide_eq_true (by omega)]) ?_;simp only [if_true];refine wp_seq (wp_region ?_);rw [show IS (#[o 27,o 28,o 29,o 30,o 31,o 32,o 33,o 34,o 35,o 36]:Array Oper).size=[0,1,2,3,4,5,6,7,8,9] from rfl];refine bW.step (v:= .slice (some ⟨g,0,none⟩) n c) rfl hf.ops.h27 (by decide) (cm hf.ops.h27 _) (λa bW=> ?_);refine bW.step (v:= .int .i64 ((i:Nat):Int)) rfl hf.ops.h28 (by decide) (cm hf.ops.h28 _) (λa bW=> ?_);refine bW.step (v:= .slice (some ⟨g,0,none⟩) i c) rfl hf.ops.h29 (by decide) (Tj hf.ops.h29 hf.OY ED IZ rfl rfl (by omega) _) (λa bW=> ?_);refine bW.step (v:= .int .i64 ((n:Nat):Int)) rfl hf.ops.h30 (by decide) (cm hf.ops.h30 _) (λa bW=> ?_);refine bW.step (v:= .int .i64 ((m:Nat):Int)) rfl hf.ops.h31 (by decide) (cm hf.ops.h31 _) (λa bW=> ?_);refine bW.step (v:= .int .i64 ((n+m:Nat):Int)) rfl hf.ops.h32 (by decide) (uR hf.ops.h32 rfl rfl (by omega) _) (λa bW=> ?_);refine bW.step (v:= .int .i64 ((i:Nat):Int)) rfl hf.ops.h33 (by decide) (cm hf.ops.h33 _) (λa bW=> ?_);refine bW.step (v:= .int .i64 (((n+m)-i:Nat):Int)) rfl hf.ops.h34 (by decide) (ac3 hf.ops.h34 rfl rfl (by omega) (by omega) _) (λa bW=> ?_);refine bW.step (v:= .slice (some ⟨g9,0,none⟩) (n+m) G) rfl hf.ops.h35 (by decide) (Tk hf.ops.h35 rfl rfl (hA _)) (λa bW=> ?_);refine bW.step (v:= .slice (some ⟨g9,0,none⟩) (n+m) G) rfl hf.ops.h36 (by decide) (mf hf.ops.h36 _) (λa bW=> ?_);refine wp_seq (wp_region ?_);rw [show IS (#[o 37,o 38,o 39,o 40,o 41]:Array Oper).size=[0,1,2,3,4] from rfl];refine bW.step (v:= .slice (some ⟨g9,0,none⟩) (n+m) G) rfl hf.ops.h37 (by decide) (cm hf.ops.h37 _) (λa bW=> ?_);refine bW.step (v:= .int .i64 ((i:Nat):Int)) rfl hf.ops.h38 (by decide) (cm hf.ops.h38 _) (λa bW=> ?_);refine bW.step (v:= .slice (some ⟨g9,i *size,none⟩) (n+m-i) (G-i)) rfl hf.ops.h39 (by decide) (rB hf.ops.h39 hf.OY ED IZ rfl rfl (by omega) (by omega) _) (λa bW=> ?_);refine bW.step (v:= .slice (some ⟨g2,0,none⟩) m c2) rfl hf.ops.h40 (by decide) (cm hf.ops.h40 _) (λa bW=> ?_);refine bW.step (v:=v1) rfl hf.ops.h41 (by decide) (Ff hf.ops.h41 rfl rfl (hB _)) (λa bW=> ?_);refine wp_seq (X4 hf.mix hf.ops.d11 (k:=8) rfl λmO=> ?_);refine bW.draw (v:= .slice (some ⟨g9,0,none⟩) (n+m) G) rfl hf.ops.h42 (by decide) mO (λw=>cm hf.ops.h42 _) (λa bW mO=> ?_);refine bW.draw (v:= .int .i64 ((i:Nat):Int)) rfl hf.ops.h43 (by decide) mO (λw=>cm hf.ops.h43 _) (λa bW mO=> ?_);refine bW.draw (v:= .int .i64 ((m:Nat):Int)) rfl hf.ops.h44 (by decide) mO (λw=>cm hf.ops.h44 _) (λa bW mO=> ?_);refine bW.draw (v:= .int .i64 ((i+m:Nat):Int)) rfl hf.ops.h45 (by decide) mO (λw=>uR hf.ops.h45 rfl rfl (by omega) _) (λa bW mO=> ?_);refine bW.draw (v:= .slice (some ⟨g9,(i+m) *size,none⟩) (n+m-(i+m)) (G-(i+m))) rfl hf.ops.h46 (by decide) mO (λw=>rB hf.ops.h46 hf.OY ED IZ rfl rfl (by omega) (by omega) _) (λa bW mO=> ?_);refine bW.draw (v:= .slice (some ⟨g,0,none⟩) n c) rfl hf.ops.h47 (by decide) mO (λw=>cm hf.ops.h47 _) (λa bW mO=> ?_);refine bW.draw (v:= .int .i64 ((i:Nat):Int)) rfl hf.ops.h48 (by decide) mO (λw=>cm hf.ops.h48 _) (λa bW mO=> ?_);refine bW.draw (v:= .slice (some ⟨g,i *size,none⟩) (n-i) (c-i)) rfl hf.ops.h49 (by decide) mO (λw=>rB hf.ops.h49 hf.OY ED IZ rfl rfl (by omega) (by omega) _) (λa bW mO=> ?_);refine bW.last (v:=v2) rfl hf.ops.h50 (by decide) mO (Ff hf.ops.h50 rfl rfl (hC _)) (λa bW=> ?_);refine wp_seq (wp_region ?_);rw [show IS (#[o 51,o 52]:Array Oper).size=[0,1] from rfl];refine bW.step (v:= .slice (some ⟨g9,0,none⟩) (n+m) G) rfl hf.ops.h51 (by decide) (cm hf.ops.h51 _) (λa bW=> ?_);refine bW.step (v:= .slice (some ⟨g9,0,none⟩) (n+m) G) rfl hf.ops.h52 (by decide) (mf hf.ops.h52 _) (λa bW=> ?_);refine wp_ret ?_;show bodyPost P fn (λx wq=>x= .returned (.slice (some ⟨g9,0,none⟩) (n+m) G)/\wq=w3) .ret a w3;refine QY hf.res bW (v:= .slice (some ⟨g9,0,none⟩) (n+m) G) rfl ?_;exact ⟨rfl,rfl⟩
 exact key _ (tm3 _ _ _ 92)
theorem ac5 (hf:OX P f t ti tb el fo fn r o tail)(ED:P.info? el=some ie)(IZ:ie.size=size)(hm:0<m)(hn:n<=c)(hc:c<2^63)(hnm:n+m<2^63)(hi:i<n)(wj:n+m<=c){v1 v2:Value}{w1 w2:World}(hO:(callFunc fo #[.slice (some ⟨g2,0,none⟩) m c2,.slice (some ⟨g,(i+m) *size,none⟩) (n+m-(i+m)) (c-(i+m))]).run P w= .ok (.value (.bool false)) w)(hB: ∀ty,(abW #[t,t] ty #[.slice (some ⟨g,(i+m) *size,none⟩) (n+m-(i+m)) (c-(i+m)),.slice (some ⟨g,i *size,none⟩) (n+m-i) (c-i)]).run P {w with drawn:=w.drawn+1}= .ok v1 w1) (hC: ∀ty,(abW #[t,t] ty #[.slice (some ⟨g,i *size,none⟩) (n+m-i) (c-i),.slice (some ⟨g2,0,none⟩) m c2]).run P w1= .ok v2 w2) :Calls P f #[.slice (some ⟨g,0,none⟩) n c,.int .i64 ((i:Nat):Int),.slice (some ⟨g2,0,none⟩) m c2] w λx w'=>x= .returned (.slice (some ⟨g,0,none⟩) (n+m) c)/\w'=w2:=by
 refine calls_of_wp hf.pos hf.body ?_;rw [hf.tmps];have key: ∀a:Act,Tm a 95 (Sf (Sf (Sf (λ_=>undef) 0 (.slice (some ⟨g,0,none⟩) n c)) 1 (.int .i64 ((i:Nat):Int))) 2 (.slice (some ⟨g2,0,none⟩) m c2))->(zl r o tail).wp P (bodyPost P fn λx w'=>x= .returned (.slice (some ⟨g,0,none⟩) (n+m) c)/\w'=w2) a w:=by intro a bW;unfold zl;refine wp_seq (wp_region ?_);rw [show IS (#[o 0]:Array Oper).size=[0] from rfl];refine bW.step (v:= .slice none 0 0) rfl hf.ops.h0 (by decide) (mf hf.ops.h0 _) (λa bW=> ?_);refine wp_seq (wp_region ?_);rw [show IS (#[o 1,o 2,o 3]:Array Oper).size=[0,1,2] from rfl];refine bW.step (v:= .slice (some ⟨g,0,none⟩) n c) rfl hf.ops.h1 (by decide) (cm hf.ops.h1 _) (λa bW=> ?_);refine bW.step (v:= .int .i64 ((i:Nat):Int)) rfl hf.ops.h2 (by decide) (cm hf.ops.h2 _) (λa bW=> ?_);refine bW.step (v:= .slice (if c=i then (some ⟨g,0,none⟩) else ((some ⟨g,0,none⟩):Option Addr).map (·.add (i *size))) (n-i) (c-i)) rfl hf.ops.h3 (by decide) (Fe hf.ops.h3 hf.OY ED IZ rfl rfl (by omega) _) (λa bW=> ?_);refine wp_seq (wp_region ?_);rw [show IS (#[o 4,o 5,o 6]:Array Oper).size=[0,1,2] from rfl];refine bW.step (v:= .slice (some ⟨g2,0,none⟩) m c2) rfl hf.ops.h4 (by decide) (cm hf.ops.h4 _) (λa bW=> ?_);refine bW.step (v:= .int .i64 ((m:Nat):Int)) rfl hf.ops.h5 (by decide) (B5 hf.ops.h5 hf.OY rfl _) (λa bW=> ?_);refine bW.step (v:= .int .i64 ((m:Nat):Int)) rfl hf.ops.h6 (by decide) (mf hf.ops.h6 _) (λa bW=> ?_);refine wp_seq ?_;refine wp_seq (wp_region ?_);rw [show IS (#[o 7,o 8]:Array Oper).size=[0,1] from rfl];refine bW.step (v:= .int .i64 ((m:Nat):Int)) rfl hf.ops.h7 (by decide) (cm hf.ops.h7 _) (λa bW=> ?_);refine bW.step (v:= .bool (decide (((m:Nat):Int)=((0:Nat):Int)))) rfl hf.ops.h8 (by decide) (B6 hf.ops.h8 rfl rfl _) (λa bW=> ?_);refine bW.cond (b:=false) (by show afJ (decide (((m:Nat):Int)=((0:Nat):Int)))=_;rw [decide_eq_false (by omega)]) ?_;simp only [aaO,if_false];refine wp_skip ?_;refine wp_seq (wp_region ?_);rw [show IS (#[o 11,o 12,o 13]:Array Oper).size=[0,1,2] from rfl];refine bW.step (v:= .slice (some ⟨g,0,none⟩) n c) rfl hf.ops.h11 (by decide) (cm hf.ops.h11 _) (λa bW=> ?_);refine bW.step (v:= .int .i64 ((n:Nat):Int)) rfl hf.ops.h12 (by decide) (B5 hf.ops.h12 hf.OY rfl _) (λa bW=> ?_);refine bW.step (v:= .int .i64 ((n:Nat):Int)) rfl hf.ops.h13 (by decide) (mf hf.ops.h13 _) (λa bW=> ?_);refine wp_seq ?_;refine wp_seq (wp_region ?_);rw [show IS (#[o 14,o 15,o 16]:Array Oper).size=[0,1,2] from rfl];refine bW.step (v:= .int .i64 ((i:Nat):Int)) rfl hf.ops.h14 (by decide) (cm hf.ops.h14 _) (λa bW=> ?_);refine bW.step (v:= .int .i64 ((n:Nat):Int)) rfl hf.ops.h15 (by decide) (cm hf.ops.h15 _) (λa bW=> ?_);refine bW.step (v:= .bool (decide (((i:Nat):Int)=((n:Nat):Int)))) rfl hf.ops.h16 (by decide) (B6 hf.ops.h16 rfl rfl _) (λa bW=> ?_);refine bW.cond (b:=false) (by show afJ (decide (((i:Nat):Int)=((n:Nat):Int)))=_;rw [decide_eq_false (by omega)]) ?_;simp only [aaO,if_false];refine wp_skip ?_;refine wp_seq ?_;refine wp_seq (wp_region ?_);rw [show IS (#[o 21,o 22,o 23,o 24,o 25,o 26]:Array Oper).size=[0,1,2,3,4,5] from rfl];refine bW.step (v:= .int .i64 ((n:Nat):Int)) rfl hf.ops.h21 (by decide) (cm hf.ops.h21 _) (λa bW=> ?_);refine bW.step (v:= .int .i64 ((m:Nat):Int)) rfl hf.ops.h22 (by decide) (cm hf.ops.h22 _) (λa bW=> ?_);refine bW.step (v:= .int .i64 ((n+m:Nat):Int)) rfl hf.ops.h23 (by decide) (uR hf.ops.h23 rfl rfl (by omega) _) (λa bW=> ?_);refine bW.step (v:= .slice (some ⟨g,0,none⟩) n c) rfl hf.ops.h24 (by decide) (cm hf.ops.h24 _) (λa bW=> ?_);refine bW.step (v:= .int .i64 ((c:Nat):Int)) rfl hf.ops.h25 (by decide) (X1 hf.ops.h25 hf.OY rfl _) (λa bW=> ?_);refine bW.step (v:= .bool (decide (((c:Nat):Int)<(((n+m):Nat):Int)))) rfl hf.ops.h26 (by decide) (Ti hf.ops.h26 rfl rfl _) (λa bW=> ?_);refine bW.cond (b:=false) (by show afJ (decide (((c:Nat):Int)<((n+m:Nat):Int)))=_;rw [decide_eq_false (by omega)]) ?_;simp only [aaO,if_false];refine wp_skip ?_;refine wp_seq (wp_region ?_);rw [show IS (#[o 53,o 54,o 55,o 56,o 57,o 58]:Array Oper).size=[0,1,2,3,4,5] from rfl];refine bW.step (v:= .slice (some ⟨g,0,none⟩) n c) rfl hf.ops.h53 (by decide) (cm hf.ops.h53 _) (λa bW=> ?_);refine bW.step (v:= .int .i64 ((n:Nat):Int)) rfl hf.ops.h54 (by decide) (cm hf.ops.h54 _) (λa bW=> ?_);refine bW.step (v:= .int .i64 ((m:Nat):Int)) rfl hf.ops.h55 (by decide) (cm hf.ops.h55 _) (λa bW=> ?_);refine bW.step (v:= .int .i64 ((n+m:Nat):Int)) rfl hf.ops.h56 (by decide) (uR hf.ops.h56 rfl rfl (by omega) _) (λa bW=> ?_);refine bW.step (v:= .slice (some ⟨g,0,none⟩) (n+m) c) rfl hf.ops.h57 (by decide) (Tj hf.ops.h57 hf.OY ED IZ rfl rfl (by omega) _) (λa bW=> ?_);refine bW.step (v:= .slice (some ⟨g,0,none⟩) (n+m) c) rfl hf.ops.h58 (by decide) (mf hf.ops.h58 _) (λa bW=> ?_);refine wp_seq ?_;refine wp_seq (wp_region ?_);rw [show IS (#[o 59,o 60,o 61,o 62,o 63,o 64,o 65,o 66]:Array Oper).size=[0,1,2,3,4,5,6,7] from rfl];refine bW.step (v:= .slice (some ⟨g2,0,none⟩) m c2) rfl hf.ops.h59 (by decide) (cm hf.ops.h59 _) (λa bW=> ?_);refine bW.step (v:= .slice (some ⟨g,0,none⟩) (n+m) c) rfl hf.ops.h60 (by decide) (cm hf.ops.h60 _) (λa bW=> ?_);refine bW.step (v:= .int .i64 ((i:Nat):Int)) rfl hf.ops.h61 (by decide) (cm hf.ops.h61 _) (λa bW=> ?_);refine bW.step (v:= .int .i64 ((m:Nat):Int)) rfl hf.ops.h62 (by decide) (cm hf.ops.h62 _) (λa bW=> ?_);refine bW.step (v:= .int .i64 ((i+m:Nat):Int)) rfl hf.ops.h63 (by decide) (uR hf.ops.h63 rfl rfl (by omega) _) (λa bW=> ?_);refine bW.step (v:= .slice (some ⟨g,(i+m) *size,none⟩) (n+m-(i+m)) (c-(i+m))) rfl hf.ops.h64 (by decide) (rB hf.ops.h64 hf.OY ED IZ rfl rfl (by omega) (by omega) _) (λa bW=> ?_);refine bW.step (v:= .bool false) rfl hf.ops.h65 (by decide) (agT hf.ops.h65 rfl rfl rfl hO) (λa bW=> ?_);refine bW.step (v:= .bool (!false)) rfl hf.ops.h66 (by decide) (agS hf.ops.h66 rfl _) (λa bW=> ?_);refine bW.cond (b:=true) rfl ?_;simp only [if_true];refine wp_seq (X4 hf.mix hf.ops.d15 (k:=8) rfl λmO=> ?_);refine bW.draw (v:= .slice (some ⟨g,0,none⟩) (n+m) c) rfl hf.ops.h67 (by decide) mO (λw=>cm hf.ops.h67 _) (λa bW mO=> ?_);refine bW.draw (v:= .int .i64 ((i:Nat):Int)) rfl hf.ops.h68 (by decide) mO (λw=>cm hf.ops.h68 _) (λa bW mO=> ?_);refine bW.draw (v:= .int .i64 ((m:Nat):Int)) rfl hf.ops.h69 (by decide) mO (λw=>cm hf.ops.h69 _) (λa bW mO=> ?_);refine bW.draw (v:= .int .i64 ((i+m:Nat):Int)) rfl hf.ops.h70 (by decide) mO (λw=>uR hf.ops.h70 rfl rfl (by omega) _) (λa bW mO=> ?_);refine bW.draw (v:= .slice (some ⟨g,(i+m) *size,none⟩) (n+m-(i+m)) (c-(i+m))) rfl hf.ops.h71 (by decide) mO (λw=>rB hf.ops.h71 hf.OY ED IZ rfl rfl (by omega) (by omega) _) (λa bW mO=> ?_);refine bW.draw (v:= .slice (some ⟨g,0,none⟩) (n+m) c) rfl hf.ops.h72 (by decide) mO (λw=>cm hf.ops.h72 _) (λa bW mO=> ?_);refine bW.draw (v:= .int .i64 ((i:Nat):Int)) rfl hf.ops.h73 (by decide) mO (λw=>cm hf.ops.h73 _) (λa bW mO=> ?_);refine bW.draw (v:= .slice (some ⟨g,i *size,none⟩) (n+m-i) (c-i)) rfl hf.ops.h74 (by decide) mO (λw=>rB hf.ops.h74 hf.OY ED IZ rfl rfl (by omega) (by omega) _) (λa bW mO=> ?_);refine bW.last (v:=v1) rfl hf.ops.h75 (by decide) mO (Ff hf.ops.h75 rfl rfl (hB _)) (λa bW=> ?_);refine wp_seq (wp_region ?_);rw [show IS (#[o 76,o 77,o 78,o 79,o 80]:Array Oper).size=[0,1,2,3,4] from rfl];refine bW.step (v:= .slice (some ⟨g,0,none⟩) (n+m) c) rfl hf.ops.h76 (by decide) (cm hf.ops.h76 _) (λa bW=> ?_);refine bW.step (v:= .int .i64 ((i:Nat):Int)) rfl hf.ops.h77 (by decide) (cm hf.ops.h77 _) (λa bW=> ?_);refine bW.step (v:= .slice (some ⟨g,i *size,none⟩) (n+m-i) (c-i)) rfl hf.ops.h78 (by decide) (rB hf.ops.h78 hf.OY ED IZ rfl rfl (by omega) (by omega) _) (λa bW=> ?_);refine bW.step (v:= .slice (some ⟨g2,0,none⟩) m c2) rfl hf.ops.h79 (by decide) (cm hf.ops.h79 _) (λa bW=> ?_);refine bW.step (v:=v2) rfl hf.ops.h80 (by decide) (Ff hf.ops.h80 rfl rfl (hC _)) (λa bW=> ?_);refine wp_seq (wp_region ?_);rw [show IS (#[o 81,o 82]:Array Oper).size=[0,1] from rfl];refine bW.step (v:= .slice (some ⟨g,0,none⟩) (n+m) c) rfl hf.ops.h81 (by decide) (cm hf.ops.h81 _) (λa bW=> ?_);refine bW.step (v:= .slice (some ⟨g,0,none⟩) (n+m) c) rfl hf.ops.h82 (by decide) (mf hf.ops.h82 _) (λa bW=> ?_);refine wp_ret ?_;show bodyPost P fn (λx wq=>x= .returned (.slice (some ⟨g,0,none⟩) (n+m) c)/\wq=w2) .ret a w2;refine QY hf.res bW (v:= .slice (some ⟨g,0,none⟩) (n+m) c) rfl ?_;exact ⟨rfl,rfl⟩
 exact key _ (tm3 _ _ _ 92)
end
end Dn
/-
  What slices.Insert does to a slice of its own. Conditions: none.
-/
namespace Dn
open Go
section
variable {key:Nat->Nat} {φ:Ph}{size:Nat}
theorem bQ.take {xs:List MV}: ∀{cs:List Value} (i:Nat),bQ key φ size cs xs->bQ key φ size (cs.take (i *size)) (xs.take i):=by
 induction xs with
 |nil=>intro cs i h;cases h;simp [bQ]
 |cons x xs ih=>
  intro cs i h;obtain ⟨v,q,rfl,h1,h2,h3⟩:=h;cases i with
  |zero=>simp [bQ]
  |succ i=>
   refine ⟨v,q.take (i *size),?_,h1,h2,ih i h3⟩;rw [agr,Nat.one_mul,aio,aiu,h1];congr 1
   ·exact abR (by omega)
   ·congr 1;omega
theorem bQ.drop {xs:List MV}: ∀{cs:List Value} (i:Nat),bQ key φ size cs xs->bQ key φ size (cs.drop (i *size)) (xs.drop i):=by
 induction xs with
 |nil=>intro cs i h;cases h;simp [bQ]
 |cons x xs ih=>
  intro cs i h;cases i with
  |zero=>simpa using h
  |succ i=>obtain ⟨v,q,rfl,h1,h2,h3⟩:=h;have:=ih i h3;rw [agr,Nat.one_mul,aio,List.drop_append,h1,List.drop_of_length_le (by omega),afF,Nat.add_sub_cancel_left];simpa using this
end
section
variable {P:Program}{c:Ctx}{f:Nat} {W W':World} {φ:Ph}{Z:Nat->Prop} {v0 v':Value}
theorem QZ {ty:Nat}{E:TI}{n:Nat}{cells:List Value}{rs:List MV}(hz: ∀b,W.heap.size<=b->Z b)(pO:EV φ W)(hE:c.ti ty=some E)(xk:E.dJ=[])(QX:c.tq (c.key f)=ty)(hold: ∀b,b<W.heap.size->some b≠v0.ownBlock->W'.heap[b]? =W.heap[b]?)(ug:W.heap.size<=W'.heap.size)(Dh:Rest W W')(hv0: ∀b,v0.ownBlock=some b->Z b/\ ∀off,φ b off=none)(gh:W'.ownsRow 0 ty E.size v' n cells)(hn:rs.length=n)(qf:bQ c.key φ E.size cells rs)(VR: ∀b,v'.ownBlock=some b->v0.ownBlock=some b\/W.heap.size<=b): ∃φ',Trans Z φ W φ' W'/\EV φ' W'/\kp c Z φ' W' (c.key f) v' (.fresh rs):=by
 refine ⟨φ,⟨.refl _,?_,λ_ _ _=>rfl,ug,Dh⟩,?_,?_⟩
 ·intro b hb eE;exact hold b eE (λhe=>hb (hv0 b he.symm).1)
 ·intro b off u hbo;have h1:=pO b off u hbo;have eE:=aaW W _ h1;rw [aa1 (hold b eE (λhe=>by rw [(hv0 b he.symm).2 off] at hbo;cases hbo))];exact h1
 ·show eD c (b8.plain Z) (vN c.key φ) W' v' ⟨c.tq (c.key f),false,rs⟩;rw [QX];refine ⟨E,cells,hE,xk,by rw [hn];exact gh,qf,λbO hb=> ?_⟩;rcases VR bO hb with h|h
  ·exact ⟨(hv0 bO h).1,λoff u hu=>(by have hu:φ bO off=some u:=hu;rw [(hv0 bO h).2 off] at hu;cases hu),λhc=>hc.elim⟩
  ·refine ⟨hz bO h,λoff u hu=> ?_,λhc=>hc.elim⟩;have:=aaW W _ (pO _ _ _ hu);exact absurd this (by show¬bO<W.heap.size;omega)
theorem ag2 {A gV:List Value}{cells news:List Value}{p q r:Nat}(hA:A.length=gV.length)(hp:p+news.length=q)(hc:cells.length=r)(hpr:p<=r)(Qu:r+news.length<=gV.length)(h1:A.take p=cells.take p)(h2:(A.drop q).take (r-p)=cells.drop p):(A.take p++news++A.drop q).take (r+news.length)=cells.take p++news++cells.drop p:=by
 have hl:(A.take p).length=p:=by rw [aaM];omega
 rw [aiu,aaH,hl,hp,abR (by rw [aaH,hl];omega),h1];congr 1;rw [show r+news.length-q=r-p by omega];exact h2
theorem OZ {t ti tb el fo:Nat}{fn:Func}{r:Nat->Nat}{o:Nat->Oper}{tail:Code}{I E:TI}{xs ys:List MV}{i:Nat}(hf:OX P f t ti tb el fo fn r o tail)(hT:lS P c.ti)(hI:c.tv t=some I)(hL:I.BS=true)(hE:c.tv I.elem=some E)(xS:1<=E.bytes)(hel:el=I.elem)(qe:P.underlying ti=some (.int .i64))(QX:c.tq (c.key f)=I.elem)(hg:c.iL (c.key f)=true)(hov: ∀args w,(callFunc fo args).run P w=((aiw #[t,t] #[tb] args).run P w).andThen λv w'=> .ok (.value v) w')(hi:i<=xs.length)(hys:ys≠[])(kZ:(xs.length+ys.length) *E.bytes<=2^46):mL P c f [.fresh xs,.i .i64 i,.fresh ys] (.fresh (xs.take i++ys++xs.drop i)):=by
 subst hel;obtain ⟨hIt,hIc⟩:=cz hI;obtain ⟨uh,xk⟩:=cz hE;obtain ⟨hu,E2,HZ,_,jv⟩:=TI.nW (hT t I hIt) hL;rw [uh] at HZ;cases HZ;obtain ⟨ie,z,ED,IZ,hby,hz0,hzs⟩:=xR (hT _ E uh) xk;intro φ W Z vs hz kL pO;simp only [jh,hg,if_true] at kL;obtain ⟨v0,v1,v2,xs',m1,ys',rfl,XR,F0,A1,F2,eu⟩:=kL.resolve_right (by
  rintro (⟨_,_,_,_,_,m2,_,h1,h2,_⟩|⟨pos,_,_,_,_,_,_,h1,_⟩)
  ·simp only [acZ,and_true] at h1;rw [<-h1.2.2] at h2;simp [MV.one] at h2
  ·rcases pos with _|_|_|pos<;>simp at h1)
 simp only [acZ,MV.fresh.injEq,and_true] at XR;obtain ⟨rfl,rfl,rfl⟩:=XR;have SB:v1= .int .i64 (i:Int):=by obtain ⟨_,h⟩:=A1;generalize C9:[v1]=l at h;cases h;simpa using C9
 subst SB;rw [QX] at F0 F2;obtain ⟨I0,cells,hI0,_,O0,O1,aiQ⟩:=F0;have hI0:c.ti I.elem=some I0:=hI0;rw [uh] at hI0;cases hI0;obtain ⟨I2,news,Vg,_,OA,EP,az8⟩:=F2;have Vg:c.ti I.elem=some I2:=Vg;rw [uh] at Vg;cases Vg;have O0:W.ownsRow 0 I.elem E.size v0 xs.length cells:=O0;have OA:W.ownsRow 0 I.elem E.size v2 ys.length news:=OA;have O1:bQ c.key φ E.size cells xs:=O1;have EP:bQ c.key φ E.size news ys:=EP;have hv0: ∀b,v0.ownBlock=some b->Z b/\ ∀off,φ b off=none:=by
  intro b hb;refine ⟨(aiQ b hb).1,λoff=> ?_⟩;cases h:φ b off with
  |none=>rfl
  |some u=>have:=((aiQ b hb).2.1 off u h).1;cases this
 have hm:0<ys.length:=List.length_pos_iff.2 hys;have Jw:news.length=ys.length *E.size:=EP.length;have tu:cells.length=xs.length *E.size:=O1.length;have hlen:xs.length+ys.length<=2^46:=agH (Nat.le_mul_of_pos_right _ xS) kZ;obtain ⟨g2,c2,SH,rfl,hg2,aCj,hc2,XF,aCk⟩: ∃g2 c2 SH,v2= .slice (some ⟨g2,0,none⟩) ys.length c2/\W.heap[g2]? =some (.cells SH I.elem (0,0))/\ys.length<=c2/\c2<=maxLen/\SH.size=c2 *E.size/\SH.toList.take (ys.length *E.size)=news:=by
  rcases OA.2 with ⟨_,h0⟩|⟨g2,c2,SH,h1,_,h3,h4,h5,h6,h7⟩
  ·omega
  ·exact ⟨g2,c2,SH,h1,h3,h4,h5,h6,h7⟩
 have avP:=bR hg2;have ac6: ∀{w:World},(w.heap[g2]? =W.heap[g2]?)-> ∀(j:Nat) (u:Value),news[j]? =some u->w.cell? ((⟨g2,0,none⟩:Addr).add j)=some u:=by intro w hw j u hj;have:=OA.cells (g:=g2) rfl j u hj;rw [agG] at this⊢;rw [aa1 hw];exact this
 have bV: ∀g,v0.ownBlock=some g-> ∀{w:World},(w.heap[g]? =W.heap[g]?)-> ∀(j:Nat) (u:Value),cells[j]? =some u->w.cell? ((⟨g,0,none⟩:Addr).add j)=some u:=by intro g hg w hw j u hj;have:=O0.cells (g:=g) hg j u hj;rw [agG] at this⊢;rw [aa1 hw];exact this
 have cV:(callFunc f [v0,.int .i64 (i:Int),.slice (some ⟨g2,0,none⟩) ys.length c2].toArray).run P W= .ok (.enter f #[v0,.int .i64 (i:Int),.slice (some ⟨g2,0,none⟩) ys.length c2]) W:=by
  have Qt: ¬fn.name= "runtime.NumGoroutine" :=by simpa using hf.name
  simp [callFunc,hf.pos,Qt,hf.body]
 unfold lc;rw [cV];have hrl:(xs.take i++ys++xs.drop i).length=xs.length+ys.length:=by simp;omega
 have KT:bQ c.key φ E.size (cells.take (i *E.size)++news++cells.drop (i *E.size)) (xs.take i++ys++xs.drop i):=((O1.take i).append EP).append (O1.drop i);by_cases Ap:i=xs.length
 ·
  have AY:Src (vN c.key φ) W E.size (.slice (some ⟨g2,0,none⟩) ys.length c2) ys news:=⟨EP,_,_,rfl,by simp,λx hx j u hj=>by cases hx;exact ac6 rfl j u hj⟩
  have Aq:cells.take (i *E.size)++news++cells.drop (i *E.size)=cells++news:=by rw [Ap,<-tu,List.take_length,List.drop_length,List.append_nil]
  rw [Aq] at KT;have fin: ∀v' W',anO W W' I.elem E.size v0 v' xs.length ys.length cells news-> ∃φ',Trans Z φ W φ' W'/\EV φ' W'/\kp c Z φ' W' (c.key f) v' (.fresh (xs.take i++ys++xs.drop i)):=by
   intro v' W' zd;refine QZ (v0:=v0) hz pO uh xk QX zd.xj zd.size zd.rest hv0 zd.own hrl KT ?_;intro b hb;rcases zd.place with h|h
   ·left;rw [<-h];exact hb
   ·right;rw [h] at hb;cases hb;exact aa0 _
  obtain ⟨v',W',hr,zd⟩:=DR (P:=P) (c:=c) (ty:=0) hu uh xk jv hT xS O0 (AY.apx hu) kZ;have hr': ∀ty,(afH #[t,t] ty #[v0,.slice (some ⟨g2,0,none⟩) ys.length c2]).run P W= .ok v' W':=λty=>hr;have avQ: ∃ad c0,v0= .slice ad xs.length c0/\xs.length<=c0/\c0<=maxLen:=by
   rcases O0.2 with ⟨h1,h0⟩|⟨g,c0,gV,h1,_,h3,h4,h5,_⟩
   ·exact ⟨none,0,by rw [h1,h0],by omega,by omega⟩
   ·exact ⟨_,c0,h1,h4,h5⟩
  obtain ⟨ad,c0,rfl,hnc,Sa⟩:=avQ;refine (ag1 hf ED IZ hm hnc (by unfold maxLen at Sa;omega) (by omega) Ap hr').mono ?_;rintro x BT ⟨rfl,rfl⟩;exact ⟨_,rfl,fin _ _ zd⟩
 ·have Ap:i<xs.length:=by omega
  obtain ⟨g,c0,gV,rfl,hgc,hnc,Sa,AS,M6⟩: ∃g c0 gV,v0= .slice (some ⟨g,0,none⟩) xs.length c0/\W.heap[g]? =some (.cells gV I.elem (0,0))/\xs.length<=c0/\c0<=maxLen/\gV.size=c0 *E.size/\gV.toList.take (xs.length *E.size)=cells:=by
   rcases O0.2 with ⟨_,h0⟩|⟨g,c0,gV,h1,_,h3,h4,h5,h6,h7⟩
   ·omega
   ·exact ⟨g,c0,gV,h1,h3,h4,h5,h6,h7⟩
  have hgl:=bR hgc;have hgg:g≠g2:=λh=>eu g rfl (by rw [h];rfl);have xW:i *E.size<=xs.length *E.size:=acn _ hi;have him:(i+ys.length) *E.size=i *E.size+news.length:=by rw [agr,Jw]
  have hnm:(xs.length+ys.length) *E.size=xs.length *E.size+news.length:=by rw [agr,Jw]
  have hdl:(cells.drop (i *E.size)).length=(xs.length-i) *E.size:=by rw [abY,tu,Nat.sub_mul]
  have aCl:(xs.length-i) *E.size=xs.length *E.size-i *E.size:=Nat.sub_mul _ _ _;have aiR: ∀{w:World},(w.heap[g]? =W.heap[g]?)-> ∀(j:Nat) (u:Value),(cells.drop (i *E.size))[j]? =some u->w.cell? ((⟨g,i *E.size,none⟩:Addr).add j)=some u:=by intro w hw j u hj;rw [List.getElem?_drop] at hj;have:=bV g rfl hw _ u hj;rw [agG] at this⊢;rwa [aij] at this
  have Y7: ∀u∈cells.drop (i *E.size),u.oneCell'=true:=λu hu=>O1.Kh u (List.mem_of_mem_drop hu);have aoY:Rest W {W with drawn:=W.drawn+1}:=⟨rfl,rfl,rfl,λ_=>rfl⟩
  by_cases wj:c0<xs.length+ys.length
  ·have hk:i+(xs.length+ys.length-i)=xs.length+ys.length:=by omega
   obtain ⟨G,hG⟩: ∃G,G=grownCap W (xs.length+ys.length) c0 I.elem:=⟨_,rfl⟩
   have hGn:xs.length+ys.length<=G:=by rw [hG];exact grownCap_ge W _ _ _
   have hGm:G<=maxLen:=by rw [hG];exact grownCap_le_maxLen W _ _ _ (by unfold maxLen;omega)
   obtain ⟨Q0,akl⟩: ∃Q0:Array Value,Q0=(cells.take (i *E.size)).toArray++agV z.cells (xs.length+ys.length-i)++agV z.cells (G-(xs.length+ys.length)):=⟨_,rfl⟩
   have hRl:Q0.size=G *E.size:=by rw [akl];simp only [aik,aaX,aaM,agV,Array.size_map,Array.size_range,hzs];rw [afI (by rw [tu];exact xW),<-agr,<-agr];congr 1;omega
   have hRt:Q0.toList.take (i *E.size)=cells.take (i *E.size):=by
    rw [akl];simp only [Array.toList_append,agW];have hl:(cells.take (i *E.size)).length=i *E.size:=by rw [aaM,tu];exact afI xW
    rw [abf (by omega),abR (by omega)]
   have hA: ∀ty,(afH #[t,ti] ty #[.slice (some ⟨g,0,none⟩) i c0,.int .i64 ((xs.length+ys.length-i:Nat):Int)]).run P W= .ok (.slice (some ⟨W.heap.size,0,none⟩) (xs.length+ys.length) G) (W.drew.alloc (.cells Q0 I.elem)):=λty=>by
    have hold:(aif ie.size i (.slice (some ⟨g,0,none⟩) i c0)).run P W.drew= .ok (cells.take (i *E.size)).toArray W.drew:=by
     refine run_firstCells_some W.drew ie.size i ⟨g,0,none⟩ i c0 _ (by rw [IZ,aaM,tu];exact afI xW) (λj v hj=> ?_);rw [List.getElem?_take] at hj;split at hj
     ·exact bV g rfl rfl j v hj
     ·cases hj
    have h:=Lib.run_append_grow_zeros W t ti ty I.elem ie z .i64 .i64 hu qe ED hz0 (some ⟨g,0,none⟩) i c0 (cells.take (i *E.size)) hold (xs.length+ys.length-i) (by omega) (by rw [IZ];exact jv) (by omega) (by omega) (by rw [hby];exact agH (acn _ (by omega:xs.length+ys.length-i<=xs.length+ys.length)) (agH kZ (by omega))) (by rw [hby,hk];exact growslice_fits wj (agH kZ (by omega)));rw [hk,<-hG,<-akl] at h;exact h
   have hg9:(W.drew.alloc (.cells Q0 I.elem)).heap[W.heap.size]? =some (.cells Q0 I.elem (0,0)):=kb W.drew _;have EX: ∀b,b<W.heap.size->(W.drew.alloc (.cells Q0 I.elem)).heap[b]? =W.heap[b]? :=λb hb=>rV W.drew _ b hb;have hnG:(xs.length+ys.length) *E.size<=Q0.size:=by rw [hRl];exact acn _ hGn
   obtain ⟨RA,hRA⟩: ∃RA:List Value,RA=Q0.toList.take (i *E.size)++news++Q0.toList.drop (i *E.size+news.length):=⟨_,rfl⟩
   have aoZ:RA.length=Q0.size:=by rw [hRA];simp only [aaH,aaM,abY,aaQ];omega
   have hB: ∀ty,(abW #[t,t] ty #[.slice (some ⟨W.heap.size,i *E.size,none⟩) (xs.length+ys.length-i) (G-i),.slice (some ⟨g2,0,none⟩) ys.length c2]).run P (W.drew.alloc (.cells Q0 I.elem))= .ok (goInt ((ys.length:Nat):Int)) (afO (W.drew.alloc (.cells Q0 I.elem)) W.heap.size RA.toArray):=λty=>by rw [hRA];exact rX (size:=E.size) hu ED IZ hg9 (by simp only [ahq];split<;>omega) Jw (ac6 (EX g2 avP)) (by omega) EP.Kh
   have akm:=setRow_heap (W.drew.alloc (.cells Q0 I.elem)) W.heap.size Q0 RA.toArray I.elem (0,0) hg9;obtain ⟨W2,hW2⟩: ∃W2,W2=afO (W.drew.alloc (.cells Q0 I.elem)) W.heap.size RA.toArray:=⟨_,rfl⟩
   have ag3: ∀b,b<W.heap.size->W2.heap[b]? =W.heap[b]? :=λb hb=>by rw [hW2,setRow_other _ _ _ _ (by omega)];exact EX b hb
   have akn:Rest W W2:=by rw [hW2];exact (show Rest W W.drew from ⟨rfl,rfl,rfl,λ_=>rfl⟩).trans ((Rest.alloc W.drew Q0 I.elem).trans (Rest.setRow _ _ _))
   have aCo:W2.heap.size=W.heap.size+1:=by rw [hW2,setRow_size];exact Array.size_push _
   rw [<-hW2] at hB akm;have hC:=λty=>rX (P:=P) (dT:=t) (sT:=t) (ty:=ty) (size:=E.size) (agU:=xs.length+ys.length-(i+ys.length)) (akj:=G-(i+ys.length)) (ru:=xs.length-i) (Ao:=c0-i) (k:=xs.length-i) (o:=(i+ys.length) *E.size) (a:=⟨g,i *E.size,none⟩) (w:={W2 with drawn:=W2.drawn+1}) hu ED IZ akm (by simp only [ahq];split<;>omega) hdl (aiR (ag3 g hgl)) (by simp only [aaX];rw [aoZ,him,hdl];omega) Y7;refine (ac4 hf ED IZ hm hnc (by unfold maxLen at Sa;omega) (by omega) Ap wj hGn hA hB hC).mono ?_;rintro x BT ⟨rfl,rfl⟩;refine ⟨_,rfl,?_⟩;refine QZ (v0:= .slice (some ⟨g,0,none⟩) xs.length c0) (n:=xs.length+ys.length) (cells:=cells.take (i *E.size)++news++cells.drop (i *E.size)) hz pO uh xk QX ?_ ?_ ?_ hv0 ?_ hrl KT (λb hb=> .inr (by cases hb;exact aa0 _))
   ·intro b hb eu;rw [setRow_other _ _ _ _ (by omega)];exact ag3 b hb
   ·rw [setRow_size];show W.heap.size<=W2.heap.size;omega
   ·exact akn.trans ((show Rest W2 {W2 with drawn:=W2.drawn+1} from ⟨rfl,rfl,rfl,λ_=>rfl⟩).trans (Rest.setRow _ _ _))
   ·refine ⟨by rw [KT.length,hrl],.inr ⟨W.heap.size,G,_,rfl,afK _,setRow_heap {W2 with drawn:=W2.drawn+1} W.heap.size RA.toArray _ I.elem (0,0) akm,hGn,hGm,?_,?_⟩⟩
    ·simp only [aaX,aaH,aaM,abY];rw [aoZ,<-hRl];omega
    ·have avU:RA.take ((i+ys.length) *E.size)=cells.take (i *E.size)++news:=by
      have hl:(Q0.toList.take (i *E.size)++news).length=(i+ys.length) *E.size:=by rw [aaH,aaM,aaQ,him];omega
      rw [hRA,abf (by omega),abR (by omega),hRt]
     rw [avU];have DM:(cells.take (i *E.size)++news++cells.drop (i *E.size)).length=(xs.length+ys.length) *E.size:=by rw [KT.length,hrl]
     rw [<-DM];exact List.take_left
  ·have wj:xs.length+ys.length<=c0:=by omega
   have hcz:gV.toList.length=gV.size:=aaQ;have Qu:(xs.length+ys.length) *E.size<=gV.size:=by rw [AS];exact acn _ wj
   have hO:(callFunc fo #[.slice (some ⟨g2,0,none⟩) ys.length c2,.slice (some ⟨g,(i+ys.length) *E.size,none⟩) (xs.length+ys.length-(i+ys.length)) (c0-(i+ys.length))]).run P W= .ok (.value (.bool false)) W:=by rw [hov,Lib.run_overlaps_apart W t tb I.elem hu E.size (λw=>by simp [ahw,typeInfo,ED,IZ]) ⟨g2,0,none⟩ ⟨g,(i+ys.length) *E.size,none⟩ _ _ _ _ (ahV hgg) I.elem I.elem SH.size gV.size (by simp [World.shape?,hg2]) (by simp [World.shape?,hgc]) (by rw [AS];exact Nat.ne_of_gt (Nat.mul_pos (by omega) jv)) (by simp [ag5,hg2]) (by simp [ag5,hg2])];rfl
   let R1:List Value:=gV.toList.take ((i+ys.length) *E.size)++cells.drop (i *E.size)++gV.toList.drop ((i+ys.length) *E.size+(cells.drop (i *E.size)).length);have hR1:R1.length=gV.size:=by simp only [R1,aaH,aaM,abY,aaQ];rw [hdl] at *;omega
   have hB: ∀ty,(abW #[t,t] ty #[.slice (some ⟨g,(i+ys.length) *E.size,none⟩) (xs.length+ys.length-(i+ys.length)) (c0-(i+ys.length)),.slice (some ⟨g,i *E.size,none⟩) (xs.length+ys.length-i) (c0-i)]).run P {W with drawn:=W.drawn+1}= .ok (goInt ((xs.length-i:Nat):Int)) (afO {W with drawn:=W.drawn+1} g R1.toArray):=λty=>rX (size:=E.size) hu ED IZ (w:={W with drawn:=W.drawn+1}) hgc (by simp only [ahq];split<;>omega) hdl (aiR rfl) (by rw [him,hdl];omega) Y7;have avW:(afO {W with drawn:=W.drawn+1} g R1.toArray).heap[g]? =some (.cells R1.toArray I.elem (0,0)):=setRow_heap {W with drawn:=W.drawn+1} g gV R1.toArray I.elem (0,0) hgc;have ag3: ∀b,b≠g->(afO {W with drawn:=W.drawn+1} g R1.toArray).heap[b]? =W.heap[b]? :=λb hb=>setRow_other {W with drawn:=W.drawn+1} g b R1.toArray hb;have hC:=λty=>rX (P:=P) (dT:=t) (sT:=t) (ty:=ty) (size:=E.size) (agU:=xs.length+ys.length-i) (akj:=c0-i) (ru:=ys.length) (Ao:=c2) (k:=ys.length) (o:=i *E.size) (a:=⟨g2,0,none⟩) hu ED IZ avW (by simp only [ahq];split<;>omega) Jw (ac6 (ag3 g2 (ahV hgg))) (by simp only [aaX];rw [hR1];omega) EP.Kh;refine (ac5 hf ED IZ hm hnc (by unfold maxLen at Sa;omega) (by omega) Ap wj hO hB hC).mono ?_;rintro x BT ⟨rfl,rfl⟩;refine ⟨_,rfl,?_⟩;rw [setRow_setRow];have Dh:Rest W (afO {W with drawn:=W.drawn+1} g (R1.toArray.toList.take (i *E.size)++news++R1.toArray.toList.drop (i *E.size+news.length)).toArray):=aoY.trans (Rest.setRow _ _ _);refine QZ (v0:= .slice (some ⟨g,0,none⟩) xs.length c0) (n:=xs.length+ys.length) (cells:=cells.take (i *E.size)++news++cells.drop (i *E.size)) hz pO uh xk QX ?_ (by simp) Dh hv0 ?_ hrl KT (λb hb=> .inl hb)
   ·intro b hb eu;refine setRow_other {W with drawn:=W.drawn+1} g b _ (λh=>eu ?_);rw [h];rfl
   ·refine ⟨by rw [KT.length,hrl],.inr ⟨g,c0,_,rfl,afK _,setRow_heap {W with drawn:=W.drawn+1} g gV _ I.elem (0,0) hgc,wj,Sa,?_,?_⟩⟩
    ·simp only [aaX,aaH,aaM,abY];rw [hR1,<-AS];omega
    ·rw [hnm];refine ag2 (gV:=gV.toList) (r:=xs.length *E.size) (by simpa using hR1) rfl tu xW (by simp only [aaQ];omega) ?_ ?_
     ·show R1.take (i *E.size)=_;rw [<-M6,aiD,afI xW];simp only [R1];rw [agW,abf (by rw [aaM,hcz];omega),aiD,afI (by omega)]
     ·show (R1.drop (i *E.size+news.length)).take _=_;simp only [R1];have hl:(gV.toList.take ((i+ys.length) *E.size)).length=i *E.size+news.length:=by rw [aaM,hcz];omega
      rw [agW,<-hl,List.drop_left,abf (by omega),abR (by omega)]
end
end Dn
/-
  slices.Delete of the library, walked. Conditions: none.
-/
namespace Dn
open Go
structure X5 (o:Oper) (op:Op):Prop where
 dst:o.dst=none
 op:o.op=op
 guard:o.guard=none
section
variable {P:Program}{Q:Exit->Act->World->Prop}{ops:Array Oper}{o:Oper}{a:Act} {w w':World}{n:Nat} {σ:Nat->Value}
def ac7 (ops:Array Oper):Nat->Nat->Array Bool->Bool
 |0,i,listed=>(AT .any ops listed==[i])&&(AT .any ops (listed.setIfInBounds i true)==[i+1])&&(AT .any ops ((listed.setIfInBounds i true).setIfInBounds (i+1) true)).isEmpty
 |k+1,i,listed=>Region.free .any ops listed i&&(AT .any ops listed).contains i&&ac7 ops k (i+1) (listed.setIfInBounds i true)
def ako (ops:Array Oper):Bool:=ahl ops&&Nat.blt 1 ops.size&&ac7 ops (ops.size-2) 0 (OF ops.size false)
end
structure avX (t ti:Nat) (o:Nat->Oper):Prop where
 h0:bp (o 0) 6 (.assign (.const (.slice none 0 0)))
 h1:bp (o 1) 8 (.move (.tmp 0))
 h2:bp (o 2) 9 (.move (.tmp 1))
 h3:bp (o 3) 10 (.move (.tmp 2))
 h4:bp (o 4) 11 (.move (.tmp 0))
 h5:bp (o 5) 12 (.call {callee:= .builtin .len,args:= #[.tmp 11],argTypes:= #[t]})
 h6:bp (o 6) 13 (.slice t (.tmp 8) (some (.tmp 9)) (some (.tmp 10)) (some (.tmp 12)))
 h7:bp (o 7) 14 (.move (.tmp 1))
 h8:bp (o 8) 15 (.move (.tmp 2))
 h9:bp (o 9) 16 (.binOp .eql ti (.tmp 14) (.tmp 15) ti)
 h10:bp (o 10) 17 (.move (.tmp 0))
 h11:bp (o 11) 6 (.assign (.tmp 17))
 h12:bp (o 12) 18 (.move (.tmp 0))
 h13:bp (o 13) 19 (.call {callee:= .builtin .len,args:= #[.tmp 18],argTypes:= #[t]})
 h14:bp (o 14) 7 (.assign (.tmp 19))
 h15:bp (o 15) 20 (.move (.tmp 0))
 h16:bp (o 16) 21 (.move (.tmp 1))
 h17:bp (o 17) 22 (.slice t (.tmp 20) none (some (.tmp 21)) none)
 h18:bp (o 18) 23 (.move (.tmp 0))
 h19:bp (o 19) 24 (.move (.tmp 2))
 h20:bp (o 20) 25 (.slice t (.tmp 23) (some (.tmp 24)) none none)
 h21:bp (o 21) 26 (.call {callee:= .builtin .append,args:= #[.tmp 22,.tmp 25],argTypes:= #[t,t]})
 h22:bp (o 22) 0 (.assign (.tmp 26))
 h23:bp (o 23) 27 (.move (.tmp 0))
 h24:bp (o 24) 28 (.move (.tmp 0))
 h25:bp (o 25) 29 (.call {callee:= .builtin .len,args:= #[.tmp 28],argTypes:= #[t]})
 h26:bp (o 26) 30 (.move (.tmp 7))
 h27:bp (o 27) 31 (.slice t (.tmp 27) (some (.tmp 29)) (some (.tmp 30)) none)
 h28:X5 (o 28) (.call {callee:= .builtin .clear,args:= #[.tmp 31],argTypes:= #[t]})
 h29:bp (o 29) 32 (.move (.tmp 0))
 h30:bp (o 30) 6 (.assign (.tmp 32))
 d5:ako #[o 15,o 16,o 17,o 18,o 19,o 20,o 21,o 22]=true
section
variable {P:Program}{f t ti el:Nat}{fn:Func}{r:Nat->Nat}{o:Nat->Oper}{ie:TypeInfo}{size n c i j g:Nat}{ad:Option Addr}{w:World}
end
section
variable {P:Program}{c:Ctx}{f:Nat}
end
end Dn
/-
  slices.IndexFunc and slices.DeleteFunc of the library, walked, with whatever function. Conditions: none.
-/
namespace Dn
open Go
section
variable {P:Program}{Q:Exit->Act->World->Prop}{ops:Array Oper}{o:Oper}{a:Act} {w w':World}{n:Nat} {σ:Nat->Value}
theorem Tm.call {i d:Nat}{op:Op}{rest:List Nat}{f:Nat}{args:Array Value}{Rp:Value->World->Prop}(bW:Tm a n σ)(hi:ops[i]? =some o)(ho:bp o d op)(hd:d<n)(cV:(execOp (ev σ) o).run P w=(callFunc f args).run P w)(hc:lc P f args w Rp)(h: ∀v w' a',Rp v w'->Tm a' n (Sf σ d v)->wpOps P ops Q rest a' w'):wpOps P ops Q (i::rest) a w:=by rw [wpOps_cons];unfold wpOp;simp only [hi,aaK,ho.guard,if_true];left;refine EW (by rw [bW.eval];exact cV) hc ?_;intro v w' hr;rw [ho.dst];exact h v w' _ hr (bW.put hd v)
end
structure avY (t el ti:Nat) (o:Nat->Oper):Prop where
 h0:bp (o 0) 4 (.assign (.const (.int .i64 0)))
 h1:bp (o 1) 6 (.move (.tmp 0))
 h2:bp (o 2) 7 (.call {callee:= .builtin .len,args:= #[.tmp 6],argTypes:= #[t]})
 h3:bp (o 3) 8 (.move (.const (.int .i64 0)))
 h4:bp (o 4) 9 (.binOp .lss ti (.tmp 8) (.tmp 7) ti)
 h5:bp (o 5) 10 (.move (.tmp 8))
 h6:bp (o 6) 5 (.assign (.tmp 10))
 h7:bp (o 7) 11 (.move (.tmp 1))
 h8:bp (o 8) 12 (.move (.tmp 0))
 h9:bp (o 9) 13 (.move (.tmp 5))
 h10:bp (o 10) 14 (.indexAddr t (.tmp 12) (.tmp 13))
 h11:bp (o 11) 15 (.load el (.tmp 14))
 h12:bp (o 12) 16 (.call {callee:= .value (.tmp 11),args:= #[.tmp 15],argTypes:= #[el]})
 h13:bp (o 13) 17 (.move (.tmp 5))
 h14:bp (o 14) 4 (.assign (.tmp 17))
 h15:bp (o 15) 18 (.binOp .add ti (.tmp 8) (.const (.int .i64 1)) ti)
 h16:bp (o 16) 8 (.move (.tmp 18))
 h17:bp (o 17) 4 (.assign (.const (.int .i64 (-1))))
section
variable {P:Program}{c:Ctx}{f t ti el:Nat}{fn:Func}{r:Nat->Nat}{o:Nat->Oper}{E:TI}{n cp g0 g:Nat}{ad:Option Addr}{ob:Option Nat}{w:World}{lb:Array Value}{S:Type}{Inv:S->(Nat->Prop)->Ph->World->Prop}{step:S->MV->Option (Bool×S)}
end
end Dn
/-
  slices.DeleteFunc of the library, walked, with whatever function. Conditions: none.
-/
namespace Dn
open Go
structure atH (t el ti tb fu fi:Nat) (o:Nat->Oper):Prop where
 h0:bp (o 0) 4 (.assign (.const (.slice none 0 0)))
 h1:bp (o 1) 8 (.move (.tmp 0))
 h2:bp (o 2) 9 (.move (.tmp 1))
 h3:bp (o 3) 10 (.call {callee:= .value (.func fi),args:= #[.tmp 8,.tmp 9],argTypes:= #[t,fu]})
 h4:bp (o 4) 5 (.assign (.tmp 10))
 h5:bp (o 5) 11 (.move (.tmp 5))
 h6:bp (o 6) 12 (.binOp .eql ti (.tmp 11) (.const (.int .i64 (-1))) ti)
 h7:bp (o 7) 13 (.move (.tmp 0))
 h8:bp (o 8) 4 (.assign (.tmp 13))
 h9:bp (o 9) 14 (.move (.tmp 5))
 h10:bp (o 10) 15 (.binOp .add ti (.tmp 14) (.const (.int .i64 1)) ti)
 h11:bp (o 11) 6 (.assign (.tmp 15))
 h12:bp (o 12) 16 (.move (.tmp 6))
 h13:bp (o 13) 17 (.move (.tmp 0))
 h14:bp (o 14) 18 (.call {callee:= .builtin .len,args:= #[.tmp 17],argTypes:= #[t]})
 h15:bp (o 15) 19 (.binOp .lss ti (.tmp 16) (.tmp 18) ti)
 h16:bp (o 16) 22 (.move (.tmp 0))
 h17:bp (o 17) 23 (.move (.tmp 6))
 h18:bp (o 18) 24 (.indexAddr t (.tmp 22) (.tmp 23))
 h19:bp (o 19) 25 (.load el (.tmp 24))
 h20:bp (o 20) 7 (.alloc el)
 h21:X5 (o 21) (.store el (.tmp 7) (.tmp 25))
 h22:bp (o 22) 26 (.move (.tmp 1))
 h23:bp (o 23) 27 (.load el (.tmp 7))
 h24:bp (o 24) 28 (.call {callee:= .value (.tmp 26),args:= #[.tmp 27],argTypes:= #[el]})
 h25:bp (o 25) 29 (.unOp .not tb (.tmp 28))
 h26:bp (o 26) 30 (.move (.tmp 0))
 h27:bp (o 27) 31 (.move (.tmp 5))
 h28:bp (o 28) 32 (.load el (.tmp 7))
 h29:bp (o 29) 33 (.indexAddr t (.tmp 30) (.tmp 31))
 h30:X5 (o 30) (.store el (.tmp 33) (.tmp 32))
 h31:bp (o 31) 34 (.move (.tmp 5))
 h32:bp (o 32) 35 (.binOp .add ti (.tmp 34) (.const (.int .i64 1)) ti)
 h33:bp (o 33) 5 (.assign (.tmp 35))
 h34:bp (o 34) 20 (.move (.tmp 6))
 h35:bp (o 35) 21 (.binOp .add ti (.tmp 20) (.const (.int .i64 1)) ti)
 h36:bp (o 36) 6 (.assign (.tmp 21))
 h37:bp (o 37) 36 (.move (.tmp 0))
 h38:bp (o 38) 37 (.move (.tmp 5))
 h39:bp (o 39) 38 (.slice t (.tmp 36) (some (.tmp 37)) none none)
 h40:X5 (o 40) (.call {callee:= .builtin .clear,args:= #[.tmp 38],argTypes:= #[t]})
 h41:bp (o 41) 39 (.move (.tmp 0))
 h42:bp (o 42) 40 (.move (.tmp 5))
 h43:bp (o 43) 41 (.slice t (.tmp 39) none (some (.tmp 40)) none)
 h44:bp (o 44) 4 (.assign (.tmp 41))
section
variable {P:Program}{c:Ctx}{f fi t ti tb fu el:Nat}{fn fni:Func}{r ri:Nat->Nat}{o oi:Nat->Oper}{E:TI}{cp g0 g:Nat}{ad:Option Addr}{ob:Option Nat}{w W W2:World}{lb:Array Value}{S:Type}{Inv:S->(Nat->Prop)->Ph->World->Prop}{step:S->MV->Option (Bool×S)}{Z0 Z:Nat->Prop} {φ0 φ:Ph}{s:S}
theorem agP.move (hp:KO P c g lb Inv step)(hW:agP c ob Inv Z0 φ0 w s Z φ W)(ug:W.heap.size<=W2.heap.size)(Aa: ∀b,b<W.heap.size->ob≠some b->W2.heap[b]? =W.heap[b]?)(Dh:Rest W W2)(hnz: ∀b,ob=some b-> ¬Z b): agP c ob Inv Z0 φ0 w s (λb=>(Z b/\b<W.heap.size)\/W2.heap.size<=b) φ W2:=by
 have hws:=hW.tr.size;refine ⟨hp.mono (hp.frame hW.inv ug λb hz hb=>Aa b hb (λe=>hnz b e hz)) λb hb=> .inl hb,λb hb=> .inr hb,λb hb=> ?_,λb off v hv=> ?_,?_,hW.free⟩
 ·rcases hb with hb|hb
  ·exact hW.sub b hb.1
  ·exact .inr (by omega)
 ·have h1:=hW.q9 b off v hv;have eE:=aaW W _ h1;have eu:ob≠some b:=by intro e;rw [hW.free b off e] at hv;cases hv
  rw [aa1 (Aa b eE eu)];exact h1
 ·refine hW.tr.trans ⟨.refl _,λb hb eE=> ?_,λ_ _ _=>rfl,ug,Dh⟩;exact Aa b eE (λe=>hb (.inr e))
end
end Dn
/-
  Going through a map, in whatever order; a label at the end of a scope. Conditions: none.
-/
namespace Dn
noncomputable section
open Go
def zm {R:Type}(x:Option (Sum Unit R)):Bool:=match x with|some (.inl _)=>true|_=>false
def uS {α R:Type}(f:α->Option (Sum Unit R))(d:Option R):List α->Option R
 |[]=>d
 |x::xs=>match f x with
  |some (.inl _)=>uS f d xs
  |some (.inr r)=>bif xs.all λy=>zm (f y) then some r else none
  |none=>none
structure Rng where
 i1:Nat
 o1:Array Oper
 a1:Oper
 b1:Oper
 x:Operand
 d1:Nat
 t:Nat
 d2:Nat
 k:Nat
 i2:Nat
 o2:Array Oper
 a2:Oper
 r2:List Oper
 cx:Operand
 kx:Nat
 k5:Nat
 i3:Nat
 o3:Array Oper
 a3:Oper
 r3:List Oper
 rest:Code
def Rng.body (q:Rng):Code:= .seq (.region q.i2 q.o2 false) (.seq (.cond q.cx .skip (.exit q.kx)) (.block q.k5 (.seq (.region q.i3 q.o3 false) q.rest)))
def Rng.code (q:Rng):Code:= .seq (.region q.i1 q.o1 false) (.block q.k (.loop q.body))
def isNone {α:Type}:Option α->Bool
 |none=>true
 |some _=>false
def ao0 (o:Oper):Option Operand:=match o.op with| .move x=>some x|_=>none
def ao1 (o:Oper)(d:Nat):Option Nat:=match o.op with| .range t (.tmp y)=>bif No y d then some t else none|_=>none
def akp (o:Oper)(d:Nat):Bool:=match o.op with| .next (.tmp y) false=>No y d|_=>false
def akq (o:Oper)(d:Nat):Bool:=match o.op with| .entry (.tmp y)=>No y d|_=>false
def X6 (code:Code):Option Rng:=match code with
 | .seq (.region i1 o1 false) (.block k (.loop (.seq (.region i2 o2 false) (.seq (.cond cx .skip (.exit kx)) (.block k5 (.seq (.region i3 o3 false) rest))))))=>
  (match o1.toList,o2.toList,o3.toList with
  |[a1,b1],a2::r2,a3::r3=>(match ao0 a1,a1.dst,b1.dst with
   |some x,some d1,some d2=>(match ao1 b1 d1 with
    |some t=>bif akp a2 d2&&(akq a3 d2&&(isNone a1.guard&&(isNone b1.guard&&(isNone a2.guard&&isNone a3.guard)))) then
     some ⟨i1,o1,a1,b1,x,d1,t,d2,k,i2,o2,a2,r2,cx,kx,k5,i3,o3,a3,r3,rest⟩ else none
    |none=>none)
   |_,_,_=>none)
  |_,_,_=>none)
 |_=>none
def Tn {R:Type}(m:MV)(K:List UInt8->Int->Option R):Option R:=gT m λl=>gC l λka r=>gA ka λks=>gC ks λk0 kr=>gN kr<|gS k0 λkey=>gC r λv0 vr=>gN vr<|gI .i64 v0 λn=>K key n
def ag4 (c:Ctx)(q:Rng)(st:St)(m:MV):Option (Sum Unit (Nat×List MV)):=Tn m λkey n=>bM c st q.a2.dst (.cM [.sc (.p (.b true)),.sc (.p (.s key)),.sc (.p (.i .i64 n))]) λst=>DH c q.o2.toList q.r2 st λst=>(match aX c st q.cx with
  | .sc (.p (.b true))=>bM c st q.a3.dst (.cM [.sc (.p (.s key)),.sc (.p (.i .i64 n))]) λst=>DH c q.o3.toList q.r3 st λst=>lu c q.rest (Sum Unit (Nat×List MV)) st λe st=>bif No e 0||No e (q.k5+2) then some (.inl ()) else nM st [] ((c.xI q.i2).ex e) λvs=>some (.inr (e,vs))
  |_=>none)
def akr (c:Ctx)(q:Rng)(st:St):Option (Nat×List MV):=bM c st q.a2.dst (.cM [.sc (.p (.b false))]) λst=>DH c q.o2.toList q.r2 st λst=>(match aX c st q.cx with
  | .sc (.p (.b false))=>nM st [] ((c.xI q.i2).ex (q.kx+2)) λvs=>some (q.kx+2,vs)
  |_=>none)
def aks (c:Ctx)(q:Rng){R:Type}(st:St)(K:Nat->St->Option R):Option R:=bM c st (some q.d1) (aX c st q.x) λst=>match aX c st (.tmp q.d1),xh c q.t with
  | .AJ root,some s0=>(match aH st.fr root with
   | .box [.mp s _]=>bif AE root||!msB s s0 then none else
    bM c st (some q.d2) (.sc .un) λst=>GZ c (c.xI q.i2) st λ_ eM=>(match (c.xI q.i2).outs,aH eM.fr root with
     |[],.box [.mp s2 es]=>bif s2.st||(!EG s2.lay [.s]||(s2.b||!bU eM.dg q.d2)) then none else
      bd (uS (ag4 c q eM) (akr c q eM) es) λr=>YW (minus (lR q.body) [0]) r.1 λe=>od (yX st eM) ((c.xI q.i2).ex e) r.2 λst=>K (bif No e (q.k+2) then 0 else e) st
     |_,_=>none)
   |_=>none)
  |_,_=>none
def ac8 (a b:Code):Option Nat:=match a,b with
 | .goto l,.skip=>some l
 |_,_=>none
def KU (c:Ctx){R:Type}(l:Nat)(G:St->Option R):Code->St->(Nat->St->Option R)->Option R
 | .seq a b,st,K=>KU c l G a st λe st=>bif No e 0 then KU c l G b st K else K e st
 | .cond x a b,st,K=>(match ac8 a b with
  |some l'=>bif No l' l then (match aX c st x with| .sc (.p (.b v))=>aR v (G st) (K 0 st)|_=>none) else none
  |none=>lu c (.cond x a b) R st K)
 | .label _,st,K=>K 0 st
 |code,st,K=>lu c code R st K
def Ih (c:Ctx){R:Type}:Code->St->(Nat->St->Option R)->Option R
 | .seq a b,st,K=>(match X6 a with
  |some q=>aks c q st λe st=>bif No e 0 then Ih c b st K else K e st
  |none=>lu c a R st λe st=>bif No e 0 then Ih c b st K else K e st)
 | .scope b,st,K=>(match findLabel b 0 with
  |some rest=>KU c 0 (λst=>lu c rest R st K) b st K
  |none=>none)
 |code,st,K=>lu c code R st K
def To (c:Ctx)(dI:List (List Kd))(fresh:Option Nat)(f:Func)(args:List MV):Option MV:=XA (λb st K=>Ih c b st K) c dI fresh f args
theorem Tp {α R:Type}{f:α->Option (Sum Unit R)}{d:Option R}{r:R}: ∀{es:List α},uS f d es=some r->(∀m∈es,f m=some (.inl ())\/f m=some (.inr r))/\((∀m∈es,f m=some (.inl ()))->d=some r):=by
 intro es;induction es with
 |nil=>intro h;exact ⟨by simp,λ_=>h⟩
 |cons x xs ih=>
  intro h;simp only [uS] at h;split at h
  ·rename_i u hx;obtain ⟨h1,h2⟩:=ih h;refine ⟨λm hm=> ?_,λhm=>h2 λm hx=>hm m (af5 _ hx)⟩;rcases BY.1 hm with rfl|hm
   ·exact .inl hx
   ·exact h1 m hm
  ·rename_i r' hx;cases ha:xs.all λy=>zm (f y) with
   |false=>rw [ha] at h;cases h
   |true=>
    rw [ha] at h;simp only [cond_true,AI] at h;subst h;refine ⟨λm hm=> ?_,λhm=> ?_⟩
    ·rcases BY.1 hm with rfl|hm
     ·exact .inr hx
     ·rw [aaN] at ha;have:=ha m hm;unfold zm at this;split at this
      ·rename_i u hu;exact .inl hu
      ·cases this
    ·have:=hm x (by simp);rw [hx] at this;cases this
  ·cases h
section
variable {P:Program}{c:Ctx}{Z Zb Zi:b8} {e e' e3:Env}{st cB ra B:St} {a a':Act} {w w':World}{R:Type}{r:R}{Q:Exit->Act->World->Prop}{o:Oper}{hn:p0}
def b8.cv (Z:b8)(g:Nat):b8:={Z with In:=λb=>Z.In b/\b≠g}
theorem kN.ao2 {g:Nat}(j:kN c Zb Zi e B hn a w)(hg:g<w.heap.size):kN c Zb (Zi.cv g) e B hn a w:=⟨j.wo,λb hb=>j.sub b hb.1,λb hb=>⟨j.new b hb,by omega⟩,j.dg,j.T,j.keys,λt cs ht hz=>j.box t cs ht hz.1,λf o b ho hb hz=>j.jr f o b ho hb hz.1,j.acp,j.Zu,j.ptr,j.men⟩
theorem kN.aiS {g:Nat}(j:kN c Zi Zi e B hn a w)(hg:g<w.heap.size):cF c (Zi.cv g) e B a w:=by
 have h:=j.wo;have hm:e.m=B.bA:=h.m;have:=h.sub (Zi:=Zi.cv g) (cB:=B) (λ_ h=>h) ⟨h.defers.2.1,h.defers.2.2.1,h.defers.2.2.2⟩ h.nodup (λt=> .inr ⟨j.ptr t,.inl rfl⟩) (λf o ho=>⟨o,ho,rfl,rfl,id⟩) (by
   intro t cs ht;have hs:=h.slot t;rw [ht] at hs;rcases hs.2.dp with h1|h1
   ·exact .inl h1
   ·exact absurd h1 (j.box t cs ht))
  (by
   intro f o b ho hb;obtain ⟨I,cells,_,_,_,_,g5⟩:=(h.jr f o ho).row;rcases (g5 b hb).1 with h1|h1
   ·exact .inl h1
   ·exact absurd h1 (j.jr f o b ho hb))
  (by intro f o I cells b ho hp hz hI gh hb k hk;obtain ⟨I',Qv,g1,_,g3,_,g5⟩:=(h.jr f o ho).row;rw [hI] at g1;cases g1;rw [wh gh g3 hb] at hk⊢;exact (g5 b hb).2.2 hp hz k hk)
  (λb hb=>⟨j.new b hb,by omega⟩)
 have he:{e with m:=B.bA}=e:=by cases e;simp at hm⊢;exact hm.symm
 rw [he] at this;exact this
theorem Q1 {d:Nat}{s:Slot}{K:St->Option R}(hK:bM c st (some d) s K=some r):dD (aH st.fr d)=false/\d∉st.dg/\d<c.n:=by
 simp only [bM] at hK;cases C7:AE d||(acO c.n d||dD (aH st.fr d)) with
 |true=>simp [C7] at hK
 |false=>
  obtain ⟨_,hb⟩:=aaV.1 C7;obtain ⟨xS,xK⟩:=aaV.1 hb;simp only [C7,cond_false,wr] at hK;cases hp:bU st.dg d with
  |true=>simp [hp] at hK
  |false=>
   refine ⟨xK,λhm=> ?_,?_⟩
   ·rw [<-ck,hp] at hm;cases hm
   ·by_cases hh:d<c.n
    ·exact hh
    ·rw [adq (by omega)] at xS;cases xS
theorem Wl {code:Code}{q:Rng}(h:X6 code=some q):code=q.code/\q.o1.toList=[q.a1,q.b1]/\q.o2.toList=q.a2::q.r2/\q.o3.toList=q.a3::q.r3/\q.a1.op= .move q.x/\q.a1.dst=some q.d1/\ q.b1.op= .range q.t (.tmp q.d1)/\q.b1.dst=some q.d2/\q.a2.op= .next (.tmp q.d2) false/\q.a3.op= .entry (.tmp q.d2)/\q.a1.guard=none/\q.b1.guard=none/\q.a2.guard=none/\q.a3.guard=none:=by
 have hN: ∀{α:Type} {x:Option α},isNone x=true->x=none:=by intro α x hx;cases x<;>first|rfl|cases hx
 unfold X6 at h;split at h
 ·rename_i i1 o1 k i2 o2 cx kx k5 i3 o3 rest;split at h
  ·rename_i a1 b1 a2 r2 a3 r3 e1 e2 e3;split at h
   ·rename_i x d1 d2 g1 g2 g3;split at h
    ·rename_i t g4;cases hb:akp a2 d2&&(akq a3 d2&&(isNone a1.guard&&(isNone b1.guard&&(isNone a2.guard&&isNone a3.guard)))) with
     |false=>rw [hb] at h;cases h
     |true=>
      rw [hb] at h;simp only [cond_true,AI] at h;subst h;simp only [fj] at hb;obtain ⟨k1,k2,k3,k4,k5',k6⟩:=hb;refine ⟨rfl,e1,e2,e3,?_,g2,?_,g3,?_,?_,hN k3,hN k4,hN k5',hN k6⟩
      ·unfold ao0 at g1;split at g1
       ·rename_i y hy;cases g1;exact hy
       ·cases g1
      ·unfold ao1 at g4;split at g4
       ·rename_i t' y hy;cases hyd:No y d1 with
        |false=>rw [hyd] at g4;cases g4
        |true=>rw [hyd] at g4;simp only [cond_true,AI] at g4;subst g4;rw [hy,sh hyd]
       ·cases g4
      ·unfold akp at k1;split at k1
       ·rename_i y hy;rw [hy,sh k1]
       ·cases k1
      ·unfold akq at k2;split at k2
       ·rename_i y hy;rw [hy,sh k2]
       ·cases k2
    ·cases h
   ·cases h
  ·cases h
 ·cases h
theorem Wm {g:Nat} {φ:Ph}{w1:World} {o o':Obj}(hz:Zi.In g)(hw:w1=w\/w1=w.drew)(ho:w.heap[g]? =some o)(hf: ∀x y z,o≠ .cells x y z) (hf': ∀x y z,o'≠ .cells x y z):Trans Zi.In φ w φ (IT w1 g o'):=by
 have hh:w1.heap=w.heap:=by rcases hw with rfl|rfl<;>rfl
 refine ⟨.refl _,λb hb hl=> ?_,λ_ _ _=>rfl,?_,?_⟩
 ·simp only [IT,hh];rw [aaP (by intro he;subst he;exact hb hz)]
 ·simp [IT,hh]
 ·refine ⟨by rcases hw with rfl|rfl<;>rfl,by rcases hw with rfl|rfl<;>rfl,by rcases hw with rfl|rfl<;>rfl,λx=> ?_⟩;unfold ag5;by_cases hx:x.block=g
  ·have hl:=bR ho;have e1:(IT w1 g o').heap[x.block]? =some o':=by rw [hx];simp [IT,hh,hl]
   rw [e1,hx,ho];cases o<;>cases o'<;>first|rfl|(exfalso;exact hf _ _ _ rfl)|(exfalso;exact hf' _ _ _ rfl)
  ·have e1:(IT w1 g o').heap[x.block]? =w.heap[x.block]? :=by simp only [IT,hh];rw [aaP (ahV hx)]
   rw [e1]
end
end
end Dn
/-
  Going through a map, in whatever order: it does what is said. Conditions: none.
-/
namespace Dn
open Go
section
variable {P:Program}{c:Ctx}{Z Zb Zi:b8} {e e' e3:Env}{st cB ra B:St} {a a':Act} {w w':World}{R:Type}{r:R}{Q:Exit->Act->World->Prop}{o:Oper}{hn:p0}
theorem O2 {ops:Array Oper}{i:Nat}{nx:Act->World->Prop}(hi:ops[i]? =some o)(hg:o.guard=none)(h:o.wp P a w nx Q):wpOp P ops Q i nx a w:=by
 unfold wpOp;simp only [hi];have:aaK o (yielded ops a.tmps)=true:=by unfold aaK;rw [hg]
 rw [this];simp only [if_true];exact .inl h
theorem Fg {id:Nat}{ops:Array Oper}{l:List Oper}{nx:Act->World->Prop}(hl:ops.toList=o::l)(hg:o.guard=none)(h:o.wp P a w nx Q)(hn: ∀a' w',nx a' w'->wpOps P ops Q ((IS l.length).map (· +1)) a' w'):(aji id ops false).wp P Q a w:=by
 refine wp_region ?_;have hs:ops.size=l.length+1:=by rw [<-aaQ,hl];rfl
 rw [hs,List.range_succ_eq_map,wpOps_cons];have h0:ops[0]? =some o:=by rw [<-aaR,hl];rfl
 exact wpOp_mono hn (O2 h0 hg h)
theorem KV {ops:Array Oper}{l:List Oper}(hl:ops.toList=o::l):((IS l.length).map (· +1)).map (ops[·]?)=l.map some:=by
 apply afP;intro i;simp only [acs];by_cases hi:i<l.length
 ·have:ops[i+1]? =l[i]? :=by rw [<-aaR,hl];rfl
  simp [aic hi,this,hi]
 ·have h1:(IS l.length)[i]? =none:=by simp;omega
  have h2:l[i]? =none:=by simp;omega
  rw [h1,h2];rfl
def b8.wd (Z:b8)(g:Nat):b8:={Z with In:=λb=>Z.In b\/b=g}
theorem KW {g:Nat}{m:Option Nat}{s:Nat}{seen:Array Nat}{k:Nat}(h:cF c Z e st a w)(hg:w.heap[g]? =some (.mapIter m s seen k)): (∀t cs,aH st.fr t= .box cs->e.B t≠g)/\(∀f o,bj st.bA f=some o->(e.E f).ownBlock≠some g):=by
 refine ⟨λt cs ht he=> ?_,λf o ho he=> ?_⟩
 ·have hs:=h.slot t;rw [ht] at hs;obtain ⟨ob,h1,h2⟩:=hs.2.obj;rw [he,hg] at h1;cases h1;exact h2.elim
 ·obtain ⟨I,cells,_,_,h3,_⟩:=(h.jr f o ho).row;rcases h3.2 with ⟨h1,_⟩|⟨g',cap,gV,h1,_,h2,_⟩
  ·rw [h1] at he;cases he
  ·rw [h1] at he;simp only [afA,AI] at he;subst he;rw [hg] at h2;cases h2
theorem kN.wide {g:Nat}{m:Option Nat}{s:Nat}{seen:Array Nat}{k:Nat}(j:kN c Zb Zi e B hn a w)(hz:Zb.In g)(hg:w.heap[g]? =some (.mapIter m s seen k)):kN c Zb (Zi.wd g) e B hn a w:=by obtain ⟨h1,h2⟩:=KW j.wo hg;exact ⟨j.wo,λb hb=>hb.elim (j.sub b) (λhe=>by rw [he];exact hz),λb hb=> .inl (j.new b hb),j.dg,j.T,j.keys,λt cs ht hz=>hz.elim (j.box t cs ht) (h1 t cs ht),λf o b ho hb hz=>hz.elim (j.jr f o b ho hb) (λhe=>h2 f o ho (by rw [hb,he])),j.acp,j.Zu,j.ptr,j.men⟩
theorem kN.av2 {g:Nat}(j:kN c Zi Zi e B hn a w):cF c (Zi.wd g) e B a w:=by
 have h:=j.wo;have hm:e.m=B.bA:=h.m;have:=h.sub (Zi:=Zi.wd g) (cB:=B) (λ_ h=>h) ⟨h.defers.2.1,h.defers.2.2.1,h.defers.2.2.2⟩ h.nodup (λt=> .inr ⟨j.ptr t,.inl rfl⟩) (λf o ho=>⟨o,ho,rfl,rfl,id⟩) (by
   intro t cs ht;have hs:=h.slot t;rw [ht] at hs;rcases hs.2.dp with h1|h1
   ·exact .inl h1
   ·exact .inr (.inl h1))
  (by
   intro f o b ho hb;obtain ⟨I,cells,_,_,_,_,g5⟩:=(h.jr f o ho).row;rcases (g5 b hb).1 with h1|h1
   ·exact .inl h1
   ·exact .inr (.inl h1))
  (by intro f o I cells b ho hp hz hI gh hb k hk;obtain ⟨I',Qv,g1,_,g3,_,g5⟩:=(h.jr f o ho).row;rw [hI] at g1;cases g1;rw [wh gh g3 hb] at hk⊢;exact (g5 b hb).2.2 hp hz k hk)
  (λb hb=> .inl (j.new b hb))
 have he:{e with m:=B.bA}=e:=by cases e;simp at hm⊢;exact hm.symm
 rw [he] at this;exact this
theorem kN.ao3 {g:Nat}{m:Option Nat}{s:Nat}{seen:Array Nat}{k:Nat}(j:kN c Zi Zi e B hn a w)(hg:w.heap[g]? =some (.mapIter m s seen k)):kN c (Zi.wd g) (Zi.wd g) e B hn a w:=by obtain ⟨h1,h2⟩:=KW j.wo hg;exact ⟨j.av2,λb hb=>hb,λb hb=> .inl (j.new b hb),j.dg,j.T,j.keys,λt cs ht hz=>hz.elim (j.box t cs ht) (h1 t cs ht),λf o b ho hb hz=>hz.elim (j.jr f o b ho hb) (λhe=>h2 f o ho (by rw [hb,he])),j.acp,j.Zu,j.ptr,j.men⟩
theorem DY {k n:Nat}(h:Q (lU (bif No n (k+2) then 0 else n)) a w):abU k Q (lU n) a w:=by
 by_cases hk:n=k+2
 ·subst hk;simp only [fc,decide_true,cond_true] at h;simpa [lU,abU] using h
 ·simp only [fc,hk,decide_false,cond_false] at h;match n,hk,h with
  |0,_,h=>exact h
  |1,_,h=>exact h
  |i+2,hk,h=>have hi:i≠k:=λhe=>hk (by rw [he]);simpa [lU,abU,hi] using h
theorem Q2 {α:Type}{l:List α}{i:Nat}{x:α}(h:l[i]? =some x):x∈l:=agf h
theorem akt (hG:Good P c)(hD:KC P c){q:Rng}{code:Code}(hq:X6 code=some q){K:Nat->St->Option R}(h:cF c Z e st a w)(hK:aks c q st K=some r)(hQ: ∀n e' cB a' w',cF c Z e' cB a' w'->Trans Z.In e.φ w e'.φ w'->K n cB=some r->Q (lU n) a' w'):code.wp P Q a w:=by
 obtain ⟨rfl,l1,l2,l3,m1,m2,m3,m4,m5,m6,g1,g2,g3,g4⟩:=Wl hq;unfold aks at hK;unfold Rng.code;refine wp_seq ?_;obtain ⟨hx,hrx⟩:=h.eval q.x;refine Fg l1 g1 (fin (v:=a.eval q.x) (s:=aX c st q.x) (by simp [execOp,m1]) h (.refl _ _ _) (.of hx hrx) (by rw [m2];exact hK)) ?_;rintro a1 w1 ⟨e1,dC,h1,t1,ol⟩;try dsimp only at ol
 obtain ⟨SB,_⟩:=h1.eval (.tmp q.d1);split at ol
 ·rename_i root s0 hr0 hs0;rw [hr0] at SB;split at ol
  ·rename_i s es0 tJ;cases hp:AE root||!msB s s0 with
   |true=>rw [hp] at ol;cases ol
   |false=>
    rw [hp] at ol;simp only [cond_false] at ol;simp only [aaV,agI] at hp;obtain ⟨Db,XR⟩:=hp;have XR:=VW XR;subst XR;have hit:=XT hs0;simp only [ao] at SB;have nt:=h1.slot root;rw [tJ] at nt;obtain ⟨ob,Y7,dr⟩:=nt.2.obj;obtain ⟨arr,clock,rfl,xJ⟩: ∃arr clock,ob= .map arr clock/\sw s arr clock es0:=by
     cases ob with
     |cells x y z=>exact absurd dr.2.AU (by simp [gY])
     |map arr clock=>obtain ⟨s2,ms2,k1,k2,k3⟩:=dr;simp only [acZ,aT.mp.injEq,and_true] at k1;obtain ⟨rfl,rfl⟩:=k1;exact ⟨arr,clock,rfl,k3⟩
     |stringIter b pos=>have k1:[aT.mp s es0]=[aT.mp MS.it _]:=dr;simp only [acZ,aT.mp.injEq,and_true] at k1;rw [k1.1] at hit;cases hit
     |_=>exact dr.elim
    obtain ⟨kt,el,kK,_⟩:=(hG.mt q.t s hs0).row;have cV:=run_range_map (P:=P) w1 q.t kt el (e1.B root) arr clock kK Y7;obtain ⟨hnb,hnp,eE⟩:=Q1 ol;have eu:root≠q.d2:=by intro he;rw [<-he,tJ] at hnb;cases hnb
    have Vn:fa w1 (w1.alloc (.mapIter (some (e1.B root)) clock #[] clock)):=by
     refine ⟨by simp,λk hk=>rV w1 _ k hk,⟨rfl,rfl,rfl,λx=> ?_⟩⟩;by_cases hx:x.block=w1.heap.size
     ·have e1':(w1.alloc (.mapIter (some (e1.B root)) clock #[] clock)).heap[x.block]? =some (.mapIter (some (e1.B root)) clock #[] clock):=by rw [hx];exact kb w1 _
      have e2:w1.heap[x.block]? =none:=by rw [hx];simp
      simp [ag5,e1',e2]
     ·exact World.frozen?_alloc_old _ _ _ hx
    rw [ahm];show wpOps P q.o1 _ [1] a1 w1;rw [wpOps_cons];have xW:q.o1[1]? =some q.b1:=by rw [<-aaR,l1];rfl
    refine O2 xW g2 ?_;unfold ahg;have hex:(execOp a1.eval q.b1).run P w1= .ok (.value (.pointer (some ⟨w1.heap.size,0,none⟩))) (w1.alloc (.mapIter (some (e1.B root)) clock #[] clock)):=by simp [execOp,m3,SB,cV,afN]
    rw [hex,agC,m4];obtain ⟨e2,eM,h2,yS,hφ2⟩:=ec (v:= .pointer (some ⟨w1.heap.size,0,none⟩)) (s:= .sc .un) (h1.grow Vn) (by simp [rr,ao,dq]) ol;have uP:(a1.put (some q.d2) (.pointer (some ⟨w1.heap.size,0,none⟩))).tmps.getD q.d2 undef= .pointer (some ⟨w1.heap.size,0,none⟩):=by rw [Act.AQ (by rw [h1.size];exact eE),if_pos rfl]
    have hto: ∀t,t≠q.d2->(a1.put (some q.d2) (.pointer (some ⟨w1.heap.size,0,none⟩))).tmps.getD t undef=a1.tmps.getD t undef:=λt ht=>by rw [Act.AQ (by rw [h1.size];exact eE),if_neg ht]
    generalize a1.put (some q.d2) (.pointer (some ⟨w1.heap.size,0,none⟩))=a2 at h2 uP hto⊢;have hib:(w1.alloc (.mapIter (some (e1.B root)) clock #[] clock)).heap[w1.heap.size]? =some (.mapIter (some (e1.B root)) clock #[] clock):=kb w1 _;have hbm:(w1.alloc (.mapIter (some (e1.B root)) clock #[] clock)).heap[e1.B root]? =some (.map arr clock):=by rw [rV w1 _ _ (bR Y7)];exact Y7
    have av3:Z.In w1.heap.size:=h1.dp _ (aa0 _);have t12:Trans Z.In e.φ w e2.φ (w1.alloc (.mapIter (some (e1.B root)) clock #[] clock)):=by rw [hφ2];exact t1.trans (Vn.trans h1.dp _)
    have aku:a1.tmps.getD root undef= .map (some (e1.B root)):=by have:=nt.1.1 Db;rw [this];simp [J0,mG,hit]
    generalize hbq:e1.B root=bm at *;generalize hiq:w1.heap.size=ib at *;generalize w1.alloc (.mapIter (some bm) clock #[] clock)=w2 at *;clear cV hex Vn Y7;show (Code.block q.k (.loop q.body)).wp P Q a2 w2;refine wp_block (wp_loop_rounds (arr.size+1) ?_);generalize hhn:c.xI q.i2=hn at yS;obtain ⟨Zi,e3,e4,ra,st4,h3,t3,hφ,hk,j1,j2,lz,Wc,SL⟩:=E1 h2 yS;split at SL
    ·rename_i s2 es aAe aiU;cases J7:s2.st||(!EG s2.lay [.s]||(s2.b||!bU st4.dg q.d2)) with
     |true=>rw [J7] at SL;cases SL
     |false=>
      rw [J7] at SL;simp only [cond_false] at SL;simp only [aaV,agI] at J7;obtain ⟨c1,c2,c3,c4⟩:=J7;have c2:=XO c2;obtain ⟨⟨n,ms⟩,hR,hK4⟩:=tL SL;have hK4:=KB hK4;obtain ⟨mz,Tf⟩:=Tp hR;have hd2:q.d2∈Zi.dg:=by rw [<-j2.wo.defers.2.1];exact (ck _ _).1 c4
      have hTd:Zi.T q.d2= .pointer (some ⟨ib,0,none⟩):=by rw [<-j2.T _ hd2];exact uP
      have hs4:=j2.wo.slot root;rw [aiU] at hs4;have av5:EF s2=false:=by simp [EF,c2]
      have hb4:e4.B root=bm:=by have:=hs4.1.1 Db;rw [hto root eu,aku] at this;simp [J0,mG,av5] at this;exact this.symm
      have hm4:sw s2 arr clock es:=by obtain ⟨ob,k1,k2⟩:=hs4.2.obj;rw [hb4,hbm] at k1;cases k1;obtain ⟨s3,ms3,k3,_,k4⟩:=k2;simp only [acZ,aT.mp.injEq,and_true] at k3;obtain ⟨rfl,rfl⟩:=k3;exact k4
      have hnz: ¬Zi.In bm:=by have:=j2.box root _ aiU;rwa [hb4] at this
      have hbi:bm≠ib:=by intro he;rw [he,hib] at hbm;cases hbm
      have X7: ∀(i:Nat) (x:MapEntry),arr[i]? =some x->x.born=i/\ ∃m,es[i]? =some m/\abv s2 x m i:=by
       intro i x hx;have hi:i<es.length:=by rw [<-hm4.size];exact (aaY.1 hx).1
       have he:=hm4.ent i x es[i] hx (IN hi);exact ⟨he.1,es[i],IN hi,he⟩
      have hold: ∀x∈arr.toList,x.born<clock:=by
       intro x hx;obtain ⟨i,hi,he⟩:=abA.1 hx;have Ox:arr[i]? =some x:=by rw [<-aaR,IN hi,he]
       rw [(X7 i x Ox).1,hm4.clock,<-hm4.size];simpa using hi
      have hnd:(arr.toList.map (·.born)).Nodup:=by
       have:arr.toList.map (·.born)=IS arr.toList.length:=by
        apply afP;intro i;rw [acs];by_cases hi:i<arr.toList.length
        ·rw [IN hi,aic hi];have Ox:arr[i]? =some arr.toList[i]:=by rw [<-aaR,IN hi]
         simp only [agA,(X7 i _ Ox).1]
        ·rw [adL (by omega),adL (by simp at hi⊢;omega)];rfl
       rw [this];exact List.nodup_range
      have hzw:(Zi.wd ib).dg=Zi.dg:=rfl;have key: ∀(k:Nat) (φ:Ph) (a:Act) (w:World) (seen:Array Nat),kN c Z (Zi.wd ib) {e4 with φ:=φ} (yX eM st4) hn a w->kN c (Zi.wd ib) (Zi.wd ib) {e4 with φ:=φ} st4 hn a w-> Trans Z.In e2.φ w2 φ w->w.heap[ib]? =some (.mapIter (some bm) clock seen clock)->w.heap[bm]? =some (.map arr clock)-> (∀b∈seen.toList,∃m,es[b]? =some m/\ag4 c q st4 m=some (.inl ()))->(leftOf arr seen).size<k->ahr P q.body (abU q.k Q) k a w:=by
       intro k;induction k with
       |zero=>intro φ a w seen _ _ _ _ _ _ hl;omega
       |succ k ih=>
        intro φ a w seen j1 j2 t0 hib hbm aiV hl;have akv:=bR hib;have aCt:=bR hbm;have IW:a.tmps.getD q.d2 undef= .pointer (some ⟨ib,0,none⟩):=by rw [j2.T _ hd2];exact hTd
        have leave: ∀(n':Nat) (e6:Env) (st6:St) (a6:Act) (w6:World) (w':World) (vs:List MV),kN c Z (Zi.wd ib) {e4 with φ:=φ} (yX eM st4) hn a w'->Trans Z.In e2.φ w2 φ w'->ib<w'.heap.size-> cF c ((Zi.wd ib).cv ib) e6 st6 a6 w6->Trans ((Zi.wd ib).cv ib).In φ w' e6.φ w6->TO st6 [] (hn.ex n') vs->(n',vs)=(n,ms)->abU q.k Q (lU n') a6 w6:=by intro n' e6 st6 a6 w6 w' vs jj tt G4 h6 t6 hT ju;cases ju;have jl:=(jj.ao2 G4).later t6 h6.q9 h6.defers.1 h6.size h6.defers.2.2.2;obtain ⟨s1,s2,s3⟩:=QO (hn:=hn) (e:=n);obtain ⟨e7,st7,q1,q2,q3⟩:=E3 jl h6 rfl ⟨s1,s2⟩ (s3 Wc) hT hK4;refine DY (hQ _ e7 st7 a6 w6 q1 ?_ q3);rw [q2];exact t12.trans (tt.trans (t6.sup λb hb=>jj.sub b hb.1))
        rw [rounds_succ];unfold Rng.body;refine wp_seq ?_;rcases run_next_at (P:=P) w q.a2.type ib bm clock clock seen arr clock hib hbm hold (aa0 _) with ⟨hz,hnx⟩|⟨x,hxm,w1',hw1,hnx⟩
        ·have hD1:akr c q st4=some (n,ms):=by
          refine Tf λm hm=> ?_;obtain ⟨i,hi,he⟩:=abA.1 hm;have hia:i<arr.size:=by rw [hm4.size];exact hi
          have Ox:arr[i]? =some arr[i]:=Array.getElem?_eq_getElem hia;have hs:=all_seen arr seen hz arr[i] (by simp);rw [(X7 i _ Ox).1] at hs;obtain ⟨m',k1,k2⟩:=aiV i (by simpa using hs);rw [IN hi,he] at k1;cases k1;exact k2
         unfold akr at hD1;have hex:(execOp a.eval q.a2).run P w= .ok (.value (.tuple #[.bool false])) w:=by have hv:a.eval (.tmp q.d2)= .pointer (some ⟨ib,0,none⟩):=IW;simp [execOp,m5,hv,hnx,afN]
         refine Fg l2 g3 (fin (s:= .cM [.sc (.p (.b false))]) hex (j2.aiS akv) (.refl _ _ _) ⟨?_,trivial⟩ hD1) ?_
         ·simp only [ao];exact ⟨_,rfl,.bool false,_,rfl,An _,rfl,rfl⟩
         ·rintro a5 w5 ⟨e5,st5,h5,t5,hK5⟩;try dsimp only at hK5
          refine QL hG (KV l2) h5 hK5 t5 ?_;rintro a6 w6 ⟨e6,st6,h6,t6,V6⟩;try dsimp only at V6
          obtain ⟨hcx,_⟩:=h6.eval q.cx;split at V6
          ·rename_i hb;rw [hb] at hcx;obtain ⟨vs,hT,ju⟩:=o7 V6;simp only [AI] at ju;rw [hhn] at hT;refine wp_seq (wp_cond_false (AR hcx) (wp_exit ?_));exact leave (q.kx+2) e6 st6 a6 w6 w vs j1 t0 akv h6 t6 hT ju
          ·cases V6
        ·obtain ⟨hxa,hxs⟩:=mem_left hxm;obtain ⟨i,hi,he⟩:=abA.1 hxa;have Ox:arr[i]? =some x:=by rw [<-aaR,IN hi,he]
         obtain ⟨ET,m,Zo,av6⟩:=X7 i x Ox;obtain ⟨_,ks,v,rfl,Vm,hxk,hvb,hxv⟩:=av6;have hmm:=Q2 Zo;obtain ⟨res,Aq,Ke⟩: ∃res,ag4 c q st4 (.cM [.agg ks,v])=some res/\(res= .inl ()\/res= .inr (n,ms)):=by
          rcases mz _ hmm with h|h
          ·exact ⟨_,h,.inl rfl⟩
          ·exact ⟨_,h,.inr rfl⟩
         obtain ⟨Wn,rfl⟩: ∃Wn,ks=[.s Wn]:=by
          rw [c2] at Vm;match ks,Vm with
          |[.s l],_=>exact ⟨l,rfl⟩
         obtain ⟨n0,rfl⟩: ∃n0,v= .i .i64 n0:=by
          rw [c3] at hvb;match v,hvb with
          | .i .i64 n0,_=>exact ⟨n0,rfl⟩
         have hxk:x.key= .string ⟨Wn.toArray⟩:=by rw [hxk,c1];rfl
         have hxv:x.val= .int .i64 n0:=by rw [hxv,c3];rfl
         have ao6:=Aq;unfold ag4 at Aq;simp only [Tn,gT,gC,gA,gN,gS,gI,decide_true,cond_true] at Aq;have hzi:(Zi.wd ib).In ib:= .inr rfl;have H2:Trans (Zi.wd ib).In φ w φ (IT w1' ib (.mapIter (some bm) clock (seen.push x.born) clock)):=Wm hzi hw1 hib (λ_ _ _ h=>by cases h) (λ_ _ _ h=>by cases h);have hh1:w1'.heap=w.heap:=by rcases hw1 with rfl|rfl<;>rfl
         have ag6:(IT w1' ib (.mapIter (some bm) clock (seen.push x.born) clock)).heap[ib]? =some (.mapIter (some bm) clock (seen.push x.born) clock):=by simp [IT,hh1,akv]
         have pO:EV φ (IT w1' ib (.mapIter (some bm) clock (seen.push x.born) clock)):=by
          intro b o u hu;have h0:=j2.wo.q9 b o u hu;have av8:b≠ib:=by
           intro VT;subst VT;have:w.cell? ⟨b,o,none⟩=none:=by simp [World.cell?,hib]
           rw [this] at h0;cases h0
          have Aa:(IT w1' ib (.mapIter (some bm) clock (seen.push x.born) clock)).heap[b]? =w.heap[b]? :=by simp only [IT,hh1];rw [aaP (ahV av8)]
          rw [aa1 Aa];exact h0
         have ac9:(IT w1' ib (.mapIter (some bm) clock (seen.push x.born) clock)).heap[bm]? =some (.map arr clock):=by simp only [IT,hh1];rw [aaP (ahV hbi)];exact hbm
         generalize IT w1' ib (.mapIter (some bm) clock (seen.push x.born) clock)=w' at hnx H2 ag6 pO ac9;have J1:=j1.later H2 pO j1.wo.defers.1 j1.wo.size j1.T;have J2:=j2.later H2 pO j2.wo.defers.1 j2.wo.size j2.T;have T0:=t0.trans (H2.sup j1.sub);have X8:=bR ag6;have S:=J2.aiS X8;have hex:(execOp a.eval q.a2).run P w= .ok (.value (.tuple #[.bool true,x.key,x.val])) w':=by have hv:a.eval (.tmp q.d2)= .pointer (some ⟨ib,0,none⟩):=IW;simp [execOp,m5,hv,hnx,afN]
         have kS: ∀ee:Env,ao ee x.key (.sc (.p (.s Wn))):=λee=>by have:=aby (e:=ee) ⟨Wn.toArray⟩;rw [hxk];simpa using this
         have vS: ∀ee:Env,ao ee x.val (.sc (.p (.i .i64 n0))):=λee=>by rw [hxv];exact tK _ _
         obtain ⟨e5,st5,h5,hK5,hφ5⟩:=ec (v:= .tuple #[.bool true,x.key,x.val]) (s:= .cM [.sc (.p (.b true)),.sc (.p (.s Wn)),.sc (.p (.i .i64 n0))]) S ⟨by simp only [ao];exact ⟨_,rfl,.bool true,_,rfl,An _,rfl,x.key,_,rfl,kS _,rfl,x.val,[],rfl,vS _,rfl,rfl⟩,trivial⟩ Aq;refine Fg l2 g3 (nx:=λa5 w5=>a5=a.put q.a2.dst (.tuple #[.bool true,x.key,x.val])/\w5=w') ?_ ?_
         ·unfold ahg;rw [hex,agC];exact ⟨rfl,rfl⟩
         ·rintro a5 w5 ⟨rfl,rfl⟩;refine QL hG (KV l2) h5 hK5 (φ0:=φ) (w0:=w5) (by rw [hφ5];exact .refl _ _ _) ?_;rintro a6 w6 ⟨e6,st6,h6,t6,V6⟩;try dsimp only at V6
          obtain ⟨hcx,_⟩:=h6.eval q.cx;split at V6
          ·rename_i hb;rw [hb] at hcx;refine wp_seq (wp_cond_true (AR hcx) (wp_skip ?_));refine wp_block (wp_seq ?_);have ao7: ¬((Zi.wd ib).cv ib).In ib:=λhz=>hz.2 rfl;have ao8: ¬((Zi.wd ib).cv ib).In bm:=λhz=>hz.1.elim hnz hbi;have av9:w6.heap[ib]? =some (.mapIter (some bm) clock (seen.push x.born) clock):=by rw [t6.heap ib ao7 X8];exact ag6
           have awa:w6.heap[bm]? =some (.map arr clock):=by rw [t6.heap bm ao8 (bR ac9)];exact ac9
           have ao9:=run_entry_at (P:=P) w6 ib bm clock seen arr clock x av9 awa hxa hnd;have apa:a6.eval (.tmp q.d2)= .pointer (some ⟨ib,0,none⟩):=by have:=h6.defers.2.2.2 q.d2 hd2;show a6.tmps.getD q.d2 undef=_;rw [this];exact hTd
           have awb:(execOp a6.eval q.a3).run P w6= .ok (.value (.tuple #[x.key,x.val])) w6:=by simp [execOp,m6,apa,ao9,afN]
           refine Fg l3 g4 (fin (s:= .cM [.sc (.p (.s Wn)),.sc (.p (.i .i64 n0))]) awb h6 (.refl _ _ _) ⟨?_,trivial⟩ V6) ?_
           ·simp only [ao];exact ⟨_,rfl,x.key,_,rfl,kS _,rfl,x.val,[],rfl,vS _,rfl,rfl⟩
           ·rintro a7 w7 ⟨e7,st7,h7,t7,hK7⟩;try dsimp only at hK7
            refine QL hG (KV l3) h7 hK7 (t6.trans t7) ?_;rintro a8 w8 ⟨e8,st8,h8,t8,hK8⟩;try dsimp only at hK8
            refine wB hG hD q.rest h8 hK8 ?_;intro n' e9 st9 a9 w9 h9 t9 hK9;try dsimp only at hK9
            have t89:=t8.trans t9;cases hgo:No n' 0||No n' (q.k5+2) with
            |true=>
             rw [hgo] at hK9;simp only [cond_true,AI] at hK9;have Nl:ahr P q.body (abU q.k Q) k a9 w9:=by
              have tW:Trans (Zi.wd ib).In φ w5 e9.φ w9:=t89.sup λb hb=>hb.1;refine ih e9.φ a9 w9 (seen.push x.born) (J1.later tW h9.q9 h9.defers.1 h9.size h9.defers.2.2.2) (J2.later tW h9.q9 h9.defers.1 h9.size h9.defers.2.2.2) (T0.trans (tW.sup j1.sub)) ?_ ?_ ?_ ?_
              ·rw [t89.heap ib ao7 X8];exact ag6
              ·rw [t89.heap bm ao8 (bR ac9)];exact ac9
              ·intro b ag7;simp only [Array.toList_push,aaU,aih] at ag7;rcases ag7 with ag7|rfl
               ·exact aiV b ag7
               ·rw [ET];exact ⟨_,Zo,by rw [ao6,<-hK9]⟩
              ·have:=left_shrinks arr seen x hxm;omega
             refine DY (Q:=Exit.then (ahr P q.body (abU q.k Q) k) (abU q.k Q)) ?_;have:(bif No n' (q.k5+2) then 0 else n')=0:=by
              rcases Bool.or_eq_true_iff.1 hgo with h|h
              ·have:=sh h;subst this;cases No 0 (q.k5+2)<;>rfl
              ·rw [h];rfl
             rw [this];exact Nl
            |false=>
             rw [hgo] at hK9;simp only [cond_false] at hK9;obtain ⟨vs,hT,ju⟩:=o7 hK9;simp only [AI] at ju;rw [hhn] at hT;simp only [aaV] at hgo;have hn0:n'≠0:=by intro he;rw [he] at hgo;simp [fc] at hgo
             have awc:(n',vs)=(n,ms):=by
              rcases Ke with h|h
              ·rw [h] at ju;cases ju
              ·rw [h] at ju;cases ju;rfl
             have:=leave n' e9 st9 a9 w9 w5 vs J1 T0 X8 h9 t89 hT awc;refine DY (Q:=Exit.then (ahr P q.body (abU q.k Q) k) (abU q.k Q)) ?_;rw [hgo.2];simp only [cond_false];rw [xX hn0];exact this
          ·cases V6
      have hφ4:{e4 with φ:=e4.φ}=e4:=by cases e4;rfl
      refine key (arr.size+1) e4.φ a2 w2 #[] (by rw [hφ4];exact j1.wide av3 hib) (by rw [hφ4];exact j2.ao3 hib) (by rw [hφ];exact t3) hib hbm (by simp) ?_;have:(leftOf arr #[]).size<=arr.size:=by unfold leftOf;exact Array.size_filter_le
      omega
    ·cases SL
  ·cases ol
 ·cases ol
end
end Dn
/-
  Functions of the library as table entries. Conditions: none.
-/
namespace Dn
open Go
def jT (size bytes:Nat):List MV->Option MV
 |[.list xs]=>bif oa size xs&&acO (xs.length *bytes) (2^46) then some (.fresh xs) else none
 |_=>none
def qi (bytes:Nat):List MV->Option MV
 |[.fresh xs,.i .i64 i,.fresh ys]=>bif decide (0<=i)&&(acO i.toNat xs.length&&(!ys.isEmpty&&acO ((xs.length+ys.length) *bytes) (2^46))) then some (.fresh (xs.take i.toNat++ys++xs.drop i.toNat)) else none
 |_=>none
theorem sE {size bytes:Nat}{ms:List MV}{r:MV}(h:jT size bytes ms=some r): ∃xs,ms=[.list xs]/\r= .fresh xs/\oa size xs=true/\xs.length *bytes<=2^46:=by
 unfold jT at h;split at h
 ·rename_i xs;cases hb:oa size xs&&acO (xs.length *bytes) (2^46) with
  |false=>simp [hb] at h
  |true=>simp only [hb,cond_true,AI] at h;simp only [fj] at hb;exact ⟨xs,rfl,h.symm,hb.1,aay hb.2⟩
 ·cases h
theorem Fh {bytes:Nat}{ms:List MV}{r:MV}(h:qi bytes ms=some r): ∃xs ys i,ms=[.fresh xs,.i .i64 ((i:Nat):Int),.fresh ys]/\r= .fresh (xs.take i++ys++xs.drop i)/\i<=xs.length/\ys≠[]/\(xs.length+ys.length) *bytes<=2^46:=by
 unfold qi at h;split at h
 ·rename_i xs i ys;cases hb:decide (0<=i)&&(acO i.toNat xs.length&&(!ys.isEmpty&&acO ((xs.length+ys.length) *bytes) (2^46))) with
  |false=>rw [hb] at h;cases h
  |true=>
   simp only [hb,cond_true,AI] at h;simp only [fj,decide_eq_true_eq,aav] at hb;obtain ⟨h1,h2,h3,h4⟩:=hb;refine ⟨xs,ys,i.toNat,?_,h.symm,aay h2,?_,aay h4⟩
   ·rw [Int.toNat_of_nonneg h1]
   ·intro hy;subst hy;simp at h3
 ·cases h
theorem dV.none (P:Program)(c:Ctx):dV P c (λ_ _=>Option.none):=⟨λf ms r h=>by cases h⟩
theorem dV.Wo {P:Program}{c:Ctx}{g:Nat->List MV->Option MV}{n:Nat}{F:List MV->Option MV}(h:dV P c g)(xl: ∀f,c.key f=f)(hF: ∀ms r,F ms=some r->mL P c n ms r):dV P c (bt n F g):=h.add (λf ms r hk hr=>by rw [xl] at hk;rw [hk];exact hF ms r hr)
def zn:Code->List Oper
 | .region _ ops _=>ops.toList
 | .seq x y=>zn x++zn y
 | .cond _ x y=>zn x++zn y
 | .block _ x=>zn x
 | .loop x=>zn x
 |_=>[]
def jy (fn:Func)(d:Oper)(k:Nat):Oper:=match fn.body with|some c=>(zn c).getD k d|none=>d
def X9 (o:Nat->Oper):Code:= .seq (.region 18 #[o 83,o 84,o 85,o 86,o 87] false) (.seq (.region 19 #[o 88,o 89,o 90,o 91,o 92] false) (.seq (.region 20 #[o 93,o 94] false) .ret))
def jz:Oper:={dst:=none,op:= .move (.tmp 0),type:=0,pos:= "",after:= #[],guard:=none}
end Dn
/-
  Reasoning about functions on values. Conditions: none.
-/
namespace Dn
open Go
section
variable {R:Type}
@[simp] theorem aCx (x : Bool)(K : Bool -> Option R) : gB (.b x) K = K x := (rfl)
@[simp] theorem aCy (k : IntKind)(x : Int)(K : Int -> Option R) : gI k (.i k x) K = K x := by simp [gI]
@[simp] theorem aCz (x : List UInt8)(K : List UInt8 -> Option R) : gS (.s x) K = K x := (rfl)
@[simp] theorem aCA (x : List MV)(K : List MV -> Option R) : gL (.list x) K = K x := (rfl)
@[simp] theorem aCB (x : lp)(K : lp -> Option R) : gH (.h x) K = K x := (rfl)
@[simp] theorem aCC (x : List MV)(K : List MV -> Option R) : gA (.agg x) K = K x := (rfl)
@[simp] theorem aCD (x : List MV)(K : List MV -> Option R) : gT (.cM x) K = K x := (rfl)
@[simp] theorem aCE (x : List MV)(K : List MV -> Option R) : gF (.fresh x) K = K x := (rfl)
@[simp] theorem aAo (f : Nat)(x : List MV)(K : Nat -> List MV -> Option R) : Xs (.func f x) K = K f x := (rfl)
@[simp] theorem aCF (f : Nat)(x : List MV)(K : MV -> Option R) : gR (.func f x) K = K (.func f x) := (rfl)
@[simp] theorem aCG (m : MV)(r : List MV)(K : MV -> List MV -> Option R) : gC (m :: r) K = K m r := (rfl)
@[simp] theorem aCH (K : Option R) : gN [] K = K := (rfl)
@[simp] theorem ar {α : Type}(a : α)(K : α -> Option R) : bd (some a) K = K a := (rfl)
@[simp] theorem aAp (a b : Nat) : No a b = decide (a = b) := fc a b
@[simp] theorem apb (K : Option R) : b5 true K = K := (rfl)
@[simp] theorem apc (x y : Option R) : aR true x y = x := (rfl)
@[simp] theorem am0 (x y : Option R) : aR false x y = y := (rfl)
end
theorem ag8 {x:Int}(h1: -9223372036854775808<=x)(h2:x<=9223372036854775807):aaJ .i64 x=x:=by rw [afC];omega
theorem aky {i j:Nat}(h:i+j<2^62):aaJ .i64 (aiE (aaJ .u64 (aaJ .i64 ((i:Int)+(j:Int)))) (2^min (ah7 1) (afQ .u64)))=(((i+j)/2:Nat):Int):=by
 have h1:aaJ .i64 ((i:Int)+(j:Int))=((i+j:Nat):Int):=by rw [afC];omega
 have h2:aaJ .u64 ((i+j:Nat):Int)=((i+j:Nat):Int):=by
  have:aaJ .u64 ((i+j:Nat):Int)=((i+j:Nat):Int)%18446744073709551616:=by simp [aaJ,IntKind.signed,afQ]
  rw [this];omega
 have h3:(2:Int)^min (ah7 1) (afQ .u64)=2:=by decide
 rw [h1,h2,h3,Int.fdiv_eq_ediv_of_nonneg _ (by omega)];rw [afC];omega
section
variable {σ R:Type}{body:σ->Option (Sum σ R)}
theorem O3 {n:Nat}{s:σ}{r:R}(h:iter body n s=some r): ∀{m:Nat},n<=m->iter body m s=some r:=by
 induction n generalizing s with
 |zero=>cases h
 |succ n ih=>
  intro m hm;obtain ⟨m,rfl⟩: ∃k,m=k+1:=⟨m-1,by omega⟩
  simp only [iter] at h⊢;cases hb:body s with
  |none=>rw [hb] at h;cases h
  |some x=>
   rw [hb] at h;cases x with
   |inl s'=>exact ih h (by omega)
   |inr r'=>exact h
theorem lg {n:Nat}{s:σ}{r:R}(h:iter body n s=some r):Loop body s=some r:=by
 have he: ∃r n,iter body n s=some r:=⟨r,n,h⟩
 unfold Loop;rw [dif_pos he];obtain ⟨m,hm⟩:=Classical.choose_spec he;have h1:=O3 h (Nat.le_max_left n m);have h2:=O3 hm (Nat.le_max_right n m);rw [h1] at h2;exact h2.symm
theorem ada (I:σ->Prop) (μ:σ->Nat)(Q:R->Prop)(h: ∀s,I s->(∃s',body s=some (.inl s')/\I s'/\μ s'<μ s)\/(∃r,body s=some (.inr r)/\Q r)){s:σ}(hs:I s): ∃r,Loop body s=some r/\Q r:=by
 have key: ∀k s,I s->μ s<k-> ∃r,iter body k s=some r/\Q r:=by
  intro k;induction k with
  |zero=>intro s _ h;omega
  |succ k ih=>
   intro s hs hk;rcases h s hs with ⟨s',e,hi,hm⟩|⟨r,e,hq⟩
   ·obtain ⟨r,e2,hq⟩:=ih s' hi (by omega);exact ⟨r,by simp only [iter,e];exact e2,hq⟩
   ·exact ⟨r,by simp only [iter,e],hq⟩
 obtain ⟨r,e,hq⟩:=key (μ s+1) s hs (by omega);exact ⟨r,lg e,hq⟩
theorem Tq (S:Nat->σ)(N:Nat)(Q:R->Prop)(P:Nat->Prop)(h0:P 0)(h: ∀k,k<N->P k->(body (S k)=some (.inl (S (k+1)))/\P (k+1))\/(∃r,body (S k)=some (.inr r)/\Q r))(he:P N-> ∃r,body (S N)=some (.inr r)/\Q r): ∃r,Loop body (S 0)=some r/\Q r:=by
 have key: ∀d k,k+d=N->P k-> ∃r,iter body (d+1) (S k)=some r/\Q r:=by
  intro d;induction d with
  |zero=>
   intro k hk hp;have:k=N:=by omega
   subst this;obtain ⟨r,e,hq⟩:=he hp;exact ⟨r,by simp only [iter,e],hq⟩
  |succ d ih=>
   intro k hk hp;rcases h k (by omega) hp with ⟨e,IU⟩|⟨r,e,hq⟩
   ·obtain ⟨r,e2,hq⟩:=ih (k+1) (by omega) IU;exact ⟨r,by rw [iter,e];exact e2,hq⟩
   ·exact ⟨r,by rw [iter,e],hq⟩
 obtain ⟨r,e,hq⟩:=key N 0 (by omega) h0;exact ⟨r,lg e,hq⟩
theorem Tr (S:Nat->σ)(N:Nat)(r:R)(h: ∀k,k<N->body (S k)=some (.inl (S (k+1))))(he:body (S N)=some (.inr r)):Loop body (S 0)=some r:=by obtain ⟨r',e,rfl⟩:=Tq (body:=body) S N (· =r) (λ_=>True) trivial (λk hk _=> .inl ⟨h k hk,trivial⟩) (λ_=>⟨r,he,rfl⟩);exact e
end
end Dn
/-
  From functions on plain values to functions on typed values. Conditions: none.
-/
namespace Dn
open Go
def bB {R:Type}(l:List MV)(K:Nat->Option R):Option R:=K l.length
def ix {α R:Type}(l:List α)(i:Int)(K:α->Option R):Option R:=match (if 0<=i then l[i.toNat]? else none) with|some x=>K x|none=>none
def A5 (l:List UInt8):List Int:=l.map λb=>(b.toNat:Int)
@[simp] theorem wE (l : List UInt8) : M8 l = (A5 l).map (MV.i .u8) := by unfold M8 A5; rw [List.map_map]; rfl
def zo {α:Type}(bytes:Nat)(l:List α):Option (List α):=if l.length *bytes<=2^46 then some l else none
def B7 {α:Type}(bytes:Nat)(xs:List α)(i:Int)(ys:List α):Option (List α):=if 0<=i/\i.toNat<=xs.length/\ys≠[]/\(xs.length+ys.length) *bytes<=2^46 then some (xs.take i.toNat++ys++xs.drop i.toNat) else none
@[reducible] def I3 {α : Type}(f : α -> MV)(l : List α) : MV := .list (l.map f)
@[reducible] def Q3 {α : Type}(f : α -> MV)(l : List α) : MV := .fresh (l.map f)
def Sm {A B:Type}(g:B->A)(x:Option A)(y:Option B):Prop:=x=y.map g
section
variable {A B A' B' α:Type}{g:B->A}{T:Option B}
theorem Sm.at {x x':Option A}(e:x=x')(h:Sm g x' T):Sm g x T:=e▸h
theorem ax {l:List MV}{K:List MV->Option A}(h:Sm g (K l) T):Sm g (gA (.agg l) K) T:=h
theorem aE {x:Bool}{K:Bool->Option A}(h:Sm g (K x) T):Sm g (gB (.b x) K) T:=h
theorem dh {x:List UInt8}{K:List UInt8->Option A}(h:Sm g (K x) T):Sm g (gS (.s x) K) T:=h
theorem aG {x:List MV}{K:List MV->Option A}(h:Sm g (K x) T):Sm g (gL (.list x) K) T:=h
theorem om {x:MV}{outs:List MV}{K:MV->List MV->Option A}(h:Sm g (K x outs) T):Sm g (gW (.gm x outs) K) T:=h
theorem cu {x:List MV}{K:List MV->Option A}(h:Sm g (K x) T):Sm g (gT (.cM x) K) T:=h
theorem jA {x:List MV}{K:List MV->Option A}(h:Sm g (K x) T):Sm g (gF (.fresh x) K) T:=h
theorem Ya {x:List MV}{K:List MV->Option A}(h:Sm g (K x) T):Sm g (gP (.rp x) K) T:=h
theorem A6 {f:Nat}{x:List MV}{K:Nat->List MV->Option A}(h:Sm g (K f x) T):Sm g (Xs (.func f x) K) T:=h
theorem zp {f:Nat}{x:List MV}{K:MV->Option A}(h:Sm g (K (.func f x)) T):Sm g (gR (.func f x) K) T:=h
theorem adb {v:Value}{K:MV->Option A}(h:Sm g (K (.raw v)) T):Sm g (gR (.raw v) K) T:=h
theorem ap {k:IntKind}{n:Int}{K:Int->Option A}(h:Sm g (K n) T):Sm g (gI k (.i k n) K) T:=by simpa using h
theorem af {m:MV}{r:List MV}{K:MV->List MV->Option A}(h:Sm g (K m r) T):Sm g (gC (m::r) K) T:=h
theorem aC {K:Option A}(h:Sm g K T):Sm g (gN [] K) T:=h
theorem ai {x:Option A'}{y:Option B'}{f:B'->A'}{K:A'->Option A} {K':B'->Option B}(h:Sm f x y)(hk: ∀b,Sm g (K (f b)) (K' b)):Sm g (bd x K) (bd y K'):=by
 unfold Sm at h;subst h;cases y with
 |none=>rfl
 |some b=>exact hk b
theorem aJ {p:Prop}[Decidable p]{X Y:Option A} {X' Y':Option B}(h1:Sm g X X')(h2:Sm g Y Y'):Sm g (aR (decide p) X Y) (if p then X' else Y'):=by by_cases h:p<;>simpa [h] using (by assumption)
theorem au {c:Bool}{X Y:Option A} {X' Y':Option B}(h1:Sm g X X')(h2:Sm g Y Y'):Sm g (aR c X Y) (if c then X' else Y'):=by cases c<;>simpa using (by assumption)
theorem cG {p:Prop}[Decidable p]{X:Option A} {X':Option B}(h1:Sm g X X'):Sm g (b5 (decide p) X) (if p then X' else none):=by
 by_cases h:p
 ·simpa [h] using h1
 ·simp [h,b5,Sm]
theorem tQ {c:Bool}{X:Option A} {X':Option B}(h1:Sm g X X'):Sm g (b5 c X) (if c then X' else none):=by
 cases c
 ·simp [b5,Sm]
 ·simpa using h1
theorem bn {c:Bool}{X:Option A}(hc:c=true)(h:Sm g X T):Sm g (b5 c X) T:=by subst hc;exact h
theorem gD {c:Bool}{X Y:Option A}(hc:c=true)(h:Sm g X T):Sm g (aR c X Y) T:=by subst hc;exact h
theorem gE {c:Bool}{X Y:Option A}(hc:c=false)(h:Sm g Y T):Sm g (aR c X Y) T:=by subst hc;exact h
theorem uT {l:List MV}{n:Nat}{K:Nat->Option A}(e:l.length=n)(h:Sm g (K n) T):Sm g (bB l K) T:=by subst e;exact h
theorem aU {l:List MV}{M:List α}{f:α->MV}{i:Int}{K:MV->Option A} {K':α->Option B}(e:l=M.map f)(h: ∀y,Sm g (K (f y)) (K' y)):Sm g (idx l i K) (ix M i K'):=by
 subst e;unfold idx ajh ix;by_cases hi:0<=i
 ·simp only [hi,if_true,acs];cases M[i.toNat]? with
  |none=>rfl
  |some y=>exact h y
 ·simp only [hi,if_false];rfl
theorem rY {X:Option A}{T:Option B}(h:Sm g X T):Sm g (both X X) T:=by
 have e:both X X=X:=by unfold both;rw [if_pos rfl]
 rw [e];exact h
theorem Jx {C:Type}{x:Option C}{K:C->Option A} {K':C->Option B}(h: ∀b,Sm g (K b) (K' b)):Sm g (bd x K) (bd x K'):=by
 cases x with
 |none=>rfl
 |some b=>exact h b
theorem Q4 {a b:Nat}{K:Nat->Nat->Option A}(h:Sm g (K a b) T):Sm g (gCx (.raw (.complex .f64 a b)) K) T:=h
def Q5 {R:Type}(l:List Int)(K:List UInt8->Option R):Option R:=if l.all isByte then K (l.map λn=>UInt8.ofNat n.toNat) else none
theorem ade {R:Type}{M:List Int}: ∀{K:List UInt8->Option R},Na (M.map (MV.i .u8)) K=Q5 M K:=by
 induction M with
 |nil=>intro K;rfl
 |cons n M ih=>intro K;simp only [afE,Na,byK,gI,decide_true,cond_true,ih];cases h:isByte n<;>simp [b5,Q5,h]
theorem adf {l:List MV}{M:List Int}{K:List UInt8->Option A} {K':List UInt8->Option B}(e:l=M.map (MV.i .u8))(h: ∀b,Sm g (K b) (K' b)):Sm g (Na l K) (Q5 M K'):=by
 subst e;rw [ade];unfold Q5;split
 ·exact h _
 ·rfl
theorem dj {d:A}{a:B}(e:d=g a):Sm g (some d) (some a):=by subst e;rfl
theorem rZ {n:Nat}{l:List MV}{M:List α}{f:α->MV}(e:l=M.map f)(h: ∀x,(f x).w=n):oa n l=true:=by subst e;unfold oa;rw [List.all_map,aaN];intro x _;simp [h x]
theorem Ts {σ σ' ρ ρ':Type}{e:σ'->σ}{f:ρ'->ρ}{K:σ->Option (Sum σ ρ)} {K':σ'->Option (Sum σ' ρ')}(h: ∀s,Sm (Sum.map e f) (K (e s)) (K' s))(n:Nat)(s:σ'):iter K n (e s)=(iter K' n s).map f:=by
 induction n generalizing s with
 |zero=>rfl
 |succ n ih=>
  have:=h s;unfold Sm at this;simp only [iter,this];cases K' s with
  |none=>rfl
  |some x=>cases x with
   |inl s'=>exact ih s'
   |inr r=>rfl
theorem O4 {σ ρ:Type}{K:σ->Option (Sum σ ρ)}{s:σ}(h: ∀n,iter K n s=none):Loop K s=none:=by unfold Loop;rw [dif_neg];rintro ⟨r,n,e⟩;rw [h] at e;cases e
theorem b6 {σ σ' ρ ρ':Type}{K:σ->Option (Sum σ ρ)} {K':σ'->Option (Sum σ' ρ')}{d0:σ}{s0:σ'}(e:σ'->σ)(f:ρ'->ρ)(e0:d0=e s0)(h: ∀s,Sm (Sum.map e f) (K (e s)) (K' s)):Sm f (Loop K d0) (Loop K' s0):=by
 subst e0;unfold Sm;by_cases hx: ∃r n,iter K' n s0=some r
 ·obtain ⟨r,n,hn⟩:=hx;rw [lg hn];have:iter K n (e s0)=some (f r):=by rw [Ts h,hn];rfl
  rw [lg this];rfl
 ·have h1: ∀n,iter K' n s0=none:=λn=>by
   cases hn:iter K' n s0 with
   |none=>rfl
   |some r=>exact absurd ⟨r,n,hn⟩ hx
  rw [O4 h1,O4 λn=>by rw [Ts h,h1];rfl];rfl
theorem B8 {size bytes:Nat}{f:α->MV}(hw: ∀x,(f x).w=size)(l:List α):Sm (Q3 f) (jT size bytes [.list (l.map f)]) (zo bytes l):=by
 unfold Sm jT zo;simp only [rZ (rfl:l.map f=l.map f) hw,agY,afG];by_cases h:l.length *bytes<=2^46
 ·rw [show acO (l.length *bytes) (2^46)=true from adq h,if_pos h];rfl
 ·rw [show acO (l.length *bytes) (2^46)=false from by rw [afR];intro hb;exact h (aay hb),if_neg h];rfl
theorem Tt {bytes:Nat}{f:α->MV}(xs:List α)(i:Int)(ys:List α):Sm (Q3 f) (qi bytes [.fresh (xs.map f),.i .i64 i,.fresh (ys.map f)]) (B7 bytes xs i ys):=by
 unfold Sm qi B7;simp only [afG];have hb: ∀a b:Nat,acO a b=decide (a<=b):=λa b=>by
  by_cases h:a<=b
  ·rw [adq h,decide_eq_true h]
  ·rw [decide_eq_false h,afR];intro hh;exact h (aay hh)
 rw [hb,hb];have he:(ys.map f).isEmpty=decide (ys=[]):=by cases ys<;>simp
 rw [he];by_cases h1:0<=i<;>by_cases h2:i.toNat<=xs.length<;>by_cases h3:ys=[]<;>by_cases h4:(xs.length+ys.length) *bytes<=2^46<;>simp [h1,h2,h3,h4,Q3]
end
abbrev akz (f:Option MV):List MV->Option MV|[]=>f|_=>none
abbrev iT (f:MV->Option MV):List MV->Option MV|[a]=>f a|_=>none
abbrev eO (f:MV->MV->Option MV):List MV->Option MV|[a,b]=>f a b|_=>none
abbrev uU (f:MV->MV->MV->Option MV):List MV->Option MV|[a,b,c]=>f a b c|_=>none
abbrev Hg (f:MV->MV->MV->MV->Option MV):List MV->Option MV|[a,b,c,d]=>f a b c d|_=>none
theorem ag9 {f:Option MV}{B:List MV->Option MV}(h:B []=f){ms:List MV}{r:MV}(e:akz f ms=some r):B ms=some r:=by
 unfold akz at e;split at e
 ·rw [h];exact e
 ·cases e
theorem ct {f:MV->Option MV}{B:List MV->Option MV}(h: ∀a,B [a]=f a){ms:List MV}{r:MV}(e:iT f ms=some r):B ms=some r:=by
 unfold iT at e;split at e
 ·rw [h];exact e
 ·cases e
theorem bG {f:MV->MV->Option MV}{B:List MV->Option MV}(h: ∀a b,B [a,b]=f a b){ms:List MV}{r:MV}(e:eO f ms=some r):B ms=some r:=by
 unfold eO at e;split at e
 ·rw [h];exact e
 ·cases e
theorem gQ {f:MV->MV->MV->Option MV}{B:List MV->Option MV}(h: ∀a b c,B [a,b,c]=f a b c){ms:List MV}{r:MV}(e:uU f ms=some r):B ms=some r:=by
 unfold uU at e;split at e
 ·rw [h];exact e
 ·cases e
theorem qj {f:MV->MV->MV->MV->Option MV}{B:List MV->Option MV}(h: ∀a b c d,B [a,b,c,d]=f a b c d){ms:List MV}{r:MV}(e:Hg f ms=some r):B ms=some r:=by
 unfold Hg at e;split at e
 ·rw [h];exact e
 ·cases e
theorem dV.fn {P:Program} {c c':Ctx}{g:Nat->List MV->Option MV}{n:Nat}{fn:Func}{dI:List (List Kd)}{F:List MV->Option MV}(h:dV P c g)(hl:CK c c')(hgg:c'.g=g)(qe:lS P c.ti)(ju:Qs P c.ti)(J4: ∀t k,c.fk t=some k->P.underlying t=some (.float k))(Se:zf P c)(IY:P.follows .mixedOrders=true)(IX:td P c)(hf:P.funcs[n]? =some fn)(hh:Di c' n fn dI=true)(xl: ∀f,c.key f=f){fresh:Option Nat}(IR:DX c' n fn fresh=true)(hF: ∀{ms r},F ms=some r->Oo c' dI fresh fn ms=some r):dV P c (bt n F g):=by have hb:=dV.body h hl hgg qe ju J4 Se IY IX hf hh xl IR;refine h.add (λf ms r hk hr=> ?_);refine hb.all f ms r ?_;unfold bt;rw [hk];simp [hF hr]
end Dn
/-
  A function's body in which a map is gone through, or a label stands. Conditions: none.
-/
namespace Dn
open Go
section
variable {P:Program}{c:Ctx}{R:Type}{r:R}
theorem Wp {a b:Code}{l:Nat}(h:ac8 a b=some l):a= .goto l/\b= .skip:=by
 unfold ac8 at h;split at h
 ·cases h;exact ⟨rfl,rfl⟩
 ·cases h
theorem adg (hG:Good P c)(hD:KC P c){l:Nat}{G:St->Option R}: ∀(code:Code) {Z:b8} {e:Env} {st:St} {a:Act} {w:World} {K:Nat->St->Option R} {Q:Exit->Act->World->Prop},cF c Z e st a w->KU c l G code st K=some r-> (∀n e' cB a' w',cF c Z e' cB a' w'->Trans Z.In e.φ w e'.φ w'->K n cB=some r->Q (lU n) a' w')-> (∀e' cB a' w',cF c Z e' cB a' w'->Trans Z.In e.φ w e'.φ w'->G cB=some r->Q (.goto l) a' w')->code.wp P Q a w:=by
 intro code;induction code with
 |seq x y ihx ihy=>
  intro Z e st a w K Q h hK hQ hJ;simp only [KU] at hK;refine wp_seq (ihx h hK ?_ ?_)
  ·intro n e1 dC a1 w1 h1 t1 ol;by_cases hn:n=0
   ·subst hn;exact ihy h1 ol (λn e2 eM a2 w2 h2 t2 yS=>hQ n e2 eM a2 w2 h2 (t1.trans t2) yS) (λe2 eM a2 w2 h2 t2 yS=>hJ e2 eM a2 w2 h2 (t1.trans t2) yS)
   ·rw [xX hn];have:No n 0=false:=by rw [fc];simp [hn]
    simp only [this,cond_false] at ol;exact hQ n e1 dC a1 w1 h1 t1 ol
  ·intro e1 dC a1 w1 h1 t1 ol;exact hJ e1 dC a1 w1 h1 t1 ol
 |cond x y z _ _=>
  intro Z e st a w K Q h hK hQ hJ;simp only [KU] at hK;split at hK
  ·rename_i l' hg;obtain ⟨rfl,rfl⟩:=Wp hg;cases hb:No l' l with
   |false=>rw [hb] at hK;cases hK
   |true=>
    rw [hb] at hK;simp only [cond_true] at hK;have hb:=sh hb;subst hb;obtain ⟨hx,_⟩:=h.eval x;split at hK
    ·rename_i v hv;rw [hv] at hx;refine wp_cond (AR hx) ?_;cases v with
     |true=>exact wp_goto (hJ e st a w h (.refl _ _ _) hK)
     |false=>exact wp_skip (hQ 0 e st a w h (.refl _ _ _) hK)
    ·cases hK
  ·exact wB hG hD _ h hK hQ
 |label l'=>intro Z e st a w K Q h hK hQ hJ;exact wp_label (hQ 0 e st a w h (.refl _ _ _) hK)
 |_=>intro Z e st a w K Q h hK hQ hJ;simp only [KU] at hK;exact wB hG hD _ h hK hQ
theorem adh (hG:Good P c)(hD:KC P c): ∀(code:Code) {Z:b8} {e:Env} {st:St} {a:Act} {w:World} {K:Nat->St->Option R} {Q:Exit->Act->World->Prop},cF c Z e st a w->Ih c code st K=some r-> (∀n e' cB a' w',cF c Z e' cB a' w'->Trans Z.In e.φ w e'.φ w'->K n cB=some r->Q (lU n) a' w')->code.wp P Q a w:=by
 intro code;induction code with
 |seq x y _ ihy=>
  intro Z e st a w K Q h hK hQ;simp only [Ih] at hK;have nxt: ∀n e1 dC a1 w1,cF c Z e1 dC a1 w1->Trans Z.In e.φ w e1.φ w1->(bif No n 0 then Ih c y dC K else K n dC)=some r->Exit.then (y.wp P Q) Q (lU n) a1 w1:=by
   intro n e1 dC a1 w1 h1 t1 ol;by_cases hn:n=0
   ·subst hn;exact ihy h1 ol (λn e2 eM a2 w2 h2 t2 yS=>hQ n e2 eM a2 w2 h2 (t1.trans t2) yS)
   ·rw [xX hn];have:No n 0=false:=by rw [fc];simp [hn]
    simp only [this,cond_false] at ol;exact hQ n e1 dC a1 w1 h1 t1 ol
  split at hK
  ·rename_i q hq;exact wp_seq (akt hG hD hq h hK nxt)
  ·exact wp_seq (wB hG hD _ h hK nxt)
 |scope b _=>
  intro Z e st a w K Q h hK hQ;simp only [Ih] at hK;split at hK
  ·rename_i rest hf;have hx: ∀(J:Act->World->Prop) n (a':Act) (w':World),Q (lU n) a' w'->Exit.jump 0 J Q (lU n) a' w':=by
    intro J n a' w' hq;match n,hq with
    |0,hq=>exact hq
    |1,hq=>exact hq
    |n+2,hq=>exact hq
   refine wp_scope_jumps 0 (λa' w'=> ∃e' cB,cF c Z e' cB a' w'/\Trans Z.In e.φ w e'.φ w'/\lu c rest R cB K=some r) (λ_ _=>0) hf ?_ ?_
   ·refine adg hG hD b h hK (λn e' cB a' w' h' t' hK'=>hx _ n a' w' (hQ n e' cB a' w' h' t' hK')) ?_;intro e' cB a' w' h' t' hK';exact ⟨rfl,e',cB,h',t',hK'⟩
   ·rintro a1 w1 ⟨e1,dC,h1,t1,ol⟩;refine wB hG hD rest h1 ol ?_;intro n e' cB a' w' h' t' hK';exact hx _ n a' w' (hQ n e' cB a' w' h' (t1.trans t') hK')
  ·cases hK
 |_=>intro Z e st a w K Q h hK hQ;simp only [Ih] at hK;exact wB hG hD _ h hK hQ
end
theorem dV.To {P:Program} {c c':Ctx}{g:Nat->List MV->Option MV}{n:Nat}{fn:Func}{dI:List (List Kd)}(h:dV P c g)(hl:CK c c')(hgg:c'.g=g)(qe:lS P c.ti)(ju:Qs P c.ti)(J4: ∀t k,c.fk t=some k->P.underlying t=some (.float k))(Se:zf P c)(IY:P.follows .mixedOrders=true)(IX:td P c)(hf:P.funcs[n]? =some fn)(hh:Di c' n fn dI=true)(xl: ∀f,c.key f=f){fresh:Option Nat}(IR:DX c' n fn fresh=true):dV P c (bt n (Dn.To c' dI fresh fn) g):=by
 have hG:Good P c':=by
  refine ⟨by rw [hl.ti];exact qe,by rw [hl.ti];exact ju,λf ms r hr=> ?_,by rw [hl.fk];exact J4,λt s hs=>Se t s ?_⟩
  ·rw [hgg,hl.key] at hr;exact (h.all f ms r hr).mA hl
  ·rw [<-hs];unfold xh Ctx.tv;rw [hl.mt,hl.ti]
 refine h.add (λf ms r hk hr=> ?_);rw [xl] at hk;subst hk;simp only [Di,fj,aav] at hh;obtain ⟨⟨⟨h1,h2⟩,h3⟩,h4⟩:=hh;have hD:=KS hG IY (IX.mA hl);exact (S2 (λb {r Z e st a w K Q} h hK hQ=>adh hG hD b h hK hQ) hG hf h1 (sh h2) (aay h3) (by rw [hl.key,xl];exact h4) (by rw [hl.key,xl];exact OW IR) hr).mA hl.symm
theorem dV.fnX {P:Program} {c c':Ctx}{g:Nat->List MV->Option MV}{n:Nat}{fn:Func}{dI:List (List Kd)}{F:List MV->Option MV}(h:dV P c g)(hl:CK c c')(hgg:c'.g=g)(qe:lS P c.ti)(ju:Qs P c.ti)(J4: ∀t k,c.fk t=some k->P.underlying t=some (.float k))(Se:zf P c)(IY:P.follows .mixedOrders=true)(IX:td P c)(hf:P.funcs[n]? =some fn)(hh:Di c' n fn dI=true)(xl: ∀f,c.key f=f){fresh:Option Nat}(IR:DX c' n fn fresh=true)(hF: ∀{ms r},F ms=some r->Dn.To c' dI fresh fn ms=some r):dV P c (bt n F g):=by have hb:=dV.To h hl hgg qe ju J4 Se IY IX hf hh xl IR;refine h.add (λf ms r hk hr=> ?_);refine hb.all f ms r ?_;unfold bt;rw [hk];simp [hF hr]
theorem adi {α ρ ρ':Type}{e:α->MV}{f:ρ'->ρ}{K:MV->Option (Sum Unit ρ)} {K':α->Option (Sum Unit ρ')}{d:Option ρ} {d':Option ρ'}{l:List MV}{M:List α}(hl:l=M.map e)(hd:Sm f d d')(h: ∀x,Sm (Sum.map id f) (K (e x)) (K' x)): Sm f (uS K d l) (uS K' d' M):=by
 subst hl;have hg: ∀x,zm (K (e x))=zm (K' x):=by
  intro x;rw [h x];cases K' x with
  |none=>rfl
  |some y=>cases y<;>rfl
 unfold Sm;induction M with
 |nil=>exact hd
 |cons x M ih=>
  have hx:=h x;unfold Sm at hx;simp only [afE,uS,hx];cases hk:K' x with
  |none=>rfl
  |some y=>
   cases y with
   |inl u=>exact ih
   |inr r=>
    simp only [agA,Sum.map_inr,List.all_map];have:(M.all ((λy=>zm (K y))∘e))=M.all λy=>zm (K' y):=by congr 1;funext y;exact hg y
    rw [this];cases M.all λy=>zm (K' y)<;>rfl
theorem akA {A B:Type}{g:B->A}{m:MV}{K:List UInt8->Int->Option A} {K':List UInt8->Int->Option B}(h: ∀key n,Sm g (K key n) (K' key n)):Sm g (Tn m K) (Tn m K'):=by
 have hN: ∀{l:List MV} {X:Option A} {X':Option B},Sm g X X'->Sm g (gN l X) (gN l X'):=by intro l X X' h;cases l<;>first|exact h|rfl
 have hC: ∀{l:List MV} {X:MV->List MV->Option A} {X':MV->List MV->Option B},(∀a b,Sm g (X a b) (X' a b))->Sm g (gC l X) (gC l X'):=by intro l X X' h;cases l<;>first|exact h _ _|rfl
 unfold Tn;cases m<;>first|rfl|skip
 refine hC λka r=> ?_;cases ka<;>first|rfl|skip
 refine hC λk0 kr=>hN ?_;cases k0<;>first|rfl|skip
 refine hC λv0 vr=>hN ?_;cases v0<;>first|rfl|skip
 rename_i k n;simp only [gI];cases decide (k=IntKind.i64)<;>first|rfl|exact h _ _
theorem Yb {A B:Type}{g:B->A}{p q:Prop}[Decidable p][Decidable q]{X:Option A} {X':Option B}(e:p↔q)(h1:Sm g X X'):Sm g (b5 (decide p) X) (if q then X' else none):=by
 by_cases hp:p
 ·rw [if_pos (e.1 hp),decide_eq_true hp];exact h1
 ·rw [if_neg (λh=>hp (e.2 h)),decide_eq_false hp];rfl
theorem Wq {A B:Type}{g:B->A}{T:Option B}{x:List MV}{K:List MV->Option A}(h:Sm g (K x) T):Sm g (gCl (.clip x) K) T:=h
@[reducible] def aiW {α : Type}(f : α -> MV)(l : List α) : MV := .clip (l.map f)
end Dn
/-
  Reasoning about functions on typed values. Conditions: none.
-/
namespace Dn
open Go
section
variable {α R:Type}
theorem bP {l:List α}{k:Nat}(h:k<l.length)(K:α->Option R):ix l (k:Int) K=K l[k]:=by simp [ix,h]
theorem iK {l:List α}(h:0<l.length)(K:α->Option R):ix l 0 K=K l[0]:=by simp [ix,h]
@[simp] theorem PT {A : Type}(x : Option A) : bd x (λa => some a) = x := by cases x <;> rfl
end
def bD {A:Type}(x:Option A)(Q:A->Prop):Prop:= ∃a,x=some a/\Q a
section
variable {A B α σ ρ:Type}
theorem bD.mk {a:A}{Q:A->Prop}(h:Q a):bD (some a) Q:=⟨a,rfl,h⟩
theorem bD.of {x:Option A}{a:A}{Q:A->Prop}(e:x=some a)(h:Q a):bD x Q:=⟨a,e,h⟩
theorem bD.bd {x:Option A}{K:A->Option B}{P:A->Prop}{Q:B->Prop}(h:bD x P)(hk: ∀a,P a->bD (K a) Q):bD (bd x K) Q:=by obtain ⟨a,rfl,hp⟩:=h;exact hk a hp
theorem bD.imp {x:Option A}{P Q:A->Prop}(h:bD x P)(V9: ∀a,P a->Q a):bD x Q:=by obtain ⟨a,e,hp⟩:=h;exact ⟨a,e,V9 a hp⟩
theorem bD.ix {l:List α}{k:Nat}{K:α->Option A}{Q:A->Prop}(h:k<l.length)(hk:bD (K l[k]) Q):bD (ix l (k:Int) K) Q:=by rw [bP h];exact hk
theorem bD.eq {x:Option A}{a:A}(h:bD x (· =a)):x=some a:=by obtain ⟨b,e,rfl⟩:=h;exact e
variable {body:σ->Option (Sum σ ρ)}
theorem bD.loop (I:σ->Prop) (μ:σ->Nat){Q:ρ->Prop}{s:σ}(hs:I s)(h: ∀s,I s->bD (body s) λx=>match x with| .inl s'=>I s'/\μ s'<μ s| .inr r=>Q r):bD (Loop body s) Q:=by
 refine ada I μ Q (λs hs=> ?_) hs;obtain ⟨x,e,hx⟩:=h s hs;cases x with
 |inl s'=>exact .inl ⟨s',e,hx⟩
 |inr r=>exact .inr ⟨r,e,hx⟩
theorem bD.count (S:Nat->σ)(n:Nat){Q:ρ->Prop}(P:Nat->Prop){s:σ}(e:s=S 0)(h0:P 0)(h: ∀k,k<n->P k->bD (body (S k)) λx=>match x with| .inl s'=>s'=S (k+1)/\P (k+1)| .inr r=>Q r)(he:P n->bD (body (S n)) λx=>match x with| .inl _=>False| .inr r=>Q r):bD (Loop body s) Q:=by
 subst e;refine Tq S n Q P h0 (λk hk hp=> ?_) (λhp=> ?_)
 ·obtain ⟨x,e,hx⟩:=h k hk hp;cases x with
  |inl s'=>obtain ⟨rfl,hx⟩:=hx;exact .inl ⟨e,hx⟩
  |inr r=>exact .inr ⟨r,e,hx⟩
 ·obtain ⟨x,e,hx⟩:=he hp;cases x with
  |inl s'=>exact hx.elim
  |inr r=>exact ⟨r,e,hx⟩
end
theorem wrap64 {x:Int}(h1: -9223372036854775808<=x)(h2:x<=9223372036854775807):aaJ .i64 x=x:=ag8 h1 h2
end Dn
/-
  Functions of the library, on typed values. Conditions: none.
-/
namespace Dn
open Go
def RS (x y:Int):Int:=if x<y then-1 else if y<x then 1 else 0
def gX {α:Type}(key:α->Int)(L:List α)(s:Int):Nat:=L.countP (λe=>decide (key e<s))
def mF {α:Type}(key:α->Int)(L:List α)(s:Int):Bool:=L.any λe=>decide (key e=s)
def pg {α:Type}(key:α->Int)(L:List α):Prop:=L.Pairwise λa b=>key a<key b
section
variable {α τ:Type}{key:α->Int}
theorem amc {L:List α}{s:Int}{p:Nat}(hp:p<=L.length)(h1: ∀k (hk:k<L.length),k<p->key L[k]<s)(h2: ∀k (hk:k<L.length),p<=k->s<=key L[k]):gX key L s=p:=by
 have h3:(L.take p).countP (λe=>decide (key e<s))=(L.take p).length:=by
  rw [List.countP_eq_length];intro a ha;obtain ⟨k,hk,rfl⟩:=abA.1 ha;have OC:k<p:=by rw [aaM] at hk;omega
  rw [List.getElem_take];exact decide_eq_true (h1 k (by omega) OC)
 have h4:(L.drop p).countP (λe=>decide (key e<s))=0:=by rw [List.countP_eq_zero];intro a ha;obtain ⟨k,hk,rfl⟩:=abA.1 ha;rw [abY] at hk;rw [List.getElem_drop];have:=h2 (p+k) (by omega) (by omega);simp;omega
 have h5:gX key L s=(L.take p++L.drop p).countP (λe=>decide (key e<s)):=by rw [abZ];rfl
 rw [h5,List.countP_append,h3,h4,aaM];omega
theorem pg.lt {L:List α}(hs:pg key L){i j:Nat}(hj:j<L.length)(h:i<j):key (L[i]'(by omega))<key L[j]:=List.pairwise_iff_getElem.1 hs i j (by omega) hj h
theorem pg.le {L:List α}(hs:pg key L){i j:Nat}(hj:j<L.length)(h:i<=j):key (L[i]'(by omega))<=key L[j]:=by
 rcases Nat.lt_or_eq_of_le h with h|h
 ·exact Int.le_of_lt (hs.lt hj h)
 ·subst h;exact Int.le_refl _
theorem xF (L:List α)(s:Int):gX key L s<=L.length:=List.countP_le_length
theorem pg.lb {L:List α}(hs:pg key L)(s:Int):(∀k (hk:k<L.length),k<gX key L s->key L[k]<s)/\(∀k (hk:k<L.length),gX key L s<=k->s<=key L[k]):=by
 have: ∃p,p<=L.length/\(∀k (hk:k<L.length),k<p->key L[k]<s)/\(∀k (hk:k<L.length),p<=k->s<=key L[k]):=by
  induction L with
  |nil=>exact ⟨0,aa0 _,λk hk=>by simp at hk,λk hk=>by simp at hk⟩
  |cons a l ih=>
   have Dd:=List.pairwise_cons.1 hs;by_cases ha:key a<s
   ·obtain ⟨p,h1,h2,h3⟩:=ih Dd.2;refine ⟨p+1,by simp;omega,λk hk hkp=> ?_,λk hk hkp=> ?_⟩
    ·cases k with
     |zero=>exact ha
     |succ k=>exact h2 k (by simpa using hk) (by omega)
    ·cases k with
     |zero=>omega
     |succ k=>exact h3 k (by simpa using hk) (by omega)
   ·refine ⟨0,afK _,λk hk hkp=>by omega,λk hk _=> ?_⟩;cases k with
    |zero=>simp;omega
    |succ k=>have:=Dd.1 (l[k]'(by simpa using hk)) (ahe _);simp only [List.getElem_cons_succ];omega
 obtain ⟨p,h1,h2,h3⟩:=this;rw [amc h1 h2 h3];exact ⟨h2,h3⟩
theorem pg.has {L:List α}(hs:pg key L)(s:Int):mF key L s=true↔ ∃h:gX key L s<L.length,key L[gX key L s]=s:=by
 obtain ⟨h1,h2⟩:=hs.lb s;unfold mF;rw [afX];constructor
 ·rintro ⟨x,hx,he⟩;obtain ⟨k,hk,rfl⟩:=abA.1 hx;have he:key L[k]=s:=by simpa using he
  have SI:gX key L s<=k:=by refine Nat.le_of_not_lt λeE=> ?_;have:=h1 k hk eE;omega
  have hl:gX key L s<L.length:=by omega
  refine ⟨hl,?_⟩;have:=h2 _ hl (aa0 _);have:=hs.le hk SI;omega
 ·rintro ⟨h,he⟩;exact ⟨_,ahe h,decide_eq_true he⟩
theorem vC {L:List α}{s:Int}:mF key L s=true↔ ∃x∈L,key x=s:=by simp [mF]
noncomputable def bsL (x:List α)(target:τ)(cmp:α->τ->Option Int)(st:Int×Int):Option ((Int×Int)⊕Int):=if st.1<st.2 then
 if (0:Int)<=1 then
 ix x (aaJ .i64 (aiE (aaJ .u64 (aaJ .i64 (st.1+st.2))) (2^min (ah7 1) (afQ .u64)))) λy=>
 bd (cmp y target) λrA=>
 bd (if rA<0 then
  some (aaJ .i64 ((aaJ .i64 (aiE (aaJ .u64 (aaJ .i64 (st.1+st.2))) (2^min (ah7 1) (afQ .u64))))+1),st.2)
  else
  some (st.1,aaJ .i64 (aiE (aaJ .u64 (aaJ .i64 (st.1+st.2))) (2^min (ah7 1) (afQ .u64)))):Option (Int×Int)) λw1=>
 some (.inl (w1.1,w1.2))
 else none
 else
 some (.inr st.1)
noncomputable def bsearch (x:List α)(target:τ)(cmp:α->τ->Option Int):Option (Int×Bool):=bd (Loop (bsL x target cmp) (0,(x.length:Int))) λw=>
 bd (if w<(x.length:Int) then
  ix x w λy1=>
  bd (cmp y1 target) λaY=>
  some (w,decide (aY=0))
  else
  some (w,false):Option (Int×Bool)) λw2=>
 some (w2.1,w2.2)
theorem Mq {L:List α}{s:Int}{cmp:α->Int->Option Int}(hs:pg key L)(hl:L.length<2^60)(hc: ∀a,cmp a s=some (RS (key a) s)):bsearch L s cmp=some ((gX key L s:Int),mF key L s):=by
 obtain ⟨xS,xK⟩:=hs.lb s;have hle:=xF (key:=key) L s;have yH:Loop (bsL L s cmp) (0,(L.length:Int))=some (gX key L s:Int):=by
  refine bD.eq (bD.loop (λst=> ∃i j:Nat,st=((i:Int),(j:Int))/\i<=gX key L s/\gX key L s<=j/\j<=L.length) (λst=>(st.2-st.1).toNat) ⟨0,L.length,rfl,afK _,hle,aa0 _⟩ ?_);rintro st ⟨i,j,rfl,hi,hj,M5⟩;unfold bsL;by_cases eE:i<j
  ·have hm:(i+j)/2<L.length:=by omega
   simp only [show ((i:Int)<(j:Int)) by omega,if_true,show ((0:Int)<=1) by decide,aky (by omega:i+j<2^62),bP hm,hc,ar];by_cases hlb:(i+j)/2<gX key L s
   ·have hk:=xS _ hm hlb;have:RS (key L[(i+j)/2]) s= -1:=by simp [RS,hk]
    simp only [this,show ((-1:Int)<0) by decide,if_true,ar];rw [wrap64 (by omega) (by omega)];exact .mk ⟨⟨(i+j)/2+1,j,by simp,by omega,hj,M5⟩,by omega⟩
   ·have hk:=xK _ hm (by omega);have: ¬RS (key L[(i+j)/2]) s<0:=by unfold RS;rw [if_neg (by omega)];split<;>omega
    simp only [this,if_false,ar];exact .mk ⟨⟨i,(i+j)/2,rfl,hi,by omega,by omega⟩,by omega⟩
  ·simp only [show¬((i:Int)<(j:Int)) by omega,if_false];exact .mk (by show (i:Int)=(gX key L s:Int);omega)
 unfold bsearch;rw [yH];simp only [ar];by_cases eE:gX key L s<L.length
 ·simp only [show ((gX key L s:Int)<(L.length:Int)) by omega,if_true,bP eE,hc,ar];have h3:=xK _ eE (aa0 _);have:decide (RS (key L[gX key L s]) s=0)=mF key L s:=by
   unfold RS;rw [if_neg (by omega)];by_cases he:key L[gX key L s]=s
   ·rw [if_neg (by omega),decide_eq_true rfl,(hs.has s).2 ⟨eE,he⟩]
   ·rw [if_pos (by omega),decide_eq_false (by decide)];symm;rw [afR];intro hh;obtain ⟨_,hh⟩:=(hs.has s).1 hh;exact he hh
  rw [this]
 ·simp only [show¬((gX key L s:Int)<(L.length:Int)) by omega,if_false,ar];have:mF key L s=false:=by rw [afR];intro hh;obtain ⟨hh,_⟩:=(hs.has s).1 hh;exact eE hh
  rw [this]
def Mr (key:α->Int)(L:List α)(a:α):List α:=L.take (gX key L (key a))++[a]++L.drop (gX key L (key a))
theorem Ms {L:List α}{a:α} {by':Nat}(hb:(L.length+1) *by'<=2^46):B7 by' L (gX key L (key a):Int) [a]=some (Mr key L a):=by
 unfold B7;rw [if_pos]
 ·rfl
 ·exact ⟨by omega,by simpa using xF L _,by simp,by simpa using hb⟩
theorem pJ {L:List α} {by':Nat}(h:L.length *by'<=2^46):zo by' L=some L:=if_pos h
end
section
variable {α ρ:Type}
theorem Of {β:Type}(f:α->β){L:List α}{k:Nat}(hk:k<L.length):(L.take (k+1)).map f=(L.take k).map f++[f L[k]]:=by rw [<-List.take_append_getElem hk,adp];rfl
theorem yI {body:Int->Option (Int⊕(Unit⊕ρ))}(n:Nat)(p:Nat->Prop)(c:ρ)(h: ∀k,k<n->(∀j,j<k->p j)->(p k->body (k:Int)=some (.inl ((k+1:Nat):Int)))/\(¬p k->body (k:Int)=some (.inr (.inr c))))(he:body (n:Int)=some (.inr (.inl ()))):bD (Loop body 0) λr=>(r= .inl ()/\ ∀k,k<n->p k)\/(r= .inr c/\ ∃k,k<n/\ ¬p k):=by
 refine bD.count (λk=>(k:Int)) n (λk=> ∀j,j<k->p j) rfl (λj hj=>by omega) (λk hk hp=> ?_) (λhp=> ?_)
 ·by_cases hpk:p k
  ·refine .of ((h k hk hp).1 hpk) ⟨rfl,λj hj=> ?_⟩;by_cases hjk:j=k
   ·subst hjk;exact hpk
   ·exact hp j (by omega)
  ·exact .of ((h k hk hp).2 hpk) (.inr ⟨rfl,k,hk,hpk⟩)
 ·exact .of he (.inl ⟨rfl,hp⟩)
theorem aak [DecidableEq α]{a b:List α}{body:Int->Option (Int⊕(Unit⊕Bool))}(hl:a.length=b.length)(h: ∀k (ha:k<a.length)(hb:k<b.length),body (k:Int)=some (if a[k]=b[k] then .inl ((k+1:Nat):Int) else .inr (.inr false)))(he:body (a.length:Int)=some (.inr (.inl ()))):Loop body 0=some (if a=b then .inl () else .inr false):=by
 obtain ⟨r,e,hr⟩:=yI (body:=body) a.length (λk=>a[k]? =b[k]?) false (λk hk _=>by
  have hkb:k<b.length:=by omega
  rw [IN hk,IN hkb,h k hk hkb];constructor
  ·intro hh;rw [if_pos (by simpa using hh)]
  ·intro hh;rw [if_neg (by simpa using hh)]) he
 rw [e];rcases hr with ⟨rfl,mz⟩|⟨rfl,k,hk,eu⟩
 ·rw [if_pos];refine afP λk=> ?_;by_cases hk:k<a.length
  ·exact mz k hk
  ·rw [adL (by omega),adL (by omega)]
 ·rw [if_neg];intro hab;subst hab;exact eu rfl
end
end Dn
/-
  Maps as lists of entries: what is there behind a store. Conditions: none.
-/
namespace Dn
open Go
theorem zS (es:List MV)(ks:List MV):df es ks<=es.length:=by rw [fE];have:=EZ (es.map kn) ks;simpa using this
theorem GC {jx:List (List MV)}{ks OJ:List MV}(h:ft OJ ks=false):gp (jx++[OJ]) ks=if gp jx ks<jx.length then gp jx ks else jx.length+1:=by
 induction jx with
 |nil=>simp [gp,h]
 |cons q r ih=>
  simp only [aaZ,gp,aaI];rcases Bool.eq_false_or_eq_true (ft q ks) with hm|hm
  ·simp [hm]
  ·have:=EZ r ks;simp only [hm,cond_false];by_cases hl:gp r ks<r.length
   ·simp [hl,ih]
   ·simp [hl,ih]
theorem HJ {jx:List (List MV)}{ks:List MV}(hr:ft ks ks=true)(h:gp jx ks=jx.length):gp (jx++[ks]) ks=jx.length:=by
 induction jx with
 |nil=>simp [gp,hr]
 |cons q r ih=>
  simp only [aaZ,gp,aaI] at h⊢;cases hm:ft q ks with
  |true=>simp [hm] at h
  |false=>simp only [hm,cond_false] at h⊢;rw [ih (by omega)]
theorem UK {jx:List (List MV)}{ks:List MV}(h:gp jx ks<jx.length):jx[gp jx ks]? =some ks:=by
 obtain ⟨q,hq⟩: ∃q,jx[gp jx ks]? =some q:=⟨_,IN h⟩
 rw [hq,Ko hq]
theorem Mt (ks:List MV)(v:MV):kn (.cM [.agg ks,v])=ks:=rfl
def C0 (es ks:List MV)(z v:MV):List MV:=uI (nU es ks z) (df es ks) v
theorem HK {es ks:List MV}{z v:MV}:(C0 es ks z v).map kn=if df es ks<es.length then es.map kn else es.map kn++[ks]:=by
 have hle:=zS es ks;unfold C0 nU;rw [fc];by_cases h:df es ks=es.length
 ·simp only [h,decide_true,cond_true];unfold uI;simp [Mt]
 ·have eE:df es ks<es.length:=by omega
  simp only [h,decide_false,cond_false,eE,if_true];unfold uI;rw [IN eE];simp only;apply afP;intro i;rw [acs,acs,List.getElem?_set];by_cases hi:df es ks=i
  ·subst hi;simp [eE,Mt]
  ·simp [hi]
theorem ahJ {es ks:List MV}{z v:MV}:(C0 es ks z v)[df es ks]? =some (.cM [.agg ks,v]):=by
 have hle:=zS es ks;unfold C0 nU;rw [fc];by_cases h:df es ks=es.length
 ·simp only [h,decide_true,cond_true];unfold uI;simp [Mt]
 ·have eE:df es ks<es.length:=by omega
  simp only [h,decide_false,cond_false];unfold uI;rw [IN eE];have hk:kn es[df es ks]=ks:=by
   have h1:(es.map kn)[gp (es.map kn) ks]? =some (kn es[df es ks]):=by rw [<-fE,acs,IN eE];rfl
   exact Ko h1
  simp [eE,hk]
theorem WT {es ks:List MV}{z v:MV}{i:Nat}(hi:i<es.length)(eu:i≠df es ks):(C0 es ks z v)[i]? =es[i]? :=by
 have hle:=zS es ks;unfold C0 nU;rw [fc];by_cases h:df es ks=es.length
 ·simp only [h,decide_true,cond_true];unfold uI;simp only [agM (aa0 _),Nat.sub_self,List.getElem?_cons_zero];rw [ahv (by omega),agO hi]
 ·have eE:df es ks<es.length:=by omega
  simp only [h,decide_false,cond_false];unfold uI;rw [IN eE];simp only;rw [ahv (λe=>eu e.symm)]
theorem aeX {es ks:List MV}{z v:MV}:(C0 es ks z v).length=if df es ks<es.length then es.length else es.length+1:=by have h:((C0 es ks z v).map kn).length=_:=congrArg List.length HK;rw [afG] at h;rw [h];split<;>simp
def WU (es ks:List MV):Option MV:=(es[df es ks]?).map afS
theorem UL (es ks:List MV):oc es ks=match WU es ks with|some v=>asI v|none=>0:=by unfold oc WU;cases es[df es ks]? <;>rfl
theorem Og {es ks:List MV}{z v:MV}(hr:ft ks ks=true):WU (C0 es ks z v) ks=some v:=by
 have hle:=zS es ks;have:df (C0 es ks z v) ks=df es ks:=by
  rw [fE,HK,fE];split
  ·rfl
  ·rename_i h;have h1:=EZ (es.map kn) ks;simp only [afG] at h1⊢;have h2:gp (es.map kn) ks=(es.map kn).length:=by simp;omega
   rw [HJ hr h2,h2]
 unfold WU;rw [this,ahJ];rfl
theorem Mu {es ks OJ:List MV}{z v:MV}(eu:ft ks OJ=false):WU (C0 es ks z v) OJ=WU es OJ:=by
 unfold WU;have aDG:=zS es OJ;have hle:=zS es ks;have hix:df (C0 es ks z v) OJ=if df es ks<es.length then df es OJ else if df es OJ<es.length then df es OJ else es.length+1:=by
  rw [fE,HK];split
  ·rw [fE]
  ·rw [GC eu,<-fE];simp
 by_cases eE:df es OJ<es.length
 ·have hm:df (C0 es ks z v) OJ=df es OJ:=by rw [hix];simp [eE]
  have ayM:df es OJ≠df es ks:=by
   intro he;have h1:=UK (jx:=es.map kn) (ks:=OJ) (by rw [<-fE];simpa using eE);have h2:=UK (jx:=es.map kn) (ks:=ks) (by rw [<-fE,<-he];simpa using eE);rw [<-fE,he,fE,h2] at h1;cases h1;have hq:ft ks ks=true:=by
    have:=eE;rw [he] at this;have h3: ∀(l:List (List MV)),gp l ks<l.length-> ∃q,ft q ks=true:=by
     intro l;induction l with
     |nil=>intro h;simp [gp] at h
     |cons q r ih=>
      intro h;simp only [gp] at h;cases hm:ft q ks with
      |true=>exact ⟨q,hm⟩
      |false=>simp only [hm,cond_false,aaI] at h;exact ih (by omega)
    obtain ⟨q,hq⟩:=h3 (es.map kn) (by rw [<-fE];simpa using this);have:=SQ hq;subst this;exact hq
   rw [hq] at eu;cases eu
  rw [hm,WT eE ayM]
 ·have HY:es[df es OJ]? =none:=by rw [agQ];omega
  rw [HY];have hlen:=aeX (es:=es) (ks:=ks) (z:=z) (v:=v);have:(C0 es ks z v)[df (C0 es ks z v) OJ]? =none:=by
   rw [agQ,hix,hlen];repeat' split
   all_goals omega
  rw [this]
end Dn
