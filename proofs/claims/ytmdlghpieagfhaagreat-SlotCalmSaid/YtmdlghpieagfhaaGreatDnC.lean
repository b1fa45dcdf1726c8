import Derived.Test.YtmdlghpieagfhaaGreatDnB
import Derived.Laws.CopyRow
import Derived.Lib.AppendZerosOnto
import Derived.Lib.Overlaps
import Derived.Laws.Externs
import Derived.Control
/- How code runs. Conditions: none. -/
set_option linter.unusedSimpArgs false
set_option linter.unusedVariables false
set_option linter.constructorNameAsVariable false
open Bool renaming and_eq_true→cV,false_eq_true→OF,not_eq_true'→aau,and_true→aeg,not_true→aej,or_eq_true→aeN,false_or→afO,eq_iff_iff→af9,or_eq_false_iff→agp,true_and→agG,not_false→ahO
open Option.some renaming injEq→sh
open Nat renaming eq_of_beq_eq_true→AI,beq→abG,le_of_ble_eq_true→acV,mul_le_mul_right→acY,le_trans→ac6,le_refl→adb,zero_add→ads,min_eq_left→aea,zero_le→aer,add_mul→aev,ble→af1,add_comm→af6,min_def→agr,lt_of_lt_of_le→agK,succ_mul→agV,lt_irrefl→aib
open List renaming mem_cons→AT,range→BY,length_append→aaJ,all_eq_true→aaP,getElem?_eq_some_iff→abC,length_cons→abE,length_take→abF,mem_map→acN,size_toArray→acT,mem_append→acU,take_append_of_le_length→ac0,take_of_length_le→ac2,nodup_cons→ac4,forall_mem_cons→ac5,cons_append→ac8,length_drop→ac9,drop_eq_nil_of_le→ade,take_append_drop→adg,drop_drop→adr,nil_append→adY,map_append→ad1,flatMap_cons→aec,append_assoc→aee,any_eq_true→aef,mem_of_getElem?→aet,getElem?_take→afG,map_cons→afN,getElem?_cons_zero→afW,sublist_cons_self→af5,drop_of_length_le→af7,getElem?_toArray→agf,replicate→agl,mem_cons_of_mem→agm,getElem?_drop→agU,nodup_append→aha,take_append→ahu,drop_length→ahC,mem_range'→ahI,take_left→ah1,take_take→ah3,drop_left→ah4,range'→aip
open Go.Region renaming ready→IT,wanted→aaK,binds→adx,noSelect→age
open Array renaming replicate→No,getElem?_eq_some_iff→aaU,length_toList→abJ,getElem?_append→acv,getD_eq_getD_getElem?→ac1,setIfInBounds_comm→afP,getElem?_replicate→afS,toList_inj→afT,getElem?_modify→agk,size_append→ag9
open Go.World renaming block_lt_of_cell?→abz,cell?_of_block→acZ,setRow→adP,frozen?→ah9
open Go.Region.linearise renaming go→abB
open Go.Act renaming put_comm→acE
open Go.Value renaming bool→acW,ownBlock→ada,cells→aek,int→ahn,oneCell'→ahW
open Go.Instr renaming loadAt→acX,checkKey→agn,sameNow→agH,sliceBounds→ahi,sliceBound→aht,sureAddr→ahQ,sliceAt→ah5,slice→aiu
open Go.Builtin renaming copy_→ac3,append_→ad9,zeroCells→afM,firstCells→agL
open Go.Code renaming region→ac7,wp_mono→aed,rounds→aiv
open Go.IntKind renaming wrap→adf,wrap_i64→ahq
open Go.Result renaming andThen_ok→adl,ok→afV
open Go.Addr renaming add_mid→adM
open Go.Deferred renaming ofValue→adN
open Prod.mk renaming injEq→adW
open Go.Sem renaming run_bind→aeb,run_pure→aie
open Go.Value.pointer renaming injEq→aeO
open Go renaming sizeOf→aeT,binOp→afy
open Go.Oper renaming upon→aeU,apart_spec→aga,wp→ags,wp_mono→ahg,upon_value→ahN
open Go.Next renaming value→afH
open List.Sublist renaming append_left→afR,map→aho
open Go.Op renaming equalIn→afZ,equal→agX,intArith→ahD,intCmp→aic
open List.cons renaming injEq→af8
open Go.ByteArray renaming toList_eq→agC
open Go.Addr.mk renaming injEq→agI
open List.Nodup renaming sublist→agJ
open Go.Exit renaming inBlock→ahk
open Go.Extern.SlicesOverlaps renaming overlaps→ahz
open Option renaming map_some→ahJ
open Ne renaming symm→aio
namespace Dn
open Go
def cks:List Kd->List Kd
 |[]=>[]
 | .h::r=>agl 32 (.i .u8)++cks r
 |k::r=>k::cks r
def Ov:Kd->Value->Bool
 | .b,.bool _=>true
 | .i k,.int k' _=>decide (k'=k)
 | .s,.string _=>true
 |_,_=>false
def kF:List Kd->List Value->Prop
 |[],vs=>vs=[]
 |k::ks,vs=> ∃v r,vs=v::r/\Ov k v=true/\kF ks r
def ceq:Value->Value->Bool
 | .bool a,.bool b=>decide (a=b)
 | .int _ a,.int _ b=>decide (a=b)
 | .string a,.string b=>decide (a.data.toList=b.data.toList)
 |_,_=>false
def lV:List Value->List Value->Bool
 |[],[]=>true
 |x::xs,y::ys=>ceq x y&&lV xs ys
 |_,_=>false
theorem vD {xs ys us vs:List Value}(h:xs.length=ys.length):lV (xs++us) (ys++vs)=(lV xs ys&&lV us vs):=by
 induction xs generalizing ys with
 |nil=>cases ys with|nil=>simp [lV]|cons=>simp at h
 |cons x xs ih=>cases ys with|nil=>simp at h|cons y ys=>simp only [ac8,lV,ih (by simpa using h),Bool.and_assoc]
theorem kF.length {ks:List Kd}: ∀{vs:List Value},kF ks vs->vs.length=ks.length:=by
 induction ks with
 |nil=>intro vs h;cases h;rfl
 |cons k ks ih=>intro vs h;obtain ⟨v,r,rfl,_,h2⟩:=h;simp [ih h2]
theorem kF.append {ks js:List Kd}: ∀{vs us:List Value},kF ks vs->kF js us->kF (ks++js) (vs++us):=by
 induction ks with
 |nil=>intro vs us h h';cases h;simpa using h'
 |cons k ks ih=>intro vs us h h';obtain ⟨v,r,rfl,h1,h2⟩:=h;exact ⟨v,r++us,rfl,h1,ih h2 h'⟩
theorem kF.split {ks js:List Kd}: ∀{vs:List Value},kF (ks++js) vs->kF ks (vs.take ks.length)/\kF js (vs.drop ks.length):=by
 induction ks with
 |nil=>intro vs h;exact ⟨by simp [kF],by simpa using h⟩
 |cons k ks ih=>intro vs h;obtain ⟨v,r,rfl,h1,h2⟩:=h;obtain ⟨h3,h4⟩:=ih h2;exact ⟨⟨v,_,rfl,h1,h3⟩,by simpa using h4⟩
theorem IY (x:pk):kF (agl 32 (.i .u8)) (cc x):=by
 have: ∀(l:List UInt8),kF (agl l.length (.i .u8)) (l.map λb=>ahn .u8 (b.toNat:Int)):=by
  intro l;induction l with
  |nil=>rfl
  |cons b l ih=>exact ⟨_,_,rfl,by simp [Ov],ih⟩
 have h:=this x.l;rw [x.h] at h;exact h
theorem My (x y:pk):lV (cc x) (cc y)=decide (x=y):=by
 have: ∀(l m:List UInt8),l.length=m.length->lV (l.map λb=>ahn .u8 (b.toNat:Int)) (m.map λb=>ahn .u8 (b.toNat:Int))=decide (l=m):=by
  intro l;induction l with
  |nil=>intro m h;cases m with|nil=>rfl|cons=>simp at h
  |cons b l ih=>
   intro m h;cases m with
   |nil=>simp at h
   |cons b' m=>
    simp only [afN,lV,ceq,ih m (by simpa using h),af8];have:((b.toNat:Int)=(b'.toNat:Int))↔b=b':=by
     constructor
     ·intro he;apply UInt8.toNat_inj.1;omega
     ·intro he;rw [he]
    simp [this]
 rw [cc,cc,this x.l y.l (by rw [x.h,y.h])];by_cases h:x=y
 ·subst h;simp
 ·have:x.l≠y.l:=λhe=>h (pk.ext' he);simp [h,this]
section
variable {e:Env}
theorem Mz {lay:List Kd}: ∀{ls:List aE} {vs:List Value},ay e vs ls->gk lay ls=true->kF (cks lay) vs:=by
 induction lay with
 |nil=>
  intro ls vs h hf;cases ls with
  |nil=>cases h;rfl
  |cons=>simp [gk] at hf
 |cons k lay ih=>
  intro ls vs h hf;cases ls with
  |nil=>simp [gk] at hf
  |cons l ls=>
   simp only [gk] at hf;cases h1:oM k l with
   |false=>simp [h1] at hf
   |true=>
    simp only [h1,cond_true] at hf;obtain ⟨v,u,rfl,g1,g2⟩:=h;have hr:=ih g2 hf;have one: ∀m:MV,∀kd:Kd,l= .p m->(∀w:List Value,jz e.key e.φ w m-> ∃x,w=[x]/\Ov kd x=true)->kF (kd::cks lay) (v++u):=by intro m kd hl hm;subst hl;obtain ⟨x,rfl,hx⟩:=hm v g1.2;exact ⟨x,u,rfl,hx,hr⟩
    cases k<;>cases l<;>simp only [oM] at h1<;>try (cases h1;done)
    ·rename_i m;cases m<;>simp only [oM] at h1<;>try (cases h1;done)
     exact one _ _ rfl (λw hw=>by cases hw;exact ⟨_,rfl,rfl⟩)
    ·rename_i k m;cases m<;>simp only [oM] at h1<;>try (cases h1;done)
     exact one _ _ rfl (λw hw=>by cases hw;exact ⟨_,rfl,h1⟩)
    ·rename_i m;cases m<;>simp only [oM] at h1<;>try (cases h1;done)
     exact one _ _ rfl (λw hw=>by cases hw;exact ⟨_,rfl,rfl⟩)
    ·rename_i x;have g1:v=cc x:=g1;subst g1;exact (IY x).append hr
theorem Lu {l l':aE} {v v':List Value}{b:Bool}(h:aX e v l) (h':aX e v' l')(hb:E7 l l'=some b):lV v v'=b/\v.length=v'.length:=by
 unfold E7 at hb;split at hb
 ·obtain ⟨_,h⟩:=h;obtain ⟨_,h'⟩:=h';cases h;cases h';simp at hb;exact ⟨by simp [lV,ceq,<-hb],rfl⟩
 ·obtain ⟨_,h⟩:=h;obtain ⟨_,h'⟩:=h';cases h;cases h';rename_i k x k' y _ _;cases hk:decide (k=k') with
  |false=>simp [hk] at hb
  |true=>simp [hk] at hb;exact ⟨by simp [lV,ceq,<-hb],rfl⟩
 ·obtain ⟨_,h⟩:=h;obtain ⟨_,h'⟩:=h';cases h;cases h';simp at hb;exact ⟨by simp [lV,ceq,<-hb],rfl⟩
 ·rename_i x y;have h:v=cc x:=h;have h':v'=cc y:=h';subst h;subst h';simp at hb;exact ⟨by rw [My,<-hb],by rw [gX,gX]⟩
 ·cases hb
theorem aav {ls:List aE}: ∀{zf:List aE} {vs Su:List Value} {b:Bool},ay e vs ls->ay e Su zf->kC ls zf=some b->lV vs Su=b:=by
 induction ls with
 |nil=>
  intro zf vs Su b h h' hb;cases zf with
  |nil=>cases h;cases h';simp [kC] at hb;subst hb;rfl
  |cons l' zf=>simp [kC] at hb
 |cons l ls ih=>
  intro zf vs Su b h h' hb;cases zf with
  |nil=>simp [kC] at hb
  |cons l' zf=>
   obtain ⟨v,u,rfl,h1,h2⟩:=h;obtain ⟨v',u',rfl,Gf,NW⟩:=h';have two: ∀x y,E7 l l'=some x->kC ls zf=some y->b=(x&&y)->lV (v++u) (v'++u')=b:=by intro x y hx hy hxy;obtain ⟨g1,g2⟩:=Lu h1 Gf hx;rw [vD g2,g1,ih h2 NW hy,hxy]
   cases ls with
   |nil=>
    cases zf with
    |nil=>have hb:E7 l l'=some b:=hb;exact two b true hb rfl (by simp)
    |cons p q=>
     simp only [kC] at hb;split at hb
     ·rename_i x y hx hy;exact two x y hx hy (by simpa using hb.symm)
     ·cases hb
   |cons p q=>
    simp only [kC] at hb;split at hb
    ·rename_i x y hx hy;exact two x y hx hy (by simpa using hb.symm)
    ·cases hb
end
def wk (F:TypeId->Option (List Kd))(P:Program):List Field->Nat->Nat->Option (List Kd)
 |[],o,n=>bif abG o n then some [] else none
 |f::fs,o,n=>match F f.type with
  |some ks=>bif abG f.offset o&&abG ks.length (P.cellsOf f.type)&&!(f.name== "_") then (match wk F P fs (o+ks.length) n with|some r=>some (ks++r)|none=>none) else none
  |none=>none
def QC:Nat->List Kd->List Kd
 |0,_=>[]
 |n+1,ks=>ks++QC n ks
def oq (P:Program):Nat->TypeId->Option (List Kd)
 |0,_=>none
 |d+1,t=>match P.underlying t with
  |some .bool=>some [.b]
  |some (.int k)=>some [.i k]
  |some .string=>some [.s]
  |some (.array n e)=>match oq P d e with
   |some ks=>bif abG ks.length (P.cellsOf e)&&(match P.info? e with|some _=>true|none=>false) then some (QC n ks) else none
   |none=>none
  |some (.struct fs)=>bif P.stoodInHeld t then none else wk (oq P d) P fs.toList 0 (P.cellsOf t)
  |_=>none
def Lv:TypeDesc->Bool
 | .struct _=>true
 | .array _ _=>true
 |_=>false
theorem I3 {F:TypeId->Option (List Kd)}{P:Program}: ∀(fs:List Field) (o n:Nat) (ks:List Kd),wk F P fs o n=some ks->o+ks.length=n:=by
 intro fs;induction fs with
 |nil=>
  intro o n ks hk;simp only [wk] at hk;cases hb:abG o n with
  |false=>simp [hb] at hk
  |true=>simp [hb] at hk;subst hk;simpa using AI hb
 |cons f fs ihf=>
  intro o n ks hk;simp only [wk] at hk;cases hf:F f.type with
  |none=>simp [hf] at hk
  |some js=>
   simp only [hf] at hk
   cases hc:abG f.offset o&&abG js.length (P.cellsOf f.type)&&!(f.name== "_") with
   |false=>simp [hc] at hk
   |true=>
    simp only [hc,cond_true] at hk;cases hr:wk F P fs (o+js.length) n with
    |none=>simp [hr] at hk
    |some rs=>simp only [hr,sh] at hk;subst hk;have:=ihf _ _ _ hr;simp only [aaJ];omega
def u7 (P:Program)(t:TypeId)(v:Value)(cs:List Value):Prop:=match P.underlying t with
 |some (.struct _)|some (.array _ _)=>v= .agg cs.toArray
 |_=>cs=[v]
theorem QD (n:Nat)(ks:List Kd):(QC n ks).length=n *ks.length:=by
 induction n with
 |zero=>simp [QC]
 |succ n ih=>simp only [QC,aaJ,ih,agV];omega
section
variable {P:Program}{w:World}
theorem Bx {t:TypeId}{xs:Array Value}{off:Nat}{n:Nat}{d:TypeDesc}(hu:P.underlying t=some d)(hn:P.cellsOf t=n)(ml:Lv d=false->n=1)(hl:off+n<=xs.size): ∃v,(Go.part t xs off).run P w= .ok v w/\u7 P t v ((xs.toList.drop off).take n):=by
 obtain ⟨i,hi⟩:=info_of_underlying hu;have rR:i.size=n:=by rw [<-hn];simp [Program.cellsOf,hi]
 cases hd:Lv d with
 |true=>
  refine ⟨.agg (xs.extract off (off+n)),?_,?_⟩
  ·cases d<;>simp [Lv] at hd<;>simp [Go.part,isAgg,run_underlying hu,aeT,typeInfo,hi,rR]
  ·have he:(xs.extract off (off+n))=((xs.toList.drop off).take n).toArray:=by apply afT.1;rw [Array.toList_extract];simp [List.extract]
   unfold u7;cases d<;>simp [Lv] at hd<;>simp only [hu]<;>rw [he]
 |false=>
  have Sr:=ml hd;subst Sr;have cJ:off<xs.size:=by omega
  refine ⟨xs[off],?_,?_⟩
  ·cases d<;>simp [Lv] at hd<;>simp [Go.part,isAgg,run_underlying hu,cJ]
  ·have he:(xs.toList.drop off).take 1=[xs[off]]:=by rw [List.take_one,List.head?_drop];simp [cJ]
   unfold u7;cases d<;>simp [Lv] at hd<;>simp only [hu]<;>exact he
theorem WY {F:TypeId->Option (List Kd)}{dd:Nat}{xs ys:Array Value}: ∀(fs:List Field) (o n:Nat) (ks:List Kd),wk F P fs o n=some ks->xs.size=n->ys.size=n->kF ks (xs.toList.drop o)->kF ks (ys.toList.drop o)-> (∀f∈fs,∀js,F f.type=some js->(∃d,P.underlying f.type=some d/\(Lv d=false->js.length=1))/\ ∀(x y:Value) (us vs:List Value),u7 P f.type x us->u7 P f.type y vs->kF js us->kF js vs->(afZ dd f.type x y).run P w= .ok (lV us vs) w)-> (Op.eqFields dd xs ys fs).run P w= .ok (lV (xs.toList.drop o) (ys.toList.drop o)) w:=by
 intro fs;induction fs with
 |nil=>
  intro o n ks hk hx hy _ _ _;simp only [wk] at hk;cases hb:abG o n with
  |false=>simp [hb] at hk
  |true=>have hb:=AI hb;have h1:xs.toList.drop o=[]:=ade (by simp [hx,hb]);have h2:ys.toList.drop o=[]:=ade (by simp [hy,hb]);rw [h1,h2];simp [Op.eqFields,lV]
 |cons f fs ih=>
  intro o n ks hk hx hy fx fy hF;simp only [wk] at hk;cases hf:F f.type with
  |none=>simp [hf] at hk
  |some js=>
   simp only [hf] at hk
   cases hc:abG f.offset o&&abG js.length (P.cellsOf f.type)&&!(f.name== "_") with
   |false=>simp [hc] at hk
   |true=>
    simp only [hc,cond_true] at hk;simp only [cV,aau] at hc;obtain ⟨⟨h1,h2⟩,h3⟩:=hc;have h1:=AI h1;have h2:=AI h2
    have h3:f.name≠ "_" :=by intro he;rw [he] at h3;simp at h3
    cases hr:wk F P fs (o+js.length) n with
    |none=>simp [hr] at hk
    |some rs=>
     simp only [hr,sh] at hk;subst hk;obtain ⟨fx1,fx2⟩:=fx.split;obtain ⟨fy1,fy2⟩:=fy.split;rw [adr] at fx2 fy2;have lx:=fx.length;have ly:=fy.length;simp only [ac9,aaJ,abJ] at lx ly;obtain ⟨⟨d,hu,ml⟩,j6⟩:=hF f (by simp) js hf;by_cases hz:o+js.length<=xs.size/\o+js.length<=ys.size
     ·obtain ⟨x,px,wx⟩:=Bx (w:=w) (xs:=xs) (off:=f.offset) hu h2.symm ml (by rw [h1];exact hz.1);obtain ⟨y,py,wy⟩:=Bx (w:=w) (xs:=ys) (off:=f.offset) hu h2.symm ml (by rw [h1];exact hz.2);rw [h1] at wx wy;have he:=j6 x y _ _ wx wy fx1 fy1;have vE:=ih (o+js.length) n rs hr hx hy fx2 fy2 (λg hg=>hF g (by simp [hg]));simp only [Op.eqFields,h3,ne_eq,not_false_eq_true,if_true,aeb,px,py,he,adl];have CY:lV (xs.toList.drop o) (ys.toList.drop o)=(lV ((xs.toList.drop o).take js.length) ((ys.toList.drop o).take js.length)&&lV (xs.toList.drop (o+js.length)) (ys.toList.drop (o+js.length))):=by rw [<-adr,<-adr,<-vD (by rw [fx1.length,fy1.length]),adg,adg]
      rw [CY];cases lV ((xs.toList.drop o).take js.length) ((ys.toList.drop o).take js.length)
      ·simp
      ·simpa using vE
     ·exfalso;have:=I3 _ _ _ _ hr;omega
theorem aaw {e:TypeId}{dd:Nat}{xs ys:Array Value}{js:List Kd}(Gi:js.length=P.cellsOf e)(hd: ∃d,P.underlying e=some d/\(Lv d=false->js.length=1))(j6: ∀(x y:Value)(us vs:List Value),u7 P e x us->u7 P e y vs->kF js us->kF js vs->(afZ dd e x y).run P w= .ok (lV us vs) w): ∀(m i:Nat),xs.size=(i+m) *js.length->ys.size=(i+m) *js.length->kF (QC m js) (xs.toList.drop (i *js.length))->kF (QC m js) (ys.toList.drop (i *js.length))-> (Op.eqItems dd e (P.cellsOf e) xs ys (aip i m)).run P w= .ok (lV (xs.toList.drop (i *js.length)) (ys.toList.drop (i *js.length))) w:=by
 intro m;induction m with
 |zero=>intro i hx hy _ _;have h1:xs.toList.drop (i *js.length)=[]:=ade (by simp [hx]);have h2:ys.toList.drop (i *js.length)=[]:=ade (by simp [hy]);rw [h1,h2];simp [Op.eqItems,lV]
 |succ m ih=>
  intro i hx hy fx fy;simp only [QC] at fx fy;obtain ⟨fx1,fx2⟩:=fx.split;obtain ⟨fy1,fy2⟩:=fy.split;have hmul:i *js.length+js.length=(i+1) *js.length:=by rw [agV]
  rw [adr,hmul] at fx2 fy2;obtain ⟨d,hu,ml⟩:=hd;have hle:(i+1) *js.length<=(i+(m+1)) *js.length:=acY _ (by omega);obtain ⟨x,px,wx⟩:=Bx (w:=w) (xs:=xs) (off:=i *js.length) hu Gi.symm ml (by omega);obtain ⟨y,py,wy⟩:=Bx (w:=w) (xs:=ys) (off:=i *js.length) hu Gi.symm ml (by omega);have he:=j6 x y _ _ wx wy fx1 fy1;have vE:=ih (i+1) (by rw [hx];congr 1;omega) (by rw [hy];congr 1;omega) fx2 fy2;rw [List.range'_succ];simp only [Op.eqItems,aeb,<-Gi,px,py,he,adl];have CY:lV (xs.toList.drop (i *js.length)) (ys.toList.drop (i *js.length))=(lV ((xs.toList.drop (i *js.length)).take js.length) ((ys.toList.drop (i *js.length)).take js.length)&&lV (xs.toList.drop ((i+1) *js.length)) (ys.toList.drop ((i+1) *js.length))):=by rw [<-hmul,<-adr,<-adr,<-vD (by rw [fx1.length,fy1.length]),adg,adg]
  rw [CY];cases lV ((xs.toList.drop (i *js.length)).take js.length) ((ys.toList.drop (i *js.length)).take js.length)
  ·simp
  ·rw [<-Gi] at vE;simpa using vE
theorem MA: ∀(d:Nat) (t:TypeId) (ks:List Kd),oq P d t=some ks-> ∃k,P.underlying t=some k/\(Lv k=false->ks.length=1):=by
 intro d t ks h;cases d with
 |zero=>simp [oq] at h
 |succ d=>
  simp only [oq] at h;cases hu:P.underlying t with
  |none=>simp [hu] at h
  |some k=>
   refine ⟨k,rfl,λha=> ?_⟩;cases k<;>simp only [hu] at h<;>first
    |(simp only [sh] at h;subst h;rfl)
    |(cases h;done)
    |(simp [Lv] at ha;done)
theorem Gz: ∀(d:Nat) (t:TypeId) (ks:List Kd),oq P d t=some ks-> ∀(m:Nat) (x y:Value) (us vs:List Value),u7 P t x us->u7 P t y vs->kF ks us->kF ks vs-> (afZ (m+d) t x y).run P w= .ok (lV us vs) w:=by
 intro d;induction d with
 |zero=>intro t ks h;simp [oq] at h
 |succ d ih=>
  intro t ks h m x y us vs hx hy fx fy;simp only [oq] at h;have hmd:m+(d+1)=(m+d)+1:=rfl;rw [hmd];cases hu:P.underlying t with
  |none=>simp [hu] at h
  |some k=>
   cases k<;>simp only [hu] at h<;>try (cases h;done)
   case bool=>simp only [sh] at h;subst h;simp only [u7,hu] at hx hy;subst hx;subst hy;obtain ⟨v,r,h1,h2,h3⟩:=fx;obtain ⟨v',r',Gf,NW,h3'⟩:=fy;simp at h1 Gf;obtain ⟨rfl,_⟩:=h1;obtain ⟨rfl,_⟩:=Gf;cases x<;>simp [Ov] at h2;cases y<;>simp [Ov] at NW;rename_i a b;rw [run_equalIn_bool' w _ t a b hu];simp [lV,ceq];cases a<;>cases b<;>rfl
   case int k=>simp only [sh] at h;subst h;simp only [u7,hu] at hx hy;subst hx;subst hy;obtain ⟨v,r,h1,h2,h3⟩:=fx;obtain ⟨v',r',Gf,NW,h3'⟩:=fy;simp at h1 Gf;obtain ⟨rfl,_⟩:=h1;obtain ⟨rfl,_⟩:=Gf;cases x<;>simp [Ov] at h2;cases y<;>simp [Ov] at NW;subst h2;subst NW;rw [run_equalIn_int w _ t _ _ _ _ hu];simp only [lV,ceq,aeg];congr 1
   case string=>simp only [sh] at h;subst h;simp only [u7,hu] at hx hy;subst hx;subst hy;obtain ⟨v,r,h1,h2,h3⟩:=fx;obtain ⟨v',r',Gf,NW,h3'⟩:=fy;simp at h1 Gf;obtain ⟨rfl,_⟩:=h1;obtain ⟨rfl,_⟩:=Gf;cases x<;>simp [Ov] at h2;cases y<;>simp [Ov] at NW;rw [run_equalIn_string w _ t _ _ hu];simp only [lV,ceq,aeg,toList_data];congr 1;exact Bool.beq_eq_decide_eq _ _
   case array n e=>
    cases hke:oq P d e with
    |none=>simp [hke] at h
    |some js=>
     simp only [hke] at h;cases hc:abG js.length (P.cellsOf e)&&(match P.info? e with|some _=>true|none=>false) with
     |false=>simp [hc] at h
     |true=>
      simp only [hc,cond_true,sh] at h;subst h;simp only [cV] at hc;have Gi:=AI hc.1;obtain ⟨i,hi⟩: ∃i,P.info? e=some i:=by
       cases hi:P.info? e with
       |none=>rw [hi] at hc;simp at hc
       |some i=>exact ⟨i,rfl⟩
      simp only [u7,hu] at hx hy;subst hx;subst hy;rw [run_equalIn_array w (m+d) us.toArray vs.toArray hu hi,List.range_eq_range'];have l1:=fx.length;have l2:=fy.length;rw [QD] at l1 l2;have:=aaw (w:=w) (xs:=us.toArray) (ys:=vs.toArray) (js:=js) (dd:=m+d) Gi (MA d e js hke) (λx y us vs a b c d'=>ih e js hke m x y us vs a b c d') n 0 (by simpa using l1) (by simpa using l2) (by simpa using fx) (by simpa using fy);simpa using this
   case struct fs=>
    cases iF:P.stoodInHeld t with
    |true=>simp [iF] at h
    |false=>
     simp only [iF,cond_false] at h;simp only [u7,hu] at hx hy;subst hx;subst hy;have Z8:P.fieldsOf t=fs:=by simp [Program.fieldsOf,hu]
     rw [run_equalIn_struct w (m+d) t us.toArray vs.toArray (by rw [Z8];exact hu) iF,Z8];have hl:=I3 _ _ _ _ h;have:=WY (w:=w) (dd:=m+d) (xs:=us.toArray) (ys:=vs.toArray) fs.toList 0 (P.cellsOf t) ks h (by simp [fx.length];omega) (by simp [fy.length];omega) (by simpa using fx) (by simpa using fy) (λf hf js hjs=>⟨MA d f.type js hjs,λx y us vs a b c d'=>ih f.type js hjs m x y us vs a b c d'⟩);simpa using this
end
theorem Vl {l m:List Kd}(h:Dz l m=true):l=m:=by
 induction l generalizing m with
 |nil=>cases m<;>simp [Dz] at h;rfl
 |cons a l ih=>
  cases m with
  |nil=>simp [Dz] at h
  |cons b m=>simp only [Dz,cV] at h;rw [aap h.1,ih h.2]
def Tw:List Kd->Bool
 |[]=>true
 | .l::_=>false
 | .raw::_=>false
 |_::r=>Tw r
def eqB (P:Program)(t:Nat)(I:TI):Bool:=!Tw I.lay||!yd I.cQ||((match oq P 20 t with|some ks=>Dz ks (cks I.lay)|none=>false)&&!P.eqGuardType P.depth t&& (match P.underlying t with|some (.struct _)=>I.st|some (.array _ _)=>!I.st&&mK I.lay .h|some .bool=>!I.st&&mK I.lay .b|some (.int k)=>!I.st&&mK I.lay (.i k)|some .string=>!I.st&&mK I.lay .s|_=>false))
def ahH (P:Program)(tab:List (Nat×TI)):Bool:=tab.all λp=>eqB P p.1 p.2
theorem WZ {lay:List Kd}: ∀{ls:List aE},gk lay ls=true->Tw lay=true:=by
 induction lay with
 |nil=>intro ls _;rfl
 |cons k lay ih=>
  intro ls h;cases ls with
  |nil=>simp [gk] at h
  |cons l ls=>
   simp only [gk] at h;cases h1:oM k l with
   |false=>simp [h1] at h
   |true=>simp only [h1,cond_true] at h;have:=ih h;cases k<;>first|exact this|(cases l<;>simp [oM] at h1)
theorem Xa {t:TypeId}{x y:Value}(h:(∃b,x= .bool b)\/ ∃cs,x= .agg cs)(op:BinOp): (op= .eql->binOp op t x y=(do pure (.bool (<-agX t x y))))/\(op= .neq->binOp op t x y=(do pure (.bool (!(<-agX t x y))))):=by rcases h with ⟨b,rfl⟩|⟨cs,rfl⟩<;>refine ⟨?_,?_⟩<;>rintro rfl<;>cases y<;>rfl
theorem Xb {P:Program}{tab:List (Nat×TI)}(h:ahH P tab=true):NU P (uk tab):=by
 intro t I hI hc e w vx vy sx sy b rx ry fx fy shx shy hb n1 n2;have hr:=aaP.1 h (t,I) (Mx hI);simp only [eqB,WZ fx,aej,afO] at hr;rw [hc] at hr;simp only [yd,aej,afO,cV,aau] at hr;obtain ⟨⟨hk,hg⟩,hd⟩:=hr;cases Sv:oq P 20 t with
 |none=>simp [Sv] at hk
 |some ks=>
  simp only [Sv] at hk;have hk:=Vl hk;subst hk;have cells: ∀(v:Value) (s:Slot),ah e v s->gk I.lay (aP s)=true->nK I.st s=true->(∃us,u7 P t v us/\ay e us (aP s))/\((∃b,v= .bool b)\/(∃cs,v= .agg cs)\/(∃k n,s= .sc (.p (.i k n)))\/ ∃l,s= .sc (.p (.s l))):=by
   intro v s hv hf hs;cases s<;>simp only [nK] at hs<;>try (cases hs;done)
   ·rename_i l;have iF:I.st=false:=by simpa using hs
    cases hu:P.underlying t with
    |none=>simp [hu] at hd
    |some d=>
     simp only [hu] at hd;cases d<;>simp only [iF,ahO,agG] at hd<;>try (cases hd;done)
     ·have hl:=fe hd;rw [hl] at hf;simp only [aP,gk] at hf;cases l<;>simp [oM] at hf;rename_i m;cases m<;>simp [oM] at hf;have:=Ab hv;exact ⟨⟨[v],by simp [u7,hu],[v],[],rfl,hv,rfl⟩,.inl ⟨_,this⟩⟩
     ·have hl:=fe hd;rw [hl] at hf;simp only [aP,gk] at hf;cases l<;>simp [oM] at hf;rename_i m;cases m<;>simp [oM] at hf;exact ⟨⟨[v],by simp [u7,hu],[v],[],rfl,hv,rfl⟩,.inr (.inr (.inl ⟨_,_,rfl⟩))⟩
     ·have hl:=fe hd;rw [hl] at hf;simp only [aP,gk] at hf;cases l<;>simp [oM] at hf;rename_i m;cases m<;>simp [oM] at hf;exact ⟨⟨[v],by simp [u7,hu],[v],[],rfl,hv,rfl⟩,.inr (.inr (.inr ⟨_,rfl⟩))⟩
     ·have hl:=fe hd;rw [hl] at hf;simp only [aP,gk] at hf;cases l<;>simp [oM] at hf;rename_i x;have hv:v= .agg (cc x).toArray:=hv;exact ⟨⟨cc x,by simp [u7,hu,hv],cc x,[],by simp,rfl,rfl⟩,.inr (.inl ⟨_,hv⟩)⟩
   ·rename_i cs;cases hu:P.underlying t with
    |none=>simp [hu] at hd
    |some d=>
     simp only [hu] at hd;cases d<;>simp only [hs,aej,Bool.false_and] at hd<;>try (cases hd;done)
     obtain ⟨arr,hv,tF⟩:=hv;exact ⟨⟨arr.toList,by simp [u7,hu,hv],tF⟩,.inr (.inl ⟨_,hv⟩)⟩
  obtain ⟨⟨us,wx,lx⟩,kx⟩:=cells vx sx rx fx shx;obtain ⟨⟨vs,wy,ly⟩,ky⟩:=cells vy sy ry fy shy;have j6:(agX t vx vy).run P w= .ok b w:=by have:=Gz (P:=P) (w:=w) 20 t _ Sv 9980 vx vy us vs wx wy (Mz lx fx) (Mz ly fy);rw [aav lx ly hb] at this;exact this
  refine ⟨j6,λx y op=> ?_⟩;have hxk:(∃b,vx= .bool b)\/ ∃cs,vx= .agg cs:=by
   rcases kx with h1|h1|⟨k,n,h1⟩|⟨l,h1⟩
   ·exact .inl h1
   ·exact .inr h1
   ·exfalso;subst h1;cases hu:P.underlying t with
    |none=>simp [hu] at hd
    |some d=>
     simp only [aP] at fx fy hb;cases aax:I.lay with
     |nil=>rw [aax] at fx;simp [gk] at fx
     |cons k0 r0=>
      rw [aax] at fx fy;simp only [gk] at fx;cases k0<;>simp [oM] at fx;obtain ⟨hk0,YF⟩:=fx;have YF:r0=[]:=by cases r0<;>simp [gk] at YF;rfl
      subst YF;cases sy<;>simp only [nK] at shx shy<;>try (cases shy;done)
      ·rename_i l;simp only [aP,gk] at fy;cases l<;>simp [oM] at fy;rename_i m;cases m<;>simp [oM] at fy;exact n1 _ _ _ _ rfl rfl
      ·rw [shy] at shx;cases shx
   ·exfalso;subst h1;simp only [aP] at fx fy hb;cases aax:I.lay with
    |nil=>rw [aax] at fx;simp [gk] at fx
    |cons k0 r0=>
     rw [aax] at fx fy;simp only [gk] at fx;cases k0<;>simp [oM] at fx;have YF:r0=[]:=by cases r0<;>simp [gk] at fx;rfl
     subst YF;cases sy<;>simp only [nK] at shx shy<;>try (cases shy;done)
     ·rename_i l;simp only [aP,gk] at fy;cases l<;>simp [oM] at fy;rename_i m;cases m<;>simp [oM] at fy;exact n2 _ _ rfl rfl
     ·rw [shy] at shx;cases shx
  refine ⟨?_,Xa hxk op⟩;have hg':P.eqGuardType P.depth t=false:=hg;rcases hxk with ⟨bb,rfl⟩|⟨cs,rfl⟩
  ·cases op<;>rfl
  ·cases vy<;>cases op<;>first|rfl|(simp [eqGuard,hg'])
end Dn
/-
  A program's types of maps, looked through. Conditions: none.
-/
namespace Dn
open Go
theorem Ow {lay:List Kd}: ∀{ks:List MV},dX lay ks=true->kF (cks lay) (ks.flatMap E0):=by
 induction lay with
 |nil=>intro ks h;cases ks with|nil=>rfl|cons=>simp [dX] at h
 |cons k lay ih=>
  intro ks h;cases ks with
  |nil=>simp [dX] at h
  |cons m ks=>
   simp only [dX,cV] at h;have h2:=ih h.2;have h1:=h.1;cases k<;>cases m<;>simp only [Fe] at h1<;>try (cases h1;done)
   ·exact ⟨_,_,rfl,rfl,h2⟩
   ·exact ⟨_,_,rfl,h1,h2⟩
   ·exact ⟨_,_,rfl,rfl,h2⟩
   ·exact (IY _).append h2
theorem adZ {lay:List Kd}: ∀{a b:List MV},dX lay a=true->dX lay b=true->lV (a.flatMap E0) (b.flatMap E0)=eV b a:=by
 induction lay with
 |nil=>intro a b ha hb;cases a<;>cases b<;>simp [dX] at ha hb;rfl
 |cons k lay ih=>
  intro a b ha hb;cases a with
  |nil=>simp [dX] at ha
  |cons x a=>
   cases b with
   |nil=>simp [dX] at hb
   |cons y b=>
    simp only [dX,cV] at ha hb;have ih:=ih ha.2 hb.2;have h1:=ha.1;have h2:=hb.1;cases k<;>cases x<;>simp only [Fe] at h1<;>try (cases h1;done)
    all_goals cases y<;>simp only [Fe] at h2<;>try (cases h2;done)
    ·rename_i p q;simp only [aec,E0,ac8,adY,lV,ceq,eV,E9,ih];congr 1;rw [decide_eq_decide];exact eq_comm
    ·rename_i k1 p k2 q;have e1:=of_decide_eq_true h1;have e2:=of_decide_eq_true h2;subst e1;subst e2;simp only [aec,E0,ac8,adY,lV,ceq,eV,E9,ih,decide_true,agG];congr 1;rw [decide_eq_decide];exact eq_comm
    ·rename_i p q;simp only [aec,E0,ac8,adY,lV,ceq,eV,E9,ih];congr 1;rw [decide_eq_decide];simp [eq_comm]
    ·rename_i p q;simp only [aec,E0,eV,E9];rw [vD (by rw [gX,gX]),My,ih];congr 1;rw [decide_eq_decide];exact eq_comm
def Fy:TypeDesc->Bool
 | .bool| .int _| .string=>true
 |_=>false
def alH (P:Program)(n:Nat)(fs:List Field):Bool:=fs.all λf=>(match P.underlying f.type with|some d=>Fy d|none=>false)&&af1 (f.offset+1) n
def agc (P:Program)(kt:Nat)(I:TI):Bool:=match P.underlying kt with
 |some .bool=>!I.st&&mK I.lay .b
 |some (.int k)=>!I.st&&mK I.lay (.i k)
 |some .string=>!I.st&&mK I.lay .s
 |some (.struct fs)=>I.st&&(match oq P 20 kt with|some ks=>Dz ks (cks I.lay)|none=>false)&&alH P (cks I.lay).length fs.toList
 |_=>false
def agd (b:Bool):Option Value->Bool
 |some (.bool false)=>b
 |some (.int .i64 n)=>!b&&decide (n=0)
 |_=>false
def alI (P:Program)(ti:Nat->Option TI)(t kt:Nat)(b:Bool):Bool:=match P.underlying t with
 |some (.map kt' el)=>abG kt' kt&&(match P.info? el with|some i=>agd b i.zero|none=>false)&&(match ti kt with|some I=>yd I.cQ&&agc P kt I|none=>false)
 |_=>false
def DR:List (Nat×(Nat×Bool))->Nat->Option (Nat×Bool)
 |[],_=>none
 |(k,s)::r,t=>bif abG k t then some s else DR r t
theorem Xc {l:List (Nat×(Nat×Bool))}{t:Nat}{I:Nat×Bool}(h:DR l t=some I):(t,I)∈l:=by
 induction l with
 |nil=>simp [DR] at h
 |cons p l ih=>
  obtain ⟨k,s⟩:=p;simp only [DR,eO] at h;by_cases hk:k=t
  ·subst hk;simp at h;subst h;simp
  ·simp only [hk,decide_false,cond_false] at h;exact agm _ (ih h)
def ad0 (P:Program)(ti:Nat->Option TI)(l:List (Nat×(Nat×Bool))):Bool:=l.all λp=>alI P ti p.1 p.2.1 p.2.2
theorem Bz {k:Kd}{ks:List MV}(h:dX [k] ks=true): ∃m,ks=[m]/\Fe k m=true:=by
 cases ks with
 |nil=>simp [dX] at h
 |cons m r=>
  cases r with
  |cons=>simp [dX] at h
  |nil=>exact ⟨m,rfl,by simpa [dX] using h⟩
theorem lg {P:Program}{t:TypeId}{d:TypeDesc}(hu:P.underlying t=some d)(hd:Fy d=true)(em:Bool)(n:Nat)(v:Value)(w:World):(agn em (n+1) t v).run P w= .ok () w:=by rw [agn];simp only [aeb,run_underlying hu,Result.andThen];cases d<;>simp [Fy] at hd<;>cases v<;>rfl
theorem I4 {P:Program}{t:TypeId}{d:TypeDesc}(hu:P.underlying t=some d)(hd:Fy d=true){xs:Array Value}{off:Nat}(h:off<xs.size)(w:World):(Go.part t xs off).run P w= .ok xs[off] w:=by cases d<;>simp [Fy] at hd<;>simp [Go.part,isAgg,run_underlying hu,h]
theorem I5 {P:Program}{c:Ctx}{l:List (Nat×(Nat×Bool))}(h:ad0 P c.ti l=true)(hm: ∀t p,c.mt t=some p->DR l t=some p):xZ P c:=by
 intro t s hs;unfold we at hs;cases PL:c.mt t with
 |none=>simp [PL] at hs
 |some p=>
  obtain ⟨kt,b⟩:=p;simp only [PL] at hs;cases hI:c.tv kt with
  |none=>simp [hI] at hs
  |some I=>
   simp only [hI] at hs;cases hit:Hj ⟨I.st,I.lay,b⟩ with
   |true=>simp [hit] at hs
   |false=>
   simp only [hit,cond_false,sh] at hs;subst hs;obtain ⟨PE,Ac⟩:=bG hI;have hb:=aaP.1 h _ (Xc (hm t _ PL));simp only [alI] at hb;split at hb
   ·rename_i kt' el hu;simp only [cV] at hb;obtain ⟨⟨u6,qx⟩,hb3⟩:=hb;have u6:=AI u6;subst u6;split at qx
    ·rename_i inf aqd;rw [PE] at hb3;simp only [cV] at hb3;have hk:=hb3.2;have hz: ∀w:World,(zeroValue el).run P w= .ok (BZ b (ko b)) w:=by
      intro w;have:inf.zero=some (BZ b (ko b)):=by
       generalize inf.zero=z at qx;unfold agd at qx;split at qx
       ·subst qx;rfl
       ·simp only [cV,aau] at qx;obtain ⟨h1,h2⟩:=qx;subst h1;rw [of_decide_eq_true h2];rfl
       ·cases qx
      simp [zeroValue,typeInfo,aqd,this]
     unfold agc at hk;refine ⟨kt',el,hu,hz,?_⟩;split at hk
     ·rename_i hd;simp only [cV,aau] at hk;have hl:=fe hk.2;refine ⟨λem ks w hf=>lg hd rfl em 9999 _ w,_,hd,.inl λa b' ha Fg=> ?_⟩;rw [hl] at ha Fg;obtain ⟨x,rfl,hx⟩:=Bz ha;obtain ⟨y,rfl,hy⟩:=Bz Fg;cases x<;>simp [Fe] at hx;cases y<;>simp [Fe] at hy;rename_i p q;simp only [hk.1,gy,agH,eV,E9,aeg];congr 1;rw [af9];simp only [beq_iff_eq,decide_eq_true_eq];exact eq_comm
     ·rename_i k hd;simp only [cV,aau] at hk;have hl:=fe hk.2;refine ⟨λem ks w hf=>lg hd rfl em 9999 _ w,_,hd,.inl λa b' ha Fg=> ?_⟩;rw [hl] at ha Fg;obtain ⟨x,rfl,hx⟩:=Bz ha;obtain ⟨y,rfl,hy⟩:=Bz Fg;cases x<;>simp [Fe] at hx;cases y<;>simp [Fe] at hy;subst hx;subst hy;rename_i p q;simp only [hk.1,gy,agH,eV,E9,aeg,if_true,decide_true,agG];congr 1;rw [af9];simp only [beq_iff_eq,decide_eq_true_eq];exact eq_comm
     ·rename_i hd;simp only [cV,aau] at hk;have hl:=fe hk.2;refine ⟨λem ks w hf=>lg hd rfl em 9999 _ w,_,hd,.inl λa b' ha Fg=> ?_⟩;rw [hl] at ha Fg;obtain ⟨x,rfl,hx⟩:=Bz ha;obtain ⟨y,rfl,hy⟩:=Bz Fg;cases x<;>simp [Fe] at hx;cases y<;>simp [Fe] at hy;rename_i p q;simp only [hk.1,gy,agH,eV,E9,aeg];congr 1;rw [beq_toListBytes,agC,agC,af9];simp only [beq_iff_eq,decide_eq_true_eq,List.toList_toArray];exact eq_comm
     ·rename_i fs hd;simp only [cV] at hk;obtain ⟨⟨iF,hkk⟩,Z8⟩:=hk;split at hkk
      ·rename_i ks Sv;have hkk:=Vl hkk;subst hkk;have hkv: ∀q,gy true q= .agg (q.flatMap E0).toArray:=by intro q;rfl
       refine ⟨λem q w hf=> ?_,_,hd,.inr λx y hx hy=>⟨?_,λw=> ?_⟩⟩
       ·have hlen:(q.flatMap E0).length=(cks I.lay).length:=(Ow hf).length;rw [iF,hkv,show (10000:Nat)=9999+1 from rfl,agn];simp only [aeb,run_underlying hd,adl];rw [<-Array.forIn_toList];have each: ∀f∈fs.toList,(∃d,P.underlying f.type=some d/\Fy d=true)/\f.offset<(q.flatMap E0).toArray.size:=by
         intro f hf;have:=aaP.1 Z8 f hf;simp only [cV] at this;obtain ⟨h1,h2⟩:=this;split at h1
         ·rename_i d hd;exact ⟨⟨d,hd,h1⟩,by have:=acV h2;simp only [acT];omega⟩
         ·cases h1
        clear Z8;generalize fs.toList=L at each;generalize (q.flatMap E0).toArray=xs at each;induction L with
        |nil=>simp
        |cons f L ih=>
         obtain ⟨⟨d,h1,h2⟩,h3⟩:=each f (by simp);have u6:=lg h1 h2 em 9998 xs[f.offset] w;have qx:=I4 (P:=P) h1 h2 h3 w
         by_cases hn:f.name= "_"
         ·simp only [List.forIn_cons,aeb,hn,ne_eq,not_true_eq_false,if_false,adl,aie];exact ih (λy hy=>each y (by simp [hy]))
         ·simp only [List.forIn_cons,aeb,hn,ne_eq,not_false_eq_true,if_true,adl,u6,qx,aie];exact ih (λy hy=>each y (by simp [hy]))
       ·rw [iF,hkv,hkv];rfl
       ·rw [iF,hkv,hkv];have:=Gz (P:=P) (w:=w) 20 kt' _ Sv 9980 (.agg (x.flatMap E0).toArray) (.agg (y.flatMap E0).toArray) (x.flatMap E0) (y.flatMap E0) (by simp [u7,hd]) (by simp [u7,hd]) (Ow hx) (Ow hy);rw [adZ hx hy] at this;exact this
      ·cases hkk
     ·cases hk
    ·cases qx
   ·cases hb
end Dn
/-
  Functions that are handed a variable do what their abstract run says. Conditions: none.
-/
namespace Dn
open Go
section
variable {P:Program}{c:Ctx}{Z:bI} {e e':Env}{st bZ:St} {a a':Act} {w w':World}{R:Type}{r:R}
theorem Xd {rs:List ResultVar}(hT:kq P c.ti): ∀{e:Env} {st:St} {K:List MV->St->Option R},b9 c Z e st a w->Wh c st rs K=some r-> ∃e' bZ ms vs,b9 c Z e' bZ a w/\Ext Z.In e e'/\(rs.mapM (jf a.tmps)).run P w= .ok vs w/\bV e'.key e'.φ vs ms/\K ms bZ=some r:=by
 induction rs with
 |nil=>intro e st K h hK;exact ⟨e,st,[],[],h,.refl _ _,by simp,rfl,hK⟩
 |cons x rs ih=>
  intro e st K h hK;have go: ∀(s:Slot) (v:Value),ah e v s->(jf a.tmps x).run P w= .ok v w->(nJ st s λm st=>Wh c st rs λms st=>K (m::ms) st)=some r-> ∃e' bZ ms vs,b9 c Z e' bZ a w/\Ext Z.In e e'/\((x::rs).mapM (jf a.tmps)).run P w= .ok vs w/\bV e'.key e'.φ vs ms/\K ms bZ=some r:=by
   intro s v hs cr hK;obtain ⟨e1,cR,m,h1,h2,h3,h4,hK⟩:=o7 h hs hK;obtain ⟨e2,ef,ms,vs,q1,q2,q3,q4,hK⟩:=ih h1 hK;refine ⟨e2,ef,m::ms,v::vs,q1,h2.trans q2,?_,⟨v,vs,rfl,?_,q4⟩,hK⟩
   ·simp [List.mapM_cons,cr,q3]
   ·have:=h4.mono q2.on.φ;rw [<-q2.on.key] at this;exact this
  simp only [Wh] at hK;cases x with
  |tmp t=>
   simp only at hK;have hs:=h.slot t;by_cases hb: ∃cs,av st.fr t= .box cs
   ·obtain ⟨cs,hb⟩:=hb;rw [hb] at hK;simp [nJ] at hK
   ·refine go (av st.fr t) (a.tmps.getD t undef) ?_ rfl hK;generalize av st.fr t=s at hs hb;cases s<;>first|exact hs|exact absurd ⟨_,rfl⟩ hb
  |cell b t=>
   simp only at hK;have hs:=h.slot b;split at hK
   ·rename_i I cs hI hb;obtain ⟨PE,Ac⟩:=bG hI;rw [hb] at hs;obtain ⟨hv,B2⟩:=hs;cases Aj:iW cs||y8 b with
    |true=>simp [Aj] at hK
    |false=>
    obtain ⟨xQ,hpb⟩:=agp.1 Aj;simp only [Aj,cond_false] at hK;have hv:=hv.1 hpb;rw [ue xQ] at hv;obtain ⟨arr,T,fG,tF⟩:=B2.cells xQ;have hm:w.rangeAt (e.B b) 0 arr.toList:=by intro j v hj;rw [ads,cell_of fG];simpa using hj
    obtain ⟨v,s,h1,h2,h3,h4⟩:=jI (P:=P) (st:=st) (s:= .skip) (hT t I PE) Ac tF hm hK;refine go s v h2 ?_ h4;simpa [jf,hv,asAddr,acX,ahQ] using h1 w hm
   ·simp at hK
theorem I6 {key:Nat->Nat} {φ:Ph}{v:Value}{m:MV}(h:fZ key φ v (.cell m)):False:=by have:=h.1;simp [MV.one] at this
theorem alK (off pos:Nat):y8 (1000000+off *1000+pos)=true:=Nat.ble_eq_true_of_le (by omega)
theorem aay {f pos:Nat}{ks:List LK}{fn:Func}{dJ:List (List Kd)}{ms:List MV}{m:MV}(hG:Good P c)(hD:IR P c)(hf:P.funcs[f]? =some fn)(Am:(fn.name== "runtime.NumGoroutine")=false)
 (hn:c.n=fn.ntmps) (hnp:fn.ntmps<=1000000) (rR:fn.params.size+dJ.length<=fn.ntmps) (hg:c.fF (c.key f)=true) (Hq:c.sig (c.key f)=some (pos,ks)) (hb:zZ c dJ pos ks fn ms=some m):j8 P c f ms m:=by
 intro φ w Z vs hz gl mn;unfold zZ at hb;cases rU:fn.body with
 |none=>simp [rU] at hb
 |some b=>
 simp only [rU] at hb;split at hb;rotate_left
 ·simp at hb
 rename_i b' off ls Fg Aj;cases Fg;cases wX:!kp c ks||!af1 pos 999 with
 |true=>simp [wX] at hb
 |false=>
 simp only [wX,cond_false] at hb;simp only [agp,Bool.not_eq_false'] at wX;obtain ⟨jJ,iY⟩:=wX;have iY:=acV iY;simp only [fJ,hg,if_true] at gl;have hC:afX c Z φ w (c.key f) vs ms:=by
  rcases gl with ⟨v0,v1,v2,xs,m1,ys,_,rfl,_,h4,_⟩|⟨v0,v1,v2,xs,m1,m2,_,rfl,_,_,h4,h5⟩|h
  ·exfalso;rcases pos with _|_|_|pos<;>simp at Aj;subst Aj;exact I6 h4
  ·exfalso;rcases pos with _|_|_|pos<;>simp at Aj
   ·subst Aj;exact I6 h4
   ·subst Aj;exact I6 h5
  ·exact h
 obtain ⟨pos',K9,SH,zf,bt,zb,hvp,ahK,aaz,sN⟩:=hC;rw [Hq] at zb;simp only [sh,adW] at zb;obtain ⟨rfl,rfl⟩:=zb;rw [Aj] at ahK;simp only [sh,MV.cell.injEq,MV.func.injEq] at ahK;obtain ⟨rfl,rfl⟩:=ahK;obtain ⟨cs,mm,E,arr,T,IF,fG,hzb,qC,tF,jK,ga⟩:=sN;let e:Env:=⟨c.key,φ,E,λ_=>bt,mm⟩
 have cr:(callFunc f vs.toArray).run P w= .ok (.enter f vs.toArray) w:=by
  have Lk: ¬fn.name= "runtime.NumGoroutine" :=by simpa using Am
  simp [callFunc,hf,Lk,rU]
 unfold dQ;rw [cr];refine calls_of_wp hf rU ?_;have aaz:bV e.key e.φ vs (ms.set pos (.rp [])):=aaz;obtain ⟨fr,rest,lK,uj,hb,rfl,l1,a2,k1,s1⟩:=Gw aaz hb;obtain ⟨qJ,hb,l2,k2,s2⟩:=Mt a2 hb;simp only [z7] at hb;obtain ⟨kR,alL,H4,g1,hb⟩:=mI hb;cases alL with
 |cons=>simp [gN] at hb
 |nil=>
 simp only [gN] at hb;have j6:cs=kR/\mm=H4.bo:=by unfold Iv at IF;rw [g1] at IF;simp only [gN,sh,adW] at IF;exact ⟨IF.1.symm,IF.2.symm⟩
 obtain ⟨rfl,Wq⟩:=j6;rw [<-Wq] at hb;have htn:(lK++uj).toArray.size=fn.params.size+dJ.length:=by simp [l1,l2]
 let a:Act:={tmps:=(lK++uj).toArray++No (fn.ntmps-(lK++uj).toArray.size) undef,defers:=[]}
 have HN: ∀(t:Nat) (v:Value),(lK++uj)[t]? =some v->a.tmps.getD t undef=v:=by intro t v ht;have cJ:t<(lK++uj).length:=(abC.1 ht).1;rw [ac1];show (((lK++uj).toArray++No _ undef)[t]?).getD undef=v;rw [Array.getElem?_append_left (by simpa using cJ)];simp only [agf];rw [ht];rfl
 have IV: ∀t,dW (av (fr++qJ) t)=false/\(∀cs,av (fr++qJ) t≠ .box cs)/\ah e (a.tmps.getD t undef) (av (fr++qJ) t):=by
  intro t;rw [z8];by_cases h1:t∈aU fr
  ·simp only [h1,if_true];obtain ⟨g1,g2,v,g3,g4⟩:=s1 _ (DO h1);refine ⟨g1,?_,?_⟩
   ·intro cs hc;simp only [hc,dy] at g2;cases g2
   ·rw [HN t v ?_];exact g4;have cJ:t<lK.length:=(abC.1 g3).1;rw [List.getElem?_append_left cJ];exact g3
  ·simp only [h1,if_false];by_cases h2:t∈aU qJ
   ·obtain ⟨g1,g2,v,g3,g4⟩:=s2 _ (DO h2);refine ⟨g1,g2,?_⟩;rw [HN t v ?_];exact g4;have hk:=h2;rw [k2,ahI] at hk;obtain ⟨i,hi,he⟩:=hk;have Ch:fn.params.size=lK.length:=by rw [l1];simp
    rw [List.getElem?_append_right (by omega),<-Ch];exact g3
   ·rw [tE _ _ h2];exact ⟨rfl,λcs hc=>(by cases hc),by simp [ah]⟩
 obtain ⟨q,hq⟩: ∃q,q=1000000+off *1000+pos:=⟨_,rfl⟩
 have Tr:y8 q=true:=by rw [hq];exact alK off pos
 have hpo:posOf q=pos:=by rw [hq];unfold posOf;omega
 have hof:PN q=off:=by rw [hq];unfold PN;omega
 rw [<-hq] at hb;let Zc:bI:={bI.plain Z with cI:=[pos],T:=λ_=> .pointer (some ⟨bt,off,none⟩)}
 have alM:a.tmps.getD pos undef= .pointer (some ⟨bt,off,none⟩):=HN pos _ hvp;have hgt: ∀t,av ((q,Slot.box cs)::(fr++qJ)) t=if t=q then .box cs else av (fr++qJ) t:=by
  intro t;simp only [av,eO];by_cases Xe:t=q
  ·subst Xe;simp
  ·have: ¬q=t:=λh=>Xe h.symm;simp [Xe,this]
 have alN:aU (fr++qJ)=aip 0 (fn.params.toList.length+dJ.length):=by
  have:aU (fr++qJ)=aU fr++aU qJ:=by simp [aU]
  rw [this,k1,k2];have:=List.range'_append_1 (s:=0) (m:=fn.params.toList.length) (n:=dJ.length);simpa using this
 have QE: ∀t ds,av ((q,Slot.box cs)::(fr++qJ)) t= .box ds->t=q:=by
  intro t ds ht;rw [hgt] at ht;by_cases Xe:t=q
  ·exact Xe
  ·rw [if_neg Xe] at ht;exact absurd ht ((IV t).2.1 ds)
 have ta:b9 c Zc e ⟨[pos],[],(q,.box cs)::(fr++qJ),mm⟩ a w:=by
  refine ⟨⟨rfl,rfl,rfl,λt ht=> ?_⟩,?_,rfl,rfl,?_,?_,?_,λf o ho=> ?_,λt t' cs kR h1 h2 di=> ?_,λt ds f o h1 ho=> ?_,λf f' o o' k h1 h2 h3 h4=>ga f f' o o' k h1 h2 h3 h4,mn,hz⟩
  ·have:t=pos:=by simpa [Zc] using ht
   rw [this];exact alM
  ·show ((lK++uj).toArray++No (fn.ntmps-(lK++uj).toArray.size) undef).size=c.n;rw [ag9,Array.size_replicate,htn,hn];omega
  ·show (aU ((q,Slot.box cs)::(fr++qJ))).Nodup;show (q::aU (fr++qJ)).Nodup;rw [alN];refine ac4.2 ⟨λhm=> ?_,List.nodup_range'⟩;rw [ahI] at hm;obtain ⟨i,hi,he⟩:=hm;have:fn.params.toList.length=fn.params.size:=by simp
   omega
  ·intro t;show cn Zc e w t _ (av ((q,Slot.box cs)::(fr++qJ)) t);rw [hgt];by_cases Xe:t=q
   ·rw [if_pos Xe,Xe];exact ⟨⟨λhp=>(by rw [Tr] at hp;cases hp),λ_=>⟨by rw [hpo];simp [Zc],by rw [hof]⟩⟩,⟨.inr hzb,⟨_,fG,rfl,tF⟩,qC⟩⟩
   ·rw [if_neg Xe];obtain ⟨g1,g2,g3⟩:=IV t;generalize av (fr++qJ) t=s at g1 g2 g3;cases s<;>first|exact g3|exact absurd rfl (g2 _)
  ·intro t;show dc _ (av ((q,Slot.box cs)::(fr++qJ)) t);rw [hgt];by_cases Xe:t=q
   ·rw [if_pos Xe];trivial
   ·rw [if_neg Xe];exact wY (IV t).1
  ·obtain ⟨I,cells,q1,q2,q3,q4,q5⟩:=(jK f o ho).1.row;exact ⟨I,cells,q1,q2,q3,q4,λb hb=>⟨.inr (q5 b hb).1,(q5 b hb).2.1,λhc=>by simp [Zc,bI.fz,bI.plain] at hc⟩⟩
  ·exact absurd ((QE t _ h1).trans (QE t' _ h2).symm) di
  ·exact (jK f o ho).2
 refine vC hG hD b ta hb ?_;intro n e' bZ a' w' h' t' hK;cases hle:af1 n 1 with
 |false=>simp [hle] at hK
 |true=>
  simp only [hle,cond_true] at hK;obtain ⟨e2,ef,ns,us,q1,q2,q3,q4,hK⟩:=Xd (P:=P) hG.ti h' hK;split at hK;rotate_left
  ·simp at hK
  rename_i qw Dt;cases PF:iW qw with
  |true=>simp [PF] at hK
  |false=>
  simp only [PF,cond_false] at hK;obtain ⟨outs,ps,ht,hK⟩:=IC hK;simp only [sh] at hK;have po:(results fn a'.tmps).run P w'= .ok (if h:us.toArray.size=1 then us.toArray[0] else .tuple us.toArray) w':=by
   have hm:(fn.results.mapM (jf a'.tmps)).run P w'= .ok us.toArray w':=by rw [Array.mapM_eq_mapM_toList];simp [q3]
   have PF:results fn a'.tmps=(do let vs<-fn.results.mapM (jf a'.tmps);pure (if h:vs.size=1 then vs[0] else .tuple vs)):=by unfold results;congr 1
   rw [PF];simp [hm]
  have alO:=q1.slot q;rw [Dt] at alO;obtain ⟨_,hT⟩:=alO.1.2 Tr;have hB:e2.B q=bt:=by have hT:Value.pointer (some ⟨bt,off,none⟩)= .pointer (some ⟨e2.B q,PN q,none⟩):=hT;simp only [aeO,sh,agI] at hT;exact hT.1.symm
  have alP:bJ ef.cI q=false:=by
   rw [q1.defers.2.1];cases hh:bJ Zc.cI q with
   |false=>rfl
   |true=>
    have:=(bL _ _).1 hh;have:q=pos:=by simpa [Zc] using this
    omega
  have hco:=(Qq q1 Dt PF jJ ht).wide (Og q1 Dt alP ht);have PH:e2.key=c.key:=q1.key;have Qy: ∃φ',Trans Z φ w φ' w'/\qy φ' w'/\vq c Z φ' w' (c.key f) (lK++uj) (if h:us.toArray.size=1 then us.toArray[0] else .tuple us.toArray) m:=by
   refine ⟨e2.φ,t'.trans q2.tr,q1.kP,?_⟩;rw [PH] at q4;subst hK;refine ⟨?_,pos,ks,bt,off,Hq,hvp,by rw [<-hB];exact hco⟩;by_cases WG: ∃m',ns=[m']
   ·obtain ⟨m',rfl⟩:=WG;obtain ⟨v,u,rfl,g1,g2⟩:=q4;have g2:u=[]:=g2;subst g2;simp only [acT,List.length_singleton,dite_true];cases m'<;>first|exact g1|exact absurd g1.1 (by simp [MV.one])
   ·have hm:akE ns= .eu ns:=by
     cases ns with
     |nil=>rfl
     |cons x l=>
      cases l with
      |nil=>exact absurd ⟨x,rfl⟩ WG
      |cons=>rfl
    have di:us.toArray.size≠1:=by intro h1;have:=q4.length;rw [acT] at h1;rw [h1] at this;obtain ⟨m1,h2⟩:=List.length_eq_one_iff.1 this.symm;exact WG ⟨m1,h2⟩
    rw [hm,dif_neg di];exact Lo.args (by simpa using q4)
  match n,hle with
  |0,_=>exact ⟨h'.defers.1,_,po,_,rfl,Qy⟩
  |1,_=>exact ⟨h'.defers.1,_,po,_,rfl,Qy⟩
  |n+2,hle=>simp [af1] at hle
end
end Dn
/-
  Operations whose order is open. Conditions: none.
-/
namespace Dn
open Go
section
variable {P:Program}{c:Ctx}{ops:Array Oper}{N:Act->World->Prop}
def tc (N:Act->World->Prop):Exit->Act->World->Prop
 | .normal,a,w=>N a w
 |_,_,_=>False
def sE (c:Ctx)(oi:Oper)(ops:Array Oper)(i:Nat):Bool:=match ops[i]? with|some o=>PX c o||wQ oi o|none=>true
def B4 (P:Program)(c:Ctx)(ops:Array Oper)(N:Act->World->Prop) (φ:Ph):Nat->Array Bool->Act->World->Prop
 |0,listed,a,w=>IT .any ops listed=[]/\N a w
 |fuel+1,listed,a,w=>(IT .any ops listed=[]->N a w)/\ ∀i∈IT .any ops listed,wpOp P ops (tc N) i (λa' w'=>((∀oi,sE c oi ops i=true->fK c oi w w')/\qy φ w')/\B4 P c ops N φ fuel (listed.setIfInBounds i true) a' w') a w
theorem Xf {φ φ':Ph}(hp:lS φ φ'): ∀(fuel:Nat) (listed:Array Bool) (a:Act) (w:World),B4 P c ops N φ' fuel listed a w->B4 P c ops N φ fuel listed a w:=by
 intro fuel;induction fuel with
 |zero=>intro listed a w h;exact h
 |succ fuel ih=>intro listed a w h;exact ⟨h.1,λi hi=>wpOp_mono (λa w h=>⟨⟨h.1.1,λb o v hv=>h.1.2 b o v (hp b o v hv)⟩,ih _ _ _ h.2⟩) (h.2 i hi)⟩
theorem QF {φ:Ph}: ∀(fuel:Nat) (listed:Array Bool) (a:Act) (w:World),B4 P c ops N φ fuel listed a w->wpAny P .any ops (tc N) fuel listed a w:=by
 intro fuel;induction fuel with
 |zero=>intro listed a w h;exact h
 |succ fuel ih=>intro listed a w h;exact ⟨h.1,λi hi=>wpOp_mono (λa w h=>ih _ _ _ h.2) (h.2 i hi)⟩
theorem Tx {oi oj p:Oper} {w w':World}(h1:wQ oi p=true)(h2:wQ oj p=true)(h:fK c oi w w'):fK c oj w w':=by
 unfold wQ at h1 h2;split at h1
 ·rename_i t t' g1 g2;split at h2
  ·rename_i u u' g3 g4;rw [g2] at g4;cases g4;have e1:=AI h1;have e2:=AI h2;subst e1;subst e2;simpa [fK,Tp,g1,g3] using h
  ·cases h2
 ·cases h1
theorem ahL {j:Nat}{oi oj:Oper}{v:Value}(hj:ops[j]? =some oj)(xV:oi.apart ops oj=true)(hsi: ∀cs b,oi.op≠ .select cs b)(hsj: ∀cs b,oj.op≠ .select cs b){K:Act->World->Prop}{a:Act}{w:World}(h:wpOp P ops (tc N) j K (a.put oi.dst v) w): wpOp P ops (tc N) j (λa' w'=>(execOp a'.eval oi=execOp a.eval oi/\aaK oi (yielded ops a'.tmps)=aaK oi (yielded ops a.tmps))/\K (a'.put oi.dst v) w') a w:=by
 obtain ⟨h1,h2,h3⟩:=aga xV;have keep: ∀(a:Act) (u:Value),execOp (a.put oj.dst u).eval oi=execOp a.eval oi/\aaK oi (yielded ops (a.put oj.dst u).tmps)=aaK oi (yielded ops a.tmps):=λa u=>⟨execOp_put oi hsi a oj.dst u h3,wanted_put oi a oj.dst u h3⟩
 unfold wpOp at *;simp only [hj] at *;rw [wanted_put oj a oi.dst v h1] at h;split
 ·rename_i hw;simp only [hw,if_true] at h;rcases h with h|⟨alQ,aaA⟩;case inr=>obtain ⟨_,_,hf⟩:=aaA;exact hf.elim
  refine .inl ?_;unfold ags at *;rw [execOp_put oj hsj a oi.dst v h1] at h;generalize (execOp a.eval oj).run P w=r at *;cases r with
  |ok n w'=>
   cases n<;>simp only [aeU] at h⊢;case value u=>exact ⟨keep a u,by rw [<-acE a v u h2];exact h⟩
   case skip=>exact ⟨keep a _,by rw [<-acE a v undef h2];exact h⟩
   case defer d=>refine ⟨keep _ _,?_⟩;rw [<-acE _ v undef h2,<-Act.put_defers];exact h
   case enter f args=>
    refine Calls.mono h λx Bp he=> ?_;cases x with
    |returned u=>exact ⟨keep a u,by rw [<-acE a v u h2];exact he⟩
    |panicked c=>exact he
    |outgrown=>exact he
   case row row args=>exact Rows.mono h λu Bp he=>⟨keep a u,by rw [<-acE a v u h2];exact he⟩
  |halt x w'=>cases x<;>simp only [aeU] at h⊢;case panic u=>exact h
 ·rename_i hw;simp only [hw] at h;exact ⟨keep a _,by rw [<-acE a v undef h2];exact h⟩
def Vm (P:Program)(c:Ctx)(ops:Array Oper) (φ:Ph)(o:Oper)(v:Value)(a:Act)(w:World):Prop:=(aaK o (yielded ops a.tmps)=true/\ ∀w',(mi c o=true->(still c o=false->fK c o w w')/\qy φ w')->(execOp a.eval o).run P w'= .ok (.value v) w')\/ (aaK o (yielded ops a.tmps)=false/\v=undef)
theorem CZ {φ:Ph}{i:Nat}{oi:Oper}{v:Value}{D:List Nat}(hD: ∀j oj,j∈D->j≠i->ops[j]? =some oj-> ∃e∈oj.after,adx .any e=true/\e.on∈D)(hi:ops[i]? =some oi)(Lw: ∀(j:Nat)(o:Oper) cs b,ops[j]? =some o->o.op≠ .select cs b): ∀(fuel:Nat) (listed:Array Bool) (a:Act) (w:World),(∀j oj,ops[j]? =some oj->j∉D->j≠i->listed.getD j true=false->oi.apart ops oj=true/\(mi c oi=true->still c oi=false->sE c oi ops j=true))->(∀d∈D,listed.getD d false=false)-> i∈IT .any ops listed->Vm P c ops φ oi v a w->qy φ w-> B4 P c ops N φ fuel (listed.setIfInBounds i true) (a.put oi.dst v) w->B4 P c ops N φ (fuel+1) listed a w:=by
 have self: ∀(fuel:Nat) (listed:Array Bool) (a:Act) (w:World),Vm P c ops φ oi v a w->qy φ w->B4 P c ops N φ fuel (listed.setIfInBounds i true) (a.put oi.dst v) w-> wpOp P ops (tc N) i (λa' w'=>((∀oi,sE c oi ops i=true->fK c oi w w')/\qy φ w')/\B4 P c ops N φ fuel (listed.setIfInBounds i true) a' w') a w:=by
  intro fuel listed a w hy hm H;unfold wpOp;simp only [hi];rcases hy with ⟨hw,hv⟩|⟨hw,rfl⟩
  ·simp only [hw,if_true,ags,hv w (λ_=>⟨λ_=>(dN.refl w).for,hm⟩),aeU];exact .inl ⟨⟨λ_ _=>(dN.refl w).for,hm⟩,H⟩
  ·simp only [hw,OF,if_false];exact ⟨⟨λ_ _=>(dN.refl w).for,hm⟩,H⟩
 intro fuel;induction fuel with
 |zero=>
  intro listed a w _ _ hr hy hm H;refine ⟨λh=>(by rw [h] at hr;cases hr),λj hj=> ?_⟩;by_cases vF:j=i
  ·subst vF;exact self 0 listed a w hy hm H
  ·have:=ready_mono hj vF;rw [H.1] at this;cases this
 |succ fuel ih=>
  intro listed a w qC aaB hr hy hm H;refine ⟨λh=>(by rw [h] at hr;cases hr),λj hj=> ?_⟩;by_cases vF:j=i
  ·subst vF;exact self (fuel+1) listed a w hy hm H
  ·have h1:=H.2 j (ready_mono hj vF);obtain ⟨Xg,oj,YG,ku⟩:=mem_ready.1 hj;have hjD:j∉D:=by intro hjd;obtain ⟨e,he,hb,uX⟩:=hD j oj hjd vF YG;have h1:=ku e he hb;rw [aaB e.on uX] at h1;cases h1
   obtain ⟨xV,PG⟩:=qC j oj YG hjD vF Xg;have h2:=ahL YG xV (λcs b=>Lw i oi cs b hi) (λcs b=>Lw j oj cs b YG) h1;have alR: ∀d∈D,(listed.setIfInBounds j true).getD d false=false:=by intro d hd;rw [getD_set_ne false (λhe=>hjD (by rw [he];exact hd))];exact aaB d hd
   have ahM: ∀k ok,ops[k]? =some ok->k∉D->k≠i->(listed.setIfInBounds j true).getD k true=false->oi.apart ops ok=true/\(mi c oi=true->still c oi=false->sE c oi ops k=true):=λk ok hk hkD hki WQ=>by
    refine qC k ok hk hkD hki ?_;by_cases hjk:j=k
    ·subst hjk;exact Xg
    ·rw [getD_set_ne true hjk] at WQ;exact WQ
   refine wpOp_mono (λa' w' h3=>⟨h3.2.1,ih (listed.setIfInBounds j true) a' w' ahM alR (ready_mono hr (aio vF)) ?_ h3.2.1.2 ?_⟩) h2
   ·obtain ⟨⟨he,hwn⟩,⟨hg,_⟩,_⟩:=h3;rcases hy with ⟨hw,hv⟩|⟨hw,rfl⟩
    ·refine .inl ⟨by rw [hwn];exact hw,λBp hg2=> ?_⟩;rw [he];exact hv Bp (λhl=>⟨λhs=>(hg oi (PG hl hs)).trans ((hg2 hl).1 hs),(hg2 hl).2⟩)
    ·exact .inr ⟨by rw [hwn];exact hw,rfl⟩
   ·rw [afP _ _ vF];exact h3.2.2
variable {Z:bI}{R:Type}{K:St->Option R}{r:R}
theorem Xh (op:Op):SJ op=op.operands.toList:=by
 cases op<;>first|rfl|simp [SJ,Op.operands,Call.operands]
 all_goals first|rfl|(rename_i c;cases c.callee<;>simp)
theorem aaC (l:List Operand):PW l=l.filterMap λ| .tmp t=>some t|_=>none:=by
 induction l with
 |nil=>rfl
 |cons x l ih=>cases x<;>simp [PW,ih]
theorem MB (o:Oper):NM ops.toList o=o.looksAt ops:=by
 unfold NM Oper.looksAt;rw [Xh,aaC];congr 1;cases o.guard with
 |none=>rfl
 |some g=>obtain ⟨g,wnt⟩:=g;simp only [Array.getElem?_toList];cases ops[g]? <;>rfl
theorem BA {x y:Oper}(h:H5 ops.toList x y=true):x.apart ops y=true:=by
 unfold H5 at h;unfold Oper.apart;rw [MB,MB] at h;have hn: ∀(l:List Nat) (d:Nat),bJ l d=l.contains d:=by intro l d;have:=bL l d;cases h1:bJ l d<;>cases h2:l.contains d<;>simp_all
 cases hx:x.dst<;>cases hy:y.dst<;>simp_all [bne,eO]
theorem qO (e:Edge):CO e=adx .any e:=by unfold CO adx;cases e.ground<;>rfl
structure YH (ops:Array Oper) (listed:Array Bool) (pre:List Nat):Prop where
 size:listed.size=ops.size
 mem: ∀i,i<ops.size->(listed.getD i true=true↔i∈pre)
theorem YH.set {listed:Array Bool}{pre:List Nat}{x:Nat}(h:YH ops listed pre)(hx:x<ops.size):YH ops (listed.setIfInBounds x true) (x::pre):=by
 refine ⟨by simpa using h.size,λi hi=> ?_⟩;by_cases MC:x=i
 ·subst MC;have:x<listed.size:=by rw [h.size];exact hx
  simp [this]
 ·rw [getD_set_ne true MC,h.mem i hi];simp only [AT];exact ⟨.inr,λhh=>hh.resolve_left (λhe=>MC he.symm)⟩
theorem YH.rV {listed:Array Bool}{pre:List Nat}{i:Nat}(h:YH ops listed pre)(hi:i<ops.size):listed.getD i true=false↔i∉pre:=by rw [<-h.mem i hi];cases listed.getD i true<;>simp
theorem YH.done {listed:Array Bool}{pre:List Nat}{i:Nat}(h:YH ops listed pre)(hi:i<ops.size):listed.getD i false=true↔i∈pre:=by
 rw [<-h.mem i hi];have hl:i<listed.size:=by rw [h.size];exact hi
 simp [hl]
theorem pE: ∀(rest pre:List Nat),rO c ops.toList pre rest=true-> ∀z∈rest,z∉pre:=by
 intro rest;induction rest with
 |nil=>intro pre _ z hz;cases hz
 |cons y rest ihr=>
  intro pre hd z hz;simp only [rO] at hd;cases hy:ops.toList[y]? with
  |none=>simp [hy] at hd
  |some oy=>
   simp only [hy,cV,aau] at hd;rcases AT.1 hz with rfl|hz
   ·rw [<-bL,hd.1.1.1.2];simp
   ·exact λhzp=>ihr (y::pre) hd.2 z hz (by simp [hzp])
theorem Cm {o:Oper}{x:Nat}: ∀(rest D0:List Nat),rN c ops.toList o D0 rest=true->(∀y,y∈D0->y≠x-> ∃p,ops[y]? =some p/\ ∃e∈p.after,adx .any e=true/\e.on∈D0)-> ∃D:List Nat,(∀y∈D0,y∈D)/\(∀y∈D,y∈D0\/y∈rest)/\(∀j oj,j∈D->j≠x->ops[j]? =some oj-> ∃e∈oj.after,adx .any e=true/\e.on∈D)/\ (∀y∈rest,y∉D-> ∃p,ops[y]? =some p/\o.apart ops p=true/\(mi c o=true->still c o=false->(PX c p||wQ o p)=true)):=by
 intro rest;induction rest with
 |nil=>intro D0 _ h0;refine ⟨D0,λy hy=>hy,λy hy=> .inl hy,λj oj hj di ho=> ?_,λy hy=>by cases hy⟩;obtain ⟨p,hp,he⟩:=h0 j hj di;rw [ho] at hp;cases hp;exact he
 |cons y rest ih=>
  intro D0 h h0;simp only [rN] at h;cases hy:ops.toList[y]? with
  |none=>simp [hy] at h
  |some p=>
   simp only [hy] at h;have hy':ops[y]? =some p:=by simpa using hy
   cases he:xM p (bJ D0) with
   |true=>
    simp only [he,cond_true] at h;obtain ⟨D,D1,D2,D3,D4⟩:=ih (y::D0) h (by
     intro z hz di;rcases AT.1 hz with rfl|hz
     ·unfold xM at he;obtain ⟨ed,Xi,hb⟩:=aef.1 he;simp only [cV,qO] at hb;exact ⟨p,hy',ed,by simpa using Xi,hb.1,by simp [(bL _ _).1 hb.2]⟩
     ·obtain ⟨q,hq,ed,h1,h2,h3⟩:=h0 z hz di;exact ⟨q,hq,ed,h1,h2,by simp [h3]⟩)
    refine ⟨D,λz hz=>D1 z (by simp [hz]),λz hz=> ?_,D3,λz hz hzD=> ?_⟩
    ·rcases D2 z hz with h1|h1
     ·rcases AT.1 h1 with h1|h1
      ·exact .inr (by simp [h1])
      ·exact .inl h1
     ·exact .inr (by simp [h1])
    ·rcases AT.1 hz with rfl|hz
     ·exact absurd (D1 z (by simp)) hzD
     ·exact D4 z hz hzD
   |false=>
    simp only [he,cond_false,cV,aeN,aau] at h;obtain ⟨⟨h1,h2⟩,h3⟩:=h;obtain ⟨D,D1,D2,D3,D4⟩:=ih D0 h3 h0;refine ⟨D,D1,λz hz=>(D2 z hz).imp id (λh=>by simp [h]),D3,λz hz hzD=> ?_⟩;rcases AT.1 hz with rfl|hz
    ·refine ⟨p,hy',BA h1,λhl hs=> ?_⟩;rcases h2 with ((h2|h2)|h2)|h2
     ·rw [hl] at h2;cases h2
     ·simp [h2]
     ·rw [hs] at h2;cases h2
     ·simp [h2]
    ·exact D4 z hz hzD
def bI.outs (Z:bI)(bs:List Nat):bI:={Z with In:=λb=>Z.In b/\b∉bs,Pr:=λb=>Z.Pr b/\b∉bs}
theorem b9.GA {Z Z':bI}{e:Env}{st:St}{a:Act}{w:World}(h:b9 c Z e st a w)(hI: ∀b,Z.In b->Z'.In b)(hP: ∀b,Z.Pr b->Z'.Pr b)(h1:Z'.cI=Z.cI)(h2:Z'.db=Z.db)(h3:Z'.T=Z.T)(h4:Z'.cov=Z.cov):b9 c Z' e st a w:=by
 refine ⟨by rw [h1,h2,h3];exact h.defers,h.size,h.m,h.key,h.nodup,λt=> ?_,h.root,λf o ho=> ?_,h.bb,h.bf,h.ff,h.kP,λb hb=>hI b (h.cS b hb)⟩
 ·have hs:=h.slot t;generalize av st.fr t=s at hs;cases s<;>simp only [cn] at hs⊢ <;>first|exact hs|skip
  exact ⟨⟨hs.1.1,λhp=>by rw [h1,h3];exact hs.1.2 hp⟩,⟨by rcases hs.2.cS with ⟨x,y⟩|x;exact .inl ⟨by rw [h1];exact x,hP _ y⟩;exact .inr (hI _ x),hs.2.obj,hs.2.free⟩⟩
 ·obtain ⟨I,cells,g1,g2,g3,g4,g5⟩:=(h.iC f o ho).row;refine ⟨I,cells,g1,g2,g3,g4,λbt hb=> ?_⟩;obtain ⟨k1,k2,k3⟩:=g5 bt hb;refine ⟨?_,k2,λhc hz j hj=>k3 (by have hc:f∈Z'.db:=hc;rw [h2] at hc;exact hc) hz j hj⟩;rcases k1 with ⟨x,y⟩|x
  ·exact .inl ⟨by rw [h2];exact x,hP _ y⟩
  ·exact .inr (hI _ x)
theorem b9.narrow {e:Env}{st:St}{a:Act} {w w':World}{bs:List Nat}(h:b9 c (Z.outs bs) e st a w)(g:dN w w')(hs:w.heap.size<w'.heap.size):b9 c (Z.outs (w.heap.size::bs)) e st a w':=by
 have h':=h.grow g;have qB: ∀b,b<w.heap.size->(Z.outs bs).In b->(Z.outs (w.heap.size::bs)).In b:=λb hb hi=>⟨hi.1,by simp only [AT,not_or];exact ⟨by omega,hi.2⟩⟩
 have S5: ∀b,b<w.heap.size->(Z.outs bs).Pr b->(Z.outs (w.heap.size::bs)).Pr b:=λb hb hi=>⟨hi.1,by simp only [AT,not_or];exact ⟨by omega,hi.2⟩⟩
 refine ⟨h'.defers,h'.size,h'.m,h'.key,h'.nodup,λt=> ?_,h'.root,λf o ho=> ?_,h'.bb,h'.bf,h'.ff,h'.kP,λb hb=> ?_⟩
 ·have hs:=h.slot t;have zb:=h'.slot t;generalize av st.fr t=s at hs zb;cases s<;>simp only [cn] at hs zb⊢ <;>first|exact zb|skip
  obtain ⟨o2,k1,_⟩:=hs.2.obj;have hl:=aZ k1;exact ⟨zb.1,⟨by rcases zb.2.cS with ⟨x,y⟩|x;exact .inl ⟨x,S5 _ hl y⟩;exact .inr (qB _ hl x),zb.2.obj,zb.2.free⟩⟩
 ·obtain ⟨I,cells,g1,g2,g3,g4,g5⟩:=(h'.iC f o ho).row;refine ⟨I,cells,g1,g2,g3,g4,λbt hb=> ?_⟩;obtain ⟨k1,k2,k3⟩:=g5 bt hb;refine ⟨?_,k2,k3⟩;have hl:bt<w.heap.size:=by
   obtain ⟨I',NX,l1,l2,l3,l4,l5⟩:=(h.iC f o ho).row;rcases l3.2 with ⟨hv,_⟩|⟨gg,cap,fI,hv,_,hg,_⟩
   ·rw [hv] at hb;simp [ada] at hb
   ·rw [hv] at hb;simp only [ada,sh] at hb;have:=aZ hg;omega
  rcases k1 with ⟨x,y⟩|x
  ·exact .inl ⟨x,S5 _ hl y⟩
  ·exact .inr (qB _ hl x)
 ·refine ⟨(h.cS b (by omega)).1,?_⟩;simp only [AT,not_or];exact ⟨by omega,(h.cS b (by omega)).2⟩
def vOf (b:Nat):Value:= .pointer (some ⟨b,0,none⟩)
def xb (ops:Array Oper)(i:Nat):Option Nat:=match ops[i]? with
 |some o=>o.dst
 |none=>none
def wm (ops:Array Oper):List (Nat×Nat)->Act->Act
 |[],a=>a
 |p::r,a=>(wm ops r a).put (xb ops p.1) (vOf p.2)
structure ad2 (c:Ctx) (Z:bI) (ops:Array Oper) (e:Env) (w:World) (p:Nat×Nat):Prop where
 row: ∃o t I d arr T,ops[p.1]? =some o/\DC o=true/\o.op= .alloc t/\c.tv t=some I/\o.dst=some d/\w.heap[p.2]? =some (.cells arr T (0,0))/\ ∀e':Env,ay e' arr.toList I.zero
 free: ∀off,e.φ p.2 off=none
 cS:Z.In p.2
theorem BB {o:Oper}(h:DC o=true): ∃t d,o.op= .alloc t/\o.dst=some d/\o.guard=none/\ ∀e∈o.after,adx .any e=false:=by
 unfold DC at h;split at h
 ·rename_i t d h1 h2 h3;refine ⟨t,d,h1,h2,h3,λe he=> ?_⟩;have:=aaP.1 h e (by simpa using he);simpa [qO] using this
 ·cases h
theorem Ty {t:TypeId}{I:TI}(hI:c.tv t=some I)(hT:kq P c.ti): ∃i z,P.info? t=some i/\i.zero=some z/\ ∀e:Env,ay e z.cells.toList I.zero:=by
 obtain ⟨nV,hc⟩:=bG hI;obtain ⟨d,i,h1,h2,h3,h4⟩:=hT t I nV;suffices hz: ∃z,i.zero=some z/\ ∀e:Env,ay e z.cells.toList I.zero by obtain ⟨z,h5,h6⟩:=hz;exact ⟨i,z,h2,h5,h6⟩
 cases d<;>simp only [wS] at h4;case struct fs=>obtain ⟨_,_,_,_,_,_,cs,hz,hl,_⟩:=h4;exact ⟨_,hz,λe=>by simpa [aek] using mG hl⟩
 case tuple ts=>exact absurd hc h4.2.1
 case slice el=>obtain ⟨_,_,_,_,_,hz,hl,_⟩:=h4;exact ⟨_,hz,λe=>by rw [hl];exact ⟨[.slice none 0 0],[],rfl,rfl,rfl⟩⟩
 case array n el=>obtain ⟨_,_,_,_,_,_,_,hl,hz⟩:=h4;exact ⟨_,hz,λe=>by rw [hl];exact ⟨cc pk.zero,[],by simp [aek],rfl,rfl⟩⟩
 case bool=>obtain ⟨_,_,_,_,hl,hz⟩:=h4;exact ⟨_,hz,λe=>by rw [hl];exact ⟨[.bool false],[],rfl,⟨rfl,.b _⟩,rfl⟩⟩
 case int k=>obtain ⟨_,_,_,_,hl,hz⟩:=h4;exact ⟨_,hz,λe=>by rw [hl];exact ⟨[.int k 0],[],rfl,⟨rfl,.i _ _⟩,rfl⟩⟩
 case string=>obtain ⟨_,_,_,_,hl,b,hz,hb⟩:=h4;refine ⟨_,hz,λe=>by rw [hl];refine ⟨[.string b],[],rfl,⟨rfl,?_⟩,rfl⟩;rw [<-hb];exact .s b⟩
 all_goals
  obtain ⟨_,_,_,_,v,hz,hv,hl⟩:=h4;refine ⟨v,hz,λe=> ?_⟩;have:v.cells.toList=[v]:=by cases v<;>simp_all [aek,ahW]
  rw [this];exact mG hl
theorem GB {o:Oper}(hs: ∀cs b,o.op≠ .select cs b)(a:Act): ∀(pd:List (Nat×Nat)),(∀p∈pd,∀d,xb ops p.1=some d->d∉o.looksAt ops)-> execOp (wm ops pd a).eval o=execOp a.eval o/\aaK o (yielded ops (wm ops pd a).tmps)=aaK o (yielded ops a.tmps)
 |[],_=>⟨rfl,rfl⟩
 |p::r,h=>by obtain ⟨h1,h2⟩:=GB hs a r (λq hq=>h q (by simp [hq]));have hp:=h p (by simp);exact ⟨(execOp_put o hs _ _ _ hp).trans h1,(wanted_put o _ _ _ hp).trans h2⟩
theorem DT (a:Act)(y:Option Nat)(v:Value): ∀(pd:List (Nat×Nat)),(∀p∈pd,∀d,xb ops p.1=some d->y≠some d)->(wm ops pd a).put y v=wm ops pd (a.put y v)
 |[],_=>rfl
 |p::r,h=>by simp only [wm];rw [acE _ _ _ (λd hd=>h p (by simp) d hd),DT a y v r (λq hq=>h q (by simp [hq]))]
theorem ad3 {j:Nat}{oj:Oper}{x:Option Nat}{v:Value}(hj:ops[j]? =some oj)(h1: ∀d,x=some d->d∉oj.looksAt ops)(h2: ∀d,x=some d->oj.dst≠some d)(hsj: ∀cs b,oj.op≠ .select cs b){K:Act->World->Prop}{a:Act}{w:World}(h:wpOp P ops (tc N) j K a w): wpOp P ops (tc N) j (λa' w'=> ∃a'',a'=a''.put x v/\K a'' w') (a.put x v) w:=by
 unfold wpOp at *;simp only [hj] at *;rw [wanted_put oj a x v h1];split
 ·rename_i hw;simp only [hw,if_true] at h;rcases h with h|⟨alQ,aaA⟩;case inr=>obtain ⟨_,_,hf⟩:=aaA;exact hf.elim
  refine .inl ?_;unfold ags at *;rw [execOp_put oj hsj a x v h1];generalize (execOp a.eval oj).run P w=r at *;cases r with
  |ok n w'=>
   cases n<;>simp only [aeU] at h⊢;case value u=>exact ⟨_,acE a v u h2,h⟩
   case skip=>exact ⟨_,acE a v undef h2,h⟩
   case defer d=>refine ⟨{a.put oj.dst undef with defers:=d::(a.put oj.dst undef).defers},?_,by simpa [Act.put_defers] using h⟩;have:=acE a v undef h2;cases x<;>cases hd:oj.dst<;>simp_all [Act.put]
   case enter f args=>
    refine Calls.mono h λy Bp he=> ?_;cases y with
    |returned u=>exact ⟨_,acE a v u h2,he⟩
    |panicked c=>exact he
    |outgrown=>exact he
   case row row args=>exact Rows.mono h λu Bp he=>⟨_,acE a v u h2,he⟩
  |halt y w'=>cases y<;>simp only [aeU] at h⊢;case panic u=>exact h
 ·rename_i hw;simp only [hw] at h;exact ⟨_,acE a v undef h2,h⟩
theorem Vn {j:Nat}{oj:Oper}(hj:ops[j]? =some oj)(hsj: ∀cs b,oj.op≠ .select cs b){K:Act->World->Prop}{a:Act}{w:World}(h:wpOp P ops (tc N) j K a w): ∀(pd:List (Nat×Nat)),(∀p∈pd,∀d,xb ops p.1=some d->d∉oj.looksAt ops/\oj.dst≠some d)->wpOp P ops (tc N) j (λa' w'=> ∃a'',a'=wm ops pd a''/\K a'' w') (wm ops pd a) w
 |[],_=>wpOp_mono (λa' w' hk=>⟨a',rfl,hk⟩) h
 |p::r,hp=>by have h1:=Vn hj hsj h r (λq hq=>hp q (by simp [hq]));have h2:=ad3 (v:=vOf p.2) hj (λd hd=>(hp p (by simp) d hd).1) (λd hd=>(hp p (by simp) d hd).2) hsj h1;refine wpOp_mono ?_ h2;rintro a' w' ⟨a1,rfl,a2,rfl,hk⟩;exact ⟨a2,rfl,hk⟩
theorem o8: ∀{l m:List Nat},l.Nodup->(∀x∈l,x∈m)->l.length<=m.length
 |[],m,_,_=>aer _
 |x::l,m,hn,hs=>by have hn:=ac4.1 hn;have h1:l.length<=(m.erase x).length:=o8 hn.2 λy hy=>(List.mem_erase_of_ne (λhe=>hn.1 (by rw [<-he];exact hy))).2 (hs y (by simp [hy]));have h2:=List.length_erase_of_mem (hs x (by simp));have h3:0<m.length:=List.length_pos_of_mem (hs x (by simp));simp only [abE];omega
theorem QG {x b:Nat}{o:Oper}(hdo:xb ops x=o.dst)(a:Act)(pr:List (Nat×Nat)): ∀(pl:List (Nat×Nat)),(∀p∈pl++pr,∀dd,xb ops p.1=some dd->o.dst≠some dd)->wm ops (pl++(x,b)::pr) a=wm ops (pl++pr) (a.put o.dst (vOf b))
 |[],h=>by simp only [adY,wm,hdo];exact DT a o.dst (vOf b) pr (λp hp=>h p (by simp [hp]))
 |q::pl,h=>by simp only [ac8,wm];rw [QG hdo a pr pl (λp hp=>h p (by simp only [ac8,AT];exact .inr hp))]
theorem YH.congr {listed:Array Bool} {l l':List Nat}(h:YH ops listed l)(he: ∀i,i∈l↔i∈l'):YH ops listed l':=⟨h.size,λi hi=>by rw [h.mem i hi,he]⟩
theorem QH {o:Oper}: ∀(rest D:List Nat),rN c ops.toList o D rest=true-> ∀y∈rest,∀p,ops[y]? =some p->DC p=true->o.apart ops p=true:=by
 intro rest;induction rest with
 |nil=>intro D _ y hy;cases hy
 |cons z rest ih=>
  intro D h y hy p hp E3;simp only [rN] at h;cases hz:ops.toList[z]? with
  |none=>simp [hz] at h
  |some q=>
   simp only [hz] at h;cases he:xM q (bJ D) with
   |true=>
    simp only [he,cond_true] at h;rcases AT.1 hy with rfl|hy
    ·exfalso;have hz':ops[y]? =some q:=by simpa using hz
     rw [hz'] at hp;cases hp;obtain ⟨_,_,_,_,_,di⟩:=BB E3;unfold xM at he;obtain ⟨ed,Xi,hb⟩:=aef.1 he;simp only [cV,qO] at hb;rw [di ed (by simpa using Xi)] at hb;exact absurd hb.1 (by simp)
    ·exact ih _ h y hy p hp E3
   |false=>
    simp only [he,cond_false,cV] at h;rcases AT.1 hy with rfl|hy
    ·have hz':ops[y]? =some q:=by simpa using hz
     rw [hz'] at hp;cases hp;exact BA h.1.1
    ·exact ih _ h.2 y hy p hp E3
theorem I7 {o p:Oper}{y:Nat}(hp:ops[y]? =some p)(h:p.apart ops o=true\/o.apart ops p=true): ∀d,xb ops y=some d->d∉o.looksAt ops/\o.dst≠some d:=by
 intro d hd;have hd:p.dst=some d:=by simpa [xb,hp] using hd
 rcases h with h|h
 ·obtain ⟨h1,h2,h3⟩:=aga h;exact ⟨h1 d hd,h2 d hd⟩
 ·obtain ⟨h1,h2,h3⟩:=aga h;exact ⟨h3 d hd,λhe=>h2 d he hd⟩
theorem ad2.later {Z:bI}{bs:List Nat} {e e':Env} {w w':World}{p:Nat×Nat}(h:ad2 c Z ops e w p)(hb:p.2∈bs)(t:Trans (Z.outs bs).In e.φ w e'.φ w'):ad2 c Z ops e' w' p:=by obtain ⟨o,ty,I,d,arr,T,h1,h2,h3,h4,h5,h6,h7⟩:=h.row;have hn: ¬(Z.outs bs).In p.2:=λhh=>hh.2 hb;exact ⟨⟨o,ty,I,d,arr,T,h1,h2,h3,h4,h5,by rw [t.heap _ hn (aZ h6)];exact h6,h7⟩,λoff=>by rw [t.free _ off hn];exact h.free off,h.cS⟩
theorem Trans.wide {Z Z':Nat->Prop} {φ φ':Ph} {w w':World}(t:Trans Z φ w φ' w')(h: ∀b,Z b->Z' b):Trans Z' φ w φ' w':=⟨t.ph,λb hb hl=>t.heap b (λhz=>hb (h b hz)) hl,λb o hb=>t.free b o (λhz=>hb (h b hz)),t.size,t.rest⟩
theorem ad4 (hG:Good P c)(Lw: ∀(j:Nat)(o:Oper) cs b,ops[j]? =some o->o.op≠ .select cs b) {φ0:Ph}{w0:World}(hN: ∀a' w',Out c Z K r φ0 w0 a' w'->N a' w'): ∀(m:Nat) (rest pre:List Nat) (pd:List (Nat×Nat)) (l:List Oper) (listed:Array Bool) (e:Env) (st:St) (a:Act) (w:World),2 *rest.length-pd.length<=m->b9 c (Z.outs (pd.map (·.2))) e st a w->CJ c ops.toList l st K=some r->Trans Z.In φ0 w0 e.φ w->rh ops.toList rest=some l-> rO c ops.toList pre rest=true->YH ops listed (pd.map (·.1)++pre)->(∀i,i<ops.size->i∈pre\/i∈rest)->(∀i∈pre,i<ops.size)->(∀p∈pd,p.1∈rest)->(pd.map (·.1)).Nodup->(pd.map (·.2)).Nodup->(∀p∈pd,ad2 c Z ops e w p)-> pd.length<=rest.length->B4 P c ops N e.φ (rest.length-pd.length) listed (wm ops pd a) w:=by
 intro m;induction m with
 |zero=>
  intro rest pre pd l listed e st a w hm h hK ht hp hd hL ku aaD S5 Sr Lk YA hle;cases rest with
  |cons x rest=>simp only [abE] at hm hle;omega
  |nil=>
   cases pd with
   |cons p pd=>simp at hle
   |nil=>
    cases hp;have h':b9 c Z e st a w:=h.GA (λb hb=>hb.1) (λb hb=>hb.1) rfl rfl rfl rfl;refine ⟨?_,hN a w ⟨e,st,h',ht,hK⟩⟩;cases hr:IT .any ops listed with
    |nil=>rfl
    |cons i is=>
     have hi:i∈IT .any ops listed:=by rw [hr];simp
     obtain ⟨h1,o,ho,_⟩:=mem_ready.1 hi;have cJ:i<ops.size:=(aaU.1 ho).1;exact absurd (by simpa using (ku i cJ).resolve_right (by simp)) ((hL.rV cJ).1 h1)
 |succ m ihm=>
  intro rest pre pd l listed e st a w hm h hK ht hp hd hL ku aaD S5 Sr Lk YA hle;cases rest with
  |nil=>
   cases pd with
   |cons p pd=>simp at hle
   |nil=>exact ihm [] pre [] l listed e st a w (by simp) h hK ht hp hd hL ku aaD S5 Sr Lk YA hle
  |cons x rest=>
   simp only [rh] at hp;cases hox:ops.toList[x]? with
   |none=>simp [hox] at hp
   |some o=>
    cases hpk:rh ops.toList rest with
    |none=>simp [hox,hpk] at hp
    |some l'=>
     simp only [hox,hpk,sh] at hp;subst hp;have hx:ops[x]? =some o:=by simpa using hox
     have Tz:x<ops.size:=(aaU.1 hx).1;have hd0:=hd;simp only [rO,hox] at hd;simp only [cV,aau] at hd;obtain ⟨⟨⟨⟨d1,d2⟩,d3⟩,d4⟩,d5⟩:=hd;have DU:x∉pre:=by rw [<-bL,d2];simp
     have Ox:x∉rest:=by rw [<-bL,d3];simp
     have Vo: ∀i,i<ops.size->i∈x::pre\/i∈rest:=by
      intro i hi;rcases ku i hi with h1|h1
      ·exact .inl (by simp [h1])
      ·rcases AT.1 h1 with h1|h1
       ·exact .inl (by simp [h1])
       ·exact .inr h1
     have agh: ∀i∈x::pre,i<ops.size:=by
      intro i hi;rcases AT.1 hi with rfl|hi
      ·exact Tz
      ·exact aaD i hi
     have ahP:=hK;simp only [CJ] at hK;have aaE: ∀p∈pd,∃q,ops[p.1]? =some q/\DC q=true:=λp hp=>by obtain ⟨q,_,_,_,_,_,h1,h2,_⟩:=(YA p hp).row;exact ⟨q,h1,h2⟩
     unfold UZ at hK;obtain ⟨bZ,go,h',hK,hw⟩:=Qt h hK;have agi: ∀cs b,o.op≠ .select cs b:=λcs b=>Lw x o cs b hx;by_cases hxp:x∈pd.map (·.1)
     ·
      obtain ⟨⟨x',b⟩,hpx,hxe⟩:=acN.1 hxp;have hxe:x'=x:=hxe;subst hxe;obtain ⟨o',t,I,d,arr,T,k1,k2,k3,k4,k5,k6,k7⟩:=(YA _ hpx).row;rw [hx] at k1;cases k1;obtain ⟨_,_,_,_,hgn,di⟩:=BB k2;have YI:go=true:=by rw [<-hw];simp [aaK,hgn]
      subst YI;have NS:(kE o&&!jC c o)=false:=by simp [kE,k3]
      simp only [NS,cond_false] at d4;obtain ⟨pl,pr,rfl⟩:=List.append_of_mem hpx;have hbn:b∉(pl++pr).map (·.2):=by have:((pl++(x',b)::pr).map (·.2)).Nodup:=Lk;simp only [ad1,afN,aha,ac4,AT] at this;simp only [ad1,acU,not_or];exact ⟨λhm=>this.2.2 b hm b (by simp) rfl,this.2.1.1⟩
      have hxn:x'∉(pl++pr).map (·.1):=by have:((pl++(x',b)::pr).map (·.1)).Nodup:=Sr;simp only [ad1,afN,aha,ac4,AT] at this;simp only [ad1,acU,not_or];exact ⟨λhm=>this.2.2 x' hm x' (by simp) rfl,this.2.1.1⟩
      have QI: ∀p∈pl++pr,p∈pl++(x',b)::pr:=λp hp=>by
       simp only [acU,AT] at hp⊢;rcases hp with hp|hp
       ·exact .inl hp
       ·exact .inr (.inr hp)
      have ta:b9 c (Z.outs ((pl++pr).map (·.2))) e bZ a w:=by
       refine h'.GA (λu hu=>⟨hu.1,λhm=>hu.2 ?_⟩) (λu hu=>⟨hu.1,λhm=>hu.2 ?_⟩) rfl rfl rfl rfl<;>
       ·obtain ⟨p,hp,rfl⟩:=acN.1 hm;exact acN.2 ⟨p,QI p hp,rfl⟩
      have ad5:b∈(pl++(x',b)::pr).map (·.2):=by simp
      have wh:qK (Z.outs ((pl++pr).map (·.2))) e w bZ (vOf b) (.box I.zero):=by
       refine ⟨b,by rw [ue (k7 e).Ce];rfl,⟨⟨(YA _ hpx).cS,hbn⟩,⟨_,k6,rfl,k7 e⟩,(YA _ hpx).free⟩,λt' kR DG uf=> ?_,λf o' Li uf=> ?_⟩
       ·have hs:=h'.slot t';rw [DG] at hs;rcases hs.2.cS with ⟨_,u⟩|u
        ·exact u.2 (by rw [uf];exact ad5)
        ·exact u.2 (by rw [uf];exact ad5)
       ·obtain ⟨I',cells,g1,g2,g3,g4,g5⟩:=(h'.iC f o' Li).row;rcases (g5 b uf).1 with ⟨_,u⟩|u
        ·exact u.2 ad5
        ·exact u.2 ad5
      simp only [cond_true,opK,k3,k4] at hK;obtain ⟨e2,ef,j1,j2,j3⟩:=dz ta wh hK;have TA:wm ops (pl++(x',b)::pr) a=wm ops (pl++pr) (a.put o.dst (vOf b)):=by
       have xV: ∀p∈pl++pr,∀dd,xb ops p.1=some dd->o.dst≠some dd:=by
        intro p hp dd hdd;obtain ⟨q,hq,E3⟩:=aaE p (QI p hp);have TB:p.1∈rest:=by
         rcases AT.1 (S5 p (QI p hp)) with he|he
         ·exact absurd (acN.2 ⟨p,hp,he⟩) hxn
         ·exact he
        have:=aaP.1 d4 p.1 TB;have hq':ops.toList[p.1]? =some q:=by simpa using hq
        simp only [hq',E3,cond_true,cV] at this;exact (I7 hq (.inl (BA this.1)) dd hdd).2
       exact QG (by simp [xb,hx]) a pr pl xV
      rw [TA,<-j3];have hlen:(x'::rest).length-(pl++(x',b)::pr).length=rest.length-(pl++pr).length:=by simp only [abE,aaJ];omega
      rw [hlen];refine ihm rest (x'::pre) (pl++pr) l' listed e2 ef _ w ?_ j1 j2 (by rw [j3];exact ht) hpk d5 ?_ Vo agh ?_ ?_ ?_ ?_ ?_
      ·simp only [abE,aaJ] at hm⊢;omega
      ·refine hL.congr (λi=> ?_);simp only [ad1,afN,acU,AT];constructor
       ·rintro ((h1|h1|h1)|h1)
        ·exact .inl (.inl h1)
        ·exact .inr (.inl h1)
        ·exact .inl (.inr h1)
        ·exact .inr (.inr h1)
       ·rintro ((h1|h1)|h1|h1)
        ·exact .inl (.inl h1)
        ·exact .inl (.inr (.inr h1))
        ·exact .inl (.inr (.inl h1))
        ·exact .inr h1
      ·intro p hp;rcases AT.1 (S5 p (QI p hp)) with he|he
       ·exact absurd (acN.2 ⟨p,hp,he⟩) hxn
       ·exact he
      ·have:((pl++(x',b)::pr).map (·.1)).Nodup:=Sr;refine agJ ?_ this;exact aho _ (afR (af5 _ _) pl)
      ·have:((pl++(x',b)::pr).map (·.2)).Nodup:=Lk;refine agJ ?_ this;exact aho _ (afR (af5 _ _) pl)
      ·intro p hp;obtain ⟨q1,q2,q3⟩:=YA p (QI p hp);exact ⟨q1,λoff=>by rw [j3];exact q2 off,q3⟩
      ·simp only [abE,aaJ] at hle⊢;omega
     ·have TB: ∀p∈pd,p.1∈rest:=λp hp=>by
       rcases AT.1 (S5 p hp) with he|he
       ·exact absurd (acN.2 ⟨p,hp,he⟩) hxp
       ·exact he
      have YB:pd.length<=rest.length:=by have h1:(pd.map (·.1)).length<=rest.length:=o8 Sr (λi hi=>by obtain ⟨p,hp,rfl⟩:=acN.1 hi;exact TB p hp);simpa using h1
      have alT:(x::rest).length-pd.length=(rest.length-pd.length)+1:=by simp only [abE];omega
      rw [alT];have WQ:x∉pd.map (·.1)++pre:=by simp only [acU,not_or];exact ⟨hxp,DU⟩
      have ye:x∈IT .any ops listed:=by refine mem_ready.2 ⟨(hL.rV Tz).2 WQ,o,hx,λed Xi hb=> ?_⟩;have:=aaP.1 d1 ed (by simpa using Xi);simp only [qO,hb,aej,afO] at this;have hm:=(bL _ _).1 this;exact (hL.done (aaD _ hm)).2 (by simp [hm])
      have next: ∀(e':Env) (ef:St) (a':Act) (w':World),b9 c (Z.outs (pd.map (·.2))) e' ef a' w'->Trans (Z.outs (pd.map (·.2))).In e.φ w e'.φ w'->CJ c ops.toList l' ef K=some r->B4 P c ops N e.φ (rest.length-pd.length) (listed.setIfInBounds x true) (wm ops pd a') w':=by
       intro e' ef a' w' h1 t1 nX;refine Xf t1.ph _ _ _ _ ?_;refine ihm rest (x::pre) pd l' _ e' ef a' w' ?_ h1 nX (ht.trans (t1.wide λb hb=>hb.1)) hpk d5 ((hL.set Tz).congr λi=> ?_) Vo agh TB Sr Lk (λp hp=>(YA p hp).later (acN.2 ⟨p,hp,rfl⟩) t1) YB
       ·simp only [abE] at hm;omega
       ·simp only [AT,acU];constructor
        ·rintro (h1|h1|h1)
         ·exact .inr (.inl h1)
         ·exact .inl h1
         ·exact .inr (.inr h1)
        ·rintro (h1|h1|h1)
         ·exact .inr (.inl h1)
         ·exact .inl h1
         ·exact .inr (.inr h1)
      cases NS:kE o&&!jC c o with
      |true=>
       simp only [NS,cond_true] at d4;have xV: ∀p∈pd,∀dd,xb ops p.1=some dd->dd∉o.looksAt ops/\o.dst≠some dd:=by intro p hp;obtain ⟨q,hq,E3⟩:=aaE p hp;exact I7 hq (.inr (QH rest [x] d4 p.1 (TB p hp) q hq E3))
       obtain ⟨hex,hwn⟩:=GB agi a pd (λp hp d hd=>(xV p hp d hd).1);obtain ⟨D,D1,D2,D3,D4⟩:=Cm rest [x] d4 (λy hy di=>absurd (by simpa using hy) di);have qC: ∀j oj,ops[j]? =some oj->j∉D->j≠x->listed.getD j true=false->o.apart ops oj=true/\(mi c o=true->still c o=false->sE c o ops j=true):=by
        intro j oj YG hjD hjx Xg;have aaF:j<ops.size:=(aaU.1 YG).1;have hjr:j∈rest:=by
         rcases Vo j aaF with h1|h1
         ·rcases AT.1 h1 with h1|h1
          ·exact absurd h1 hjx
          ·exact absurd (by simp [h1]) ((hL.rV aaF).1 Xg)
         ·exact h1
        obtain ⟨p,hp1,Mk,hp3⟩:=D4 j hjr hjD;rw [YG] at hp1;cases hp1;exact ⟨Mk,λhl hs=>by simp [sE,YG,hp3 hl hs]⟩
       have aaB: ∀d∈D,listed.getD d false=false:=by
        have aqj: ∀p∈pd,p.1∉D:=by intro p hp hpD;obtain ⟨q,hq,E3⟩:=aaE p hp;obtain ⟨ed,Xi,hb,_⟩:=D3 p.1 q hpD (λhe=>hxp (acN.2 ⟨p,hp,he⟩)) hq;obtain ⟨_,_,_,_,_,di⟩:=BB E3;rw [di ed Xi] at hb;cases hb
        intro d hd;have PD:d∉pd.map (·.1)++pre:=by
         simp only [acU,not_or];constructor
         ·intro hm;obtain ⟨p,hp,rfl⟩:=acN.1 hm;exact aqj p hp hd
         ·rcases D2 d hd with h1|h1
          ·have h1:d=x:=by simpa using h1
           rw [h1];exact DU
          ·exact λhp=>pE rest (x::pre) d5 d h1 (by simp [hp])
        by_cases WX:d<ops.size
        ·cases hg:listed.getD d false with
         |false=>rfl
         |true=>exact absurd ((hL.done WX).1 hg) PD
        ·have hl: ¬d<listed.size:=by rw [hL.size];exact WX
         simp [hl]
       cases go with
       |true=>simp only [cond_true] at hK;obtain ⟨v,hv,e2,ef,k1,k2,k3⟩:=(Tq (Q:=tc N) hG h' hK).apT (by simp only [cV] at NS;exact NS.1) (by simp only [cV,aau] at NS;exact NS.2);refine CZ D3 hx Lw (rest.length-pd.length) listed _ w qC aaB ye (.inl ⟨by rw [hwn];exact hw,λw' hg=>by rw [hex];exact hv w' hg⟩) h.kP ?_;rw [DT a o.dst v pd (λp hp d hd=>(xV p hp d hd).2)];exact next e2 ef _ w k1 k2 k3
       |false=>simp only [cond_false] at hK;obtain ⟨e2,ef,k1,k2,k3⟩:=dz (v:=undef) (s:= .skip) h' ⟨rfl,trivial⟩ hK;refine CZ D3 hx Lw (rest.length-pd.length) listed _ w qC aaB ye (.inr ⟨by rw [hwn];exact hw,rfl⟩) h.kP ?_;rw [DT a o.dst undef pd (λp hp d hd=>(xV p hp d hd).2)];exact next e2 ef _ w k1 (by rw [k3];exact .refl _ _ _) k2
      |false=>
       simp only [NS,cond_false] at d4;have xV: ∀p∈pd,∀dd,xb ops p.1=some dd->dd∉o.looksAt ops/\o.dst≠some dd:=by
        intro p hp;obtain ⟨q,hq,E3⟩:=aaE p hp;have:=aaP.1 d4 p.1 (TB p hp);have hq':ops.toList[p.1]? =some q:=by simpa using hq
        simp only [hq',E3,cond_true,cV] at this;exact I7 hq (.inl (BA this.1))
       refine ⟨λYF=>(by rw [YF] at ye;cases ye),λi hi=> ?_⟩;obtain ⟨aqk,oi,Xj,TD⟩:=mem_ready.1 hi;have Xk:i<ops.size:=(aaU.1 Xj).1;have qB:=(hL.rV Xk).1 aqk;simp only [acU,not_or] at qB;by_cases MC:i=x
       ·subst MC;rw [hx] at Xj;cases Xj;have ta:wpOp P ops (tc N) i (λa' w'=>(∀oi,sE c oi ops i=true->fK c oi w w')/\ ∃e2 ef,b9 c (Z.outs (pd.map (·.2))) e2 ef a' w'/\Trans (Z.outs (pd.map (·.2))).In e.φ w e2.φ w'/\CJ c ops.toList l' ef K=some r) a w:=by
         unfold wpOp;simp only [hx];rw [hw];cases go with
         |true=>
          simp only [cond_true] at hK;simp only [if_true];left;have hd:=Tq (Q:=tc N) hG h' hK;cases PG:PX c o with
          |true=>simp only [PX,aeN] at PG;refine ahg ?_ (hd.apU PG);rintro a' w' ⟨hg,e2,ef,k1,k2,k3⟩;exact ⟨λ_ _=>hg.for,e2,ef,k1,k2,k3⟩
          |false=>
           by_cases Tf: ∃oi,wQ oi o=true
           ·obtain ⟨oi0,Tf⟩:=Tf;refine ahg ?_ (alo (Q:=tc N) hG h' hK Tf);rintro a' w' ⟨hg,e2,ef,k1,k2,k3⟩;refine ⟨λoi hh=> ?_,e2,ef,k1,k2,k3⟩;have Xj:wQ oi o=true:=by simpa [sE,hx,PG] using hh
            exact Tx Tf Xj hg
           ·refine ahg ?_ hd.wp;rintro a' w' ⟨e2,ef,k1,k2,k3⟩;exact ⟨λoi hh=>absurd ⟨oi,by simpa [sE,hx,PG] using hh⟩ Tf,e2,ef,k1,k2,k3⟩
         |false=>simp only [cond_false] at hK;simp only [OF,if_false];obtain ⟨e2,ef,k1,k2,k3⟩:=dz (v:=undef) (s:= .skip) h' ⟨rfl,trivial⟩ hK;exact ⟨λ_ _=>(dN.refl w).for,e2,ef,k1,by rw [k3];exact .refl _ _ _,k2⟩
        refine wpOp_mono ?_ (Vn hx agi ta pd xV);rintro a' w' ⟨a2,rfl,hg,e2,ef,k1,k2,k3⟩;exact ⟨⟨hg,λb o v hv=>k1.kP b o v (k2.ph b o v hv)⟩,next e2 ef a2 w' k1 k2 k3⟩
       ·have hir:i∈rest:=by
         rcases Vo i Xk with h1|h1
         ·rcases AT.1 h1 with h1|h1
          ·exact absurd h1 MC
          ·exact absurd h1 qB.2
         ·exact h1
        have TE:=aaP.1 d4 i hir;have ahR:ops.toList[i]? =some oi:=by simpa using Xj
        simp only [ahR] at TE;cases E3:DC oi with
        |false=>
         exfalso;simp only [E3,cond_false] at TE;unfold xM at TE;obtain ⟨ed,Xi,hb⟩:=aef.1 TE;simp only [cV,qO,aeN,aau] at hb;obtain ⟨u6,qx⟩:=hb;have Cn:=TD ed (by simpa using Xi) u6;have Fo:ed.on∉pd.map (·.1)++pre:=by
          rcases qx with qx|⟨qx,hb3⟩
          ·rw [AI qx];exact WQ
          ·simp only [acU,not_or];refine ⟨λhm=> ?_,λhp=>pE rest (x::pre) d5 _ ((bL _ _).1 qx) (by simp [hp])⟩;obtain ⟨p,hp,he⟩:=acN.1 hm;obtain ⟨q,hq,hqa⟩:=aaE p hp;have hq':ops.toList[ed.on]? =some q:=by rw [<-he];simpa using hq
           simp [ag4,hq',hqa] at hb3
         by_cases uX:ed.on<ops.size
         ·exact Fo ((hL.done uX).1 Cn)
         ·have:listed.getD ed.on false=false:=by
           have hl: ¬ed.on<listed.size:=by rw [hL.size];exact uX
           simp [hl]
          rw [this] at Cn;cases Cn
        |true=>
         obtain ⟨t,d,q1,q2,q3,q4⟩:=BB E3;have hI: ∃I,c.tv t=some I:=by
          simp only [E3,cond_true,cV,ag3,q1] at TE;cases htv:c.tv t with
          |none=>rw [htv] at TE;exact absurd TE.2 (by simp)
          |some I=>exact ⟨I,rfl⟩
         obtain ⟨I,hI⟩:=hI;obtain ⟨inf,z,hz1,hz2,hz3⟩:=Ty hI hG.ti;have hg:dN w (w.alloc (.cells z.cells t)):= .alloc w _ _;unfold wpOp;simp only [Xj];have hwn:aaK oi (yielded ops (wm ops pd a).tmps)=true:=by simp [aaK,q3]
         simp only [hwn,if_true];left;have cr:(execOp (wm ops pd a).eval oi).run P w= .ok (.value (vOf w.heap.size)) (w.alloc (.cells z.cells t)):=by simp [execOp,q1,Instr.alloc,zeroValue,typeInfo,hz1,hz2,newVar,newRow,newObj,Sem.run,vOf]
         unfold ags;rw [cr];simp only [aeU];refine ⟨⟨λ_ _=>hg.for,(h.grow hg).kP⟩,?_⟩;have rR:w.heap.size<(w.alloc (.cells z.cells t)).heap.size:=by simp
         have aql: ∀p∈pd,p.2<w.heap.size:=λp hp=>by obtain ⟨_,_,_,_,_,_,_,_,_,_,_,k6,_⟩:=(YA p hp).row;exact aZ k6
         have TA:(wm ops pd a).put oi.dst (vOf w.heap.size)=wm ops ((i,w.heap.size)::pd) a:=by simp [wm,xb,Xj]
         rw [TA];have cJ:pd.length<rest.length:=by
          have h1:(i::pd.map (·.1)).length<=rest.length:=by
           refine o8 (ac4.2 ⟨qB.1,Sr⟩) ?_;intro j hj;rcases AT.1 hj with rfl|hj
           ·exact hir
           ·obtain ⟨p,hp,rfl⟩:=acN.1 hj;exact TB p hp
          simp only [abE,List.length_map] at h1;omega
         have Dt:rest.length-pd.length=(x::rest).length-((i,w.heap.size)::pd).length:=by simp only [abE];omega
         rw [Dt];refine ihm (x::rest) pre ((i,w.heap.size)::pd) (o::l') _ e st a _ ?_ (h.narrow hg rR) ?_ (ht.trans (hg.trans (λb hb=>(h.cS b hb).1) _)) ?_ hd0 ?_ ku aaD ?_ ?_ ?_ ?_ ?_
         ·simp only [abE] at hm⊢;omega
         ·exact ahP
         ·simp [rh,hox,hpk]
         ·refine (hL.set Xk).congr (λj=> ?_);simp
         ·intro p hp;rcases AT.1 hp with rfl|hp
          ·exact agm _ hir
          ·exact S5 p hp
         ·exact ac4.2 ⟨qB.1,Sr⟩
         ·refine ac4.2 ⟨λhm=> ?_,Lk⟩;obtain ⟨p,hp,he⟩:=acN.1 hm;have:=aql p hp;have he:p.2=w.heap.size:=he;omega
         ·intro p hp;rcases AT.1 hp with rfl|hp
          ·refine ⟨⟨oi,t,I,d,z.cells,t,Xj,E3,q1,hI,q2,iD w _,hz3⟩,λoff=> ?_,(h.cS _ (adb _)).1⟩;cases hp:e.φ w.heap.size off with
           |none=>rfl
           |some v=>have:=abz w _ (h.kP _ _ _ hp);simp at this
          ·obtain ⟨⟨o1,t1,I1,d1,aqm,T1,k1,k2,k3,k4,k5,k6,k7⟩,q5,q6⟩:=YA p hp;exact ⟨⟨o1,t1,I1,d1,aqm,T1,k1,k2,k3,k4,k5,by rw [hg.qA _ (aZ k6)];exact k6,k7⟩,q5,q6⟩
         ·simp only [abE];omega
theorem QJ (hG:Good P c){ops:Array Oper}{l:List Oper}{ord:List Nat}(hd:ub c ops ord=true)(hp:rh ops.toList ord=some l){Z:bI}{e:Env}{st:St}{a:Act}{w:World}{R:Type}{K:St->Option R}{r:R}(h:b9 c Z e st a w)(hK:CJ c ops.toList l st K=some r): wpAny P .any ops (tc λa' w'=>Out c Z K r e.φ w a' w') ops.size (No ops.size false) a {w with drawn:=w.drawn+1}:=by
 simp only [ub,cV] at hd;obtain ⟨⟨⟨WG,U5⟩,ku⟩,hd⟩:=hd;have Lw: ∀(j:Nat) (o:Oper) cs b,ops[j]? =some o->o.op≠ .select cs b:=by intro j o cs b ho he;have:=aaP.1 WG o (aet (by simpa using ho:ops.toList[j]? =some o));simp [he] at this
 have agj:dN w {w with drawn:=w.drawn+1}:=⟨adb _,λ_ _=>rfl,rfl,rfl,rfl,λ_=>rfl⟩
 ·refine QF (c:=c) (φ:=e.φ) _ _ _ _ ?_;have hlen:ord.length=ops.size:=by have:=AI U5;simpa using this
  rw [<-hlen];have h0:b9 c (Z.outs []) e st a {w with drawn:=w.drawn+1}:=(h.grow agj).GA (λb hb=>⟨hb,by simp⟩) (λb hb=>⟨hb,by simp⟩) rfl rfl rfl rfl;refine ad4 hG Lw (λa' w' h=>h) (2 *ord.length) ord [] [] l _ e st a _ (by simp) h0 hK (agj.trans h.cS e.φ) hp hd ⟨by simp [hlen],λi hi=> ?_⟩ (λi hi=> .inr ((bL _ _).1 (aaP.1 ku i (by simpa using hi)))) (by simp) (by simp) (by simp) (by simp) (by simp) (by simp);simp [hlen,hi]
end
end Dn
/-
  What is asked of slices.DeleteFunc, and of the function that it is handed. Conditions: none.
-/
namespace Dn
open Go
structure I8 (P:Program) (c:Ctx) (g:Nat) (lb:Array Value) {S:Type} (Inv:S->(Nat->Prop)->Ph->World->Prop) (step:S->MV->Option (Bool×S)):Prop where
 call: ∀{s Z φ W v x b s'},Inv s Z φ W->(∀b,W.heap.size<=b->Z b)->qy φ W->fZ c.key φ v x->step s x=some (b,s')-> dQ P g (#[v]++lb) W λr W'=>r= .bool b/\ ∃φ',Trans Z φ W φ' W'/\qy φ' W'/\Inv s' Z φ' W'
 frame: ∀{s Z φ W W'},Inv s Z φ W->W.heap.size<=W'.heap.size->(∀b,Z b->b<W.heap.size->W'.heap[b]? =W.heap[b]?)->Inv s (λb=>Z b/\b<W.heap.size) φ W'
 mono: ∀{s Z Z' φ W},Inv s Z φ W->(∀b,Z b->Z' b)->Inv s Z' φ W
structure ad6 (c:Ctx) (ob:Option Nat) {S:Type} (Inv:S->(Nat->Prop)->Ph->World->Prop) (Z0:Nat->Prop) (φ0:Ph) (w0:World) (s:S) (Z:Nat->Prop) (φ:Ph) (W:World):Prop where
 inv:Inv s Z φ W
 new: ∀b,W.heap.size<=b->Z b
 sub: ∀b,Z b->Z0 b\/w0.heap.size<=b
 kP:qy φ W
 tr:Trans (λb=>(Z0 b\/w0.heap.size<=b)\/ob=some b) φ0 w0 φ W
 free: ∀b off,ob=some b->φ b off=none
structure ahS (P:Program) (c:Ctx) (h el:Nat):Prop where
 run: ∀{S:Type} {Inv:S->(Nat->Prop)->Ph->World->Prop} {step:S->MV->Option (Bool×S)} {g:Nat} {lb:Array Value},I8 P c g lb Inv step-> ∀{v0:Value} {xs ys:List MV} {w:World} {Z0:Nat->Prop} {φ0:Ph} {s0 s':S},(∀x∈xs,∃ms,x= .agg ms)->cT c (bI.plain λb=>v0.ownBlock=some b) (oO c.key φ0) w v0 ⟨el,false,xs⟩->(∀b,v0.ownBlock=some b-> ¬Z0 b)-> Inv s0 Z0 φ0 w->(∀b,w.heap.size<=b->Z0 b)->qy φ0 w->akC step s0 xs=some (ys,s')-> dQ P h #[v0,.func (.func g) #[] lb] w λv W=> ∃Z φ,ad6 c v0.ownBlock Inv Z0 φ0 w s' Z φ W/\cT c (bI.plain λb=>v0.ownBlock=some b) (oO c.key φ) W v ⟨el,false,ys⟩/\ ∀b,v.ownBlock=some b->v0.ownBlock=some b
def sF (P:Program)(c:Ctx):Prop:= ∀h,c.Wc h=true->ahS P c h (c.nT (c.key h))
end Dn
/-
  Regions with a call of slices.DeleteFunc. Conditions: none.
-/
namespace Dn
open Go
section
variable {P:Program}{c:Ctx}{Z:bI} {Z':Nat->Prop} {e e':Env}{st bZ:St}{a:Act} {w w':World}{R:Type}{K:St->Option R}{r:R}{Q:Exit->Act->World->Prop}{o:Oper}{root:Nat}{cs:List aE}{ks:List LK}{ls outs:List MV}{ps:List (Nat×Nat)} {φ':Ph}
end
end Dn
/-
  A call of slices.DeleteFunc. Conditions: none.
-/
namespace Dn
open Go
section
variable {P:Program}{c:Ctx}{Z:bI} {e e':Env}{st bZ:St}{a:Act} {w w':World}{R:Type}{K:St->Option R}{r:R}{Q:Exit->Act->World->Prop}{o:Oper}
theorem dQ.imp {P:Program}{f:FuncId}{args:Array Value}{w:World} {R R':Value->World->Prop}(hc:dQ P f args w R)(h: ∀v w',R v w'->R' v w'):dQ P f args w R':=by
 unfold dQ at hc⊢;split
 ·rename_i j6;rw [j6] at hc;exact Calls.mono hc (λx Bp ⟨v,e,hr⟩=>⟨v,e,h v Bp hr⟩)
 ·rename_i j6;rw [j6] at hc;exact h _ _ hc
 ·rename_i h1 h2;split at hc
  ·rename_i j6;exact absurd j6 (h1 _ _ _)
  ·rename_i j6;exact absurd j6 (h2 _ _)
  ·exact hc
theorem Trans.GA {I J:Nat->Prop} {φ φ':Ph}(h:Trans I φ w φ' w')(hs: ∀b,I b->J b):Trans J φ w φ' w':=⟨h.ph,λb hb=>h.heap b (λhz=>hb (hs b hz)),λb o hb=>h.free b o (λhz=>hb (hs b hz)),h.size,h.rest⟩
theorem aaG {key:Nat->Nat} {φ:Ph}{v:Value}{b:Bool}(h:fZ key φ v (.b b)):v= .bool b:=by obtain ⟨_,h⟩:=h;generalize Bq:[v]=l at h;cases h;simpa using Bq
theorem put_comm {a:Act}{x y:Nat}(h:x≠y)(v u:Value):(a.put (some x) v).put (some y) u=(a.put (some y) u).put (some x) v:=by show ({a with tmps:=(a.tmps.setIfInBounds x v).setIfInBounds y u}:Act)={a with tmps:=(a.tmps.setIfInBounds y u).setIfInBounds x v};rw [afP v u h]
end
end Dn
/-
  Regions in the order of their text. Conditions: none.
-/
namespace Dn
open Go
section
variable {P:Program}{c:Ctx}{Z:bI}{e:Env}{st:St}{a:Act}{w:World}{R:Type}{K:St->Option R}{r:R}{Q:Exit->Act->World->Prop}{ops:Array Oper}
theorem Xl (hG:Good P c)(DV:sF P c)(id:Nat)(ops:Array Oper):Qw P c id ops:=by intro Z e st a w R K r Q h hK hQ;unfold Y5 at hK;exact Ms (WS hG id ops) h hK hQ
end
end Dn
/-
  Open order with two operations that may be done either way round. Conditions: none.
-/
namespace Dn
open Go
section
variable {P:Program}{ops:Array Oper}{Q:Exit->Act->World->Prop}
theorem MD (A B:Nat):(Lh ops A B).size=ops.size:=by simp [Lh]
theorem I9 (A B i:Nat):(Lh ops A B)[i]? =(ops[i]?).map λo=>if B=i then {o with after:=o.after.push ⟨A,.data⟩} else o:=by
 unfold Lh;rw [agk];by_cases h:B=i
 ·simp [h]
 ·cases ops[i]? <;>simp [h]
theorem Oy (A B:Nat)(tmps:Array Value):yielded (Lh ops A B) tmps=yielded ops tmps:=by
 funext j;unfold yielded;rw [I9];cases ops[j]? with
 |none=>rfl
 |some o=>
  have e:(if B=j then {o with after:=o.after.push ⟨A,.data⟩} else o).dst=o.dst:=by split<;>rfl
  simp only [ahJ,Option.bind_some,e]
theorem Xm {A B i:Nat}{K:Act->World->Prop}{a:Act}{w:World}(h:wpOp P (Lh ops A B) Q i K a w):wpOp P ops Q i K a w:=by
 unfold wpOp at h⊢;rw [I9,Oy] at h;cases hi:ops[i]? with
 |none=>rw [hi] at h;exact h
 |some o=>
  rw [hi] at h;simp only [ahJ] at h;by_cases hb:B=i
  ·rw [if_pos hb] at h;exact h
  ·rw [if_neg hb] at h;exact h
theorem TF {A B i:Nat}{listed:Array Bool}:i∈IT .any (Lh ops A B) listed↔i∈IT .any ops listed/\(i=B->listed.getD A false=true):=by
 unfold IT;rw [MD];simp only [List.mem_filter,List.mem_range,I9];cases hi:ops[i]? with
 |none=>simp
 |some o=>
  by_cases hb:B=i
  ·subst hb;simp [Array.all_push,adx];constructor
   ·rintro ⟨h1,h2,h3,h4⟩;exact ⟨⟨h1,h2,h3⟩,h4⟩
   ·rintro ⟨⟨h1,h2,h3⟩,h4⟩;exact ⟨h1,h2,h3,h4⟩
  ·have Fg: ¬i=B:=λe=>hb e.symm;simp [hb,Fg]
def Ahd (A B:Nat):Bool->List Nat->Prop
 |_,[]=>True
 |la,i::r=>(i=B->la=true)/\Ahd A B (la||decide (i=A)) r
theorem Ja (A B:Nat): ∀L,Ahd A B true L
 |[]=>trivial
 |i::r=>⟨λ_=>rfl,by simpa using Ja A B r⟩
theorem aaH {A B:Nat}(h:A≠B): ∀L,Ahd A B false L\/Ahd B A false L
 |[]=> .inl trivial
 |i::r=>by
  by_cases ha:i=A
  ·subst ha;exact .inl ⟨λe=>absurd e h,by simpa using Ja i B r⟩
  ·by_cases hb:i=B
   ·subst hb;exact .inr ⟨λe=>absurd e ha,by simpa using Ja i A r⟩
   ·rcases aaH h r with h1|h1
    ·exact .inl ⟨λe=>absurd e hb,by simpa [ha] using h1⟩
    ·exact .inr ⟨λe=>absurd e ha,by simpa [hb] using h1⟩
def sP (ops:Array Oper):List (Nat×Nat)->Array Oper
 |[]=>ops
 |p::E=>Lh (sP ops E) p.1 p.2
theorem C0: ∀E,(sP ops E).size=ops.size
 |[]=>rfl
 |p::E=>by rw [sP,MD,C0 E]
theorem Jb {i:Nat}{K:Act->World->Prop}{a:Act}{w:World}: ∀E,wpOp P (sP ops E) Q i K a w->wpOp P ops Q i K a w
 |[],h=>h
 |_::E,h=>Jb E (Xm h)
theorem An {i:Nat}{listed:Array Bool}: ∀E,i∈IT .any (sP ops E) listed↔i∈IT .any ops listed/\ ∀p∈E,i=p.2->listed.getD p.1 false=true
 |[]=>by simp [sP]
 |p::E=>by rw [sP,TF,An E,ac5];exact ⟨λh=>⟨h.1.1,h.2,h.1.2⟩,λh=>⟨⟨h.1,h.2.2⟩,h.2.1⟩⟩
theorem TG {E:List (Nat×Nat)}: ∀(fuel t:Nat) (listed:Array Bool) (a:Act) (w:World),(∀p∈E,p.1<listed.size)->wpAny P .any (sP ops E) Q fuel listed a w-> (∀p∈E,Ahd p.1 p.2 (listed.getD p.1 false) (abB .any ops fuel t listed []))->wpOps P ops Q (abB .any ops fuel t listed []) a w:=by
 intro fuel;induction fuel with
 |zero=>intro t listed a w _ h _;simpa [abB,wpOps] using h.2
 |succ fuel ih=>
  intro t listed a w hs h hA;obtain ⟨h₀,h₁⟩:=h;simp only [abB] at hA⊢;change wpOps P ops Q (match (IT .any ops listed)[t%(IT .any ops listed).length]? with
   |some i=>abB .any ops fuel (t/(IT .any ops listed).length) (listed.setIfInBounds i true) [i]
   |none=>[].reverse) a w
  change∀p∈E,Ahd p.1 p.2 (listed.getD p.1 false) (match (IT .any ops listed)[t%(IT .any ops listed).length]? with
   |some i=>abB .any ops fuel (t/(IT .any ops listed).length) (listed.setIfInBounds i true) [i]
   |none=>[].reverse) at hA
  cases hi:(IT .any ops listed)[t%(IT .any ops listed).length]? with
  |none=>
   have S2:IT .any ops listed=[]:=by
    cases hr:IT .any ops listed with
    |nil=>rfl
    |cons x xs=>rw [hr] at hi;have cJ:t%(x::xs).length<(x::xs).length:=Nat.mod_lt _ (by simp);simp at hi;simp at cJ;omega
   have alU:IT .any (sP ops E) listed=[]:=by
    cases hr:IT .any (sP ops E) listed with
    |nil=>rfl
    |cons x xs=>
     have:x∈IT .any (sP ops E) listed:=by rw [hr];simp
     have:=((An E).1 this).1;rw [S2] at this;cases this
   simpa [wpOps] using h₀ alU
  |some i=>
   rw [hi] at hA;simp only [] at hA⊢;rw [linearise_go_acc,List.reverse_singleton,List.singleton_append] at hA⊢;rw [wpOps_cons];have kG:=(An E).2 ⟨aet hi,λp hp=>(hA p hp).1⟩;refine wpOp_mono (λa w hw=>ih _ _ a w (λp hp=>by simpa using hs p hp) hw λp hp=> ?_) (Jb E (h₁ i kG));have hg:(listed.setIfInBounds i true).getD p.1 false=(listed.getD p.1 false||decide (i=p.1)):=by
    rw [ac1,ac1,Array.getElem?_setIfInBounds];by_cases hia:i=p.1
    ·subst hia;simp [hs p hp]
    ·simp [hia]
   rw [hg];exact (hA p hp).2
theorem Jc {c:Ctx}(hG:Good P c)(Hr:P.follows .mixedOrders=true)(DV:sF P c):IR P c:=by
 refine ⟨λid ops=>Xl hG DV id ops,?_,?_⟩
 ·intro id ops l hd hp Z e st a w R K r Q h hK hQ;refine aed ?_ (wp_region_any Hr (QJ hG hd hp h hK));intro x a' w' hx;cases x<;>first|exact hQ a' w' hx|exact hx.elim
 ·intro id ops k l Z e st a w R K r Q h hK hQ;refine aed (Q:=tc λa' w'=>Out c Z K r e.φ w a' w') ?_ (wp_region_draw λt=> ?_)
  ·intro x a' w' hx;cases x<;>first|exact hQ a' w' hx|exact hx.elim
  simp only [Region.schedule,Hr,Bool.true_or,if_true];have leaf: ∀(E:List (Nat×Nat)) (l:List Nat),(∀p∈E,p.1<ops.size)->Y7 c (sP ops E) l st K=some r->(∀p∈E,Ahd p.1 p.2 false (abB .any ops ops.size t (No ops.size false) []))-> wpOps P ops (tc λa' w'=>Out c Z K r e.φ w a' w') (abB .any ops ops.size t (No ops.size false) []) a {w with drawn:=w.drawn+1}:=by
   intro E l hE hK hA;unfold Y7 at hK;cases hd:ub c (sP ops E) l with
   |false=>simp [hd] at hK
   |true=>
    simp only [hd,cond_true] at hK;split at hK
    ·rename_i l1 hp;have w1:=QJ hG hd hp h hK;rw [C0] at w1;exact TG ops.size t _ a _ (by simpa using hE) w1 (λp hp=>by simpa [hE p hp] using hA p hp)
    ·cases hK
  have key: ∀(k:Nat) (E:List (Nat×Nat)) (l:List Nat),(∀p∈E,p.1<ops.size)->H6 c st K k (sP ops E) l=some r->(∀p∈E,Ahd p.1 p.2 false (abB .any ops ops.size t (No ops.size false) []))-> wpOps P ops (tc λa' w'=>Out c Z K r e.φ w a' w') (abB .any ops ops.size t (No ops.size false) []) a {w with drawn:=w.drawn+1}:=by
   intro k;induction k with
   |zero=>intro E l _ hK;cases hK
   |succ k ih=>
    intro E l hE hK hA;simp only [H6] at hK;cases hb:abG l.length (sP ops E).toList.length with
    |true=>simp only [hb,cond_true] at hK;exact leaf E l hE hK hA
    |false=>
     simp only [hb,cond_false] at hK;split at hK
     ·rename_i o1 o2 A B ht;obtain ⟨q1,q2,q3⟩:=Tv ht;have rR:(sP ops E).toList.length=ops.size:=by rw [abJ,C0]
      rw [rR] at q2 q3;obtain ⟨k1,k2⟩:=WT hK;rcases aaH q1 (abB .any ops ops.size t (No ops.size false) []) with ho|ho
      ·exact ih ((A,B)::E) o1 (ac5.2 ⟨q2,hE⟩) k1 (ac5.2 ⟨ho,hA⟩)
      ·exact ih ((B,A)::E) o2 (ac5.2 ⟨q3,hE⟩) k2 (ac5.2 ⟨ho,hA⟩)
     ·cases hK
  exact key k [] l (by simp) hK (by simp)
end
end Dn
/-
  Functions of the library, by hand: copies of slices. Conditions: none.
-/
namespace Dn
open Go
section
variable {P:Program}{c:Ctx}{Q:Exit->Act->World->Prop}{ops:Array Oper}{o:Oper}{a:Act} {w w':World}
theorem yf {i:Nat}{rest:List Nat}{v:Value}(hi:ops[i]? =some o)(hg:o.guard=none)(cr:(execOp a.eval o).run P w= .ok (.value v) w')(h:wpOps P ops Q rest (a.put o.dst v) w'):wpOps P ops Q (i::rest) a w:=by rw [wpOps_cons];unfold wpOp;simp only [hi,aaK,hg,if_true];left;unfold ags;rw [cr,ahN];exact h
structure az (o:Oper) (d:Nat) (op:Op):Prop where
 dst:o.dst=some d
 op:o.op=op
 guard:o.guard=none
theorem ahT {key:Nat->Nat} {φ:Ph}{size:Nat}{v:Value}{xs:List MV}(mn:qy φ w)(iY:0<size)(hx:jz key φ [v] (.list xs))(hw:pu size xs=true): ∃news,Src (oO key φ) w size v xs news:=by
 generalize hv:[v]=vs at hx;cases hx with
 |list ad cap _ bt off Ds f g1 g2 g3 g4 g5=>
 simp at hv;have U3: ∀i,i<xs.length->(f i).length=size:=by intro i hi;rw [(g5 i hi).width];exact DI hw _ (List.getElem_mem hi)
 obtain ⟨cs,h1,h2⟩:=Ir U3 g5;refine ⟨cs,h1,ad,cap,hv,?_,?_⟩
 ·intro hn;cases xs with
  |nil=>rfl
  |cons y ys=>have:=g2 (by simp);rw [hn] at this;cases this
 ·intro x hx j u hj;have Gi:j<cs.length:=(abC.1 hj).1;rw [h1.length] at Gi;have Is:0<xs.length:=by
   cases xs with
   |nil=>simp at Gi
   |cons y ys=>simp
  have S0:=g2 Is;rw [hx] at S0;cases S0;have hq:j/size<xs.length:=(Nat.div_lt_iff_lt_mul iY).2 Gi;have hm:=Nat.mod_lt j iY;have SS:j=j/size *size+j%size:=by rw [Nat.mul_comm];exact (Nat.div_add_mod j size).symm
  have e1:=h2 (j/size) (j%size) hq hm;rw [<-SS,hj] at e1;have ZD:Ds=size:=by rw [<-g3 0 Is,U3 0 Is]
  have e2:=g4 (j/size) (j%size) hq (by rw [ZD];exact hm);rw [<-e1,ZD,Nat.add_assoc,<-SS] at e2;have:=mn _ _ _ e2;rw [adM];exact this
theorem Xn {t t':TypeId}{el:TypeId}{x:Operand}{ad:Option Addr}{n cap:Nat}(hu:P.underlying t=some (.slice el))(ho:o.op= .binOp .eql t x (.const (.slice none 0 0)) t')(hx:a.eval x= .slice ad n cap): (execOp a.eval o).run P w= .ok (.value (.bool ad.isNone)) w:=by
 have he:a.eval (.const (.slice none 0 0))= .slice none 0 0:=rfl;have j6: ∀d:Nat,(afZ (d+1) t (.slice ad n cap) (.slice none 0 0)).run P w= .ok ad.isNone w:=by intro d;cases ad<;>simp [afZ,run_underlying hu]
 have hb:afy .eql t (.slice ad n cap) (.slice none 0 0)=(do pure (.bool (<-agX t (.slice ad n cap) (.slice none 0 0)))):=rfl;have hg: ∀(x y:Operand),(eqGuard .eql t x y (.slice ad n cap) (.slice none 0 0)).run P w= .ok () w:=λ_ _=>rfl;have h2:(agX t (.slice ad n cap) (.slice none 0 0)).run P w= .ok ad.isNone w:=j6 9999;unfold execOp;simp only [ho];rw [hx,he];simp [hg,hb,h2]
theorem Ao {f:FuncId}{fn:Func}{t:TypeId}{I E:TI}{i0 i1 i2 i3:Nat}{oA oB oC oD oE oF oG oH:Oper}{xs:List MV}(hT:kq P c.ti)(hI:c.tv t=some I)(hL:I.Bm=true)(hE:c.tv I.elem=some E)(u6:1<=E.bytes)(Oz:c.nT (c.key f)=I.elem)(hg:c.fF (c.key f)=false)
 (hf:P.funcs[f]? =some fn) (Am:(fn.name== "runtime.NumGoroutine")=false) (hn:fn.ntmps=8) (hr:fn.results= #[.tmp 2])
 (rU:fn.body=some (.seq (.region i0 #[oA] false) (.seq (.seq (.region i1 #[oB,oC] false) (.cond (.tmp 4) (.seq (.region i2 #[oD] false) .ret) .skip)) (.seq (.region i3 #[oE,oF,oG,oH] false) .ret))))
 (hA:az oA 2 (.assign (.const (.slice none 0 0)))) (hB:az oB 3 (.move (.tmp 0))) (hC:az oC 4 (.binOp .eql t (.tmp 3) (.const (.slice none 0 0)) t)) (hD:az oD 2 (.assign (.const (.slice none 0 0))))
 (hEo:az oE 5 (.buildSlice t 0 #[])) (hF:az oF 6 (.move (.tmp 0))) (hG:az oG 7 (.call {callee:= .builtin .append,args:= #[.tmp 5,.tmp 6],argTypes:= #[t,t]})) (hH:az oH 2 (.assign (.tmp 7)))
 (hw:pu E.size xs=true) (lf:xs.length *E.bytes<=2^46):j8 P c f [.list xs] (.fresh xs):=by
 obtain ⟨hIt,hIc⟩:=bG hI;obtain ⟨tG,wi⟩:=bG hE;obtain ⟨hu,E2,Gn,_,iY⟩:=TI.nN (hT t I hIt) hL;rw [tG] at Gn;cases Gn;intro φ W Z vs hz gl mn;simp only [fJ,hg,OF,if_false] at gl;obtain ⟨v,u,rfl,⟨_,hx⟩,hu0⟩:=gl;have hu0:u=[]:=hu0;subst hu0;obtain ⟨ad,cap,hv,Ho,hnn⟩: ∃ad cap,v= .slice ad xs.length cap/\xs.length<=cap/\(0<xs.length->ad≠none):=by
  have Hm:=hx;generalize Bq:[v]=vs at Hm;cases Hm with
  |list ad cap _ bt off Ds f g1 g2 g3 g4 g5=>exact ⟨ad,cap,by simpa using Bq,g1,λh0 hn=>by rw [g2 h0] at hn;cases hn⟩
 have cr:(callFunc f [v].toArray).run P W= .ok (.enter f #[v]) W:=by
  have Lk: ¬fn.name= "runtime.NumGoroutine" :=by simpa using Am
  simp [callFunc,hf,Lk,rU]
 unfold dQ;rw [cr];refine calls_of_wp hf rU ?_;rw [hn];have ha0:({tmps:= #[v]++No (8-(#[v]:Array Value).size) undef,defers:=[]}:Act)={tmps:= #[v,undef,undef,undef,undef,undef,undef,undef],defers:=[]}:=rfl;rw [ha0];have aqq:BY (#[oA]:Array Oper).size=[0]:=rfl;have aqr:BY (#[oB,oC]:Array Oper).size=[0,1]:=rfl;have aqs:BY (#[oE,oF,oG,oH]:Array Oper).size=[0,1,2,3]:=rfl;have aqt:BY (#[oD]:Array Oper).size=[0]:=rfl;have fin: ∀(a:Act) (W':World) (v':Value) (cells:List Value),a.defers=[]->a.tmps.getD 2 undef=v'->(∃φ',Trans Z φ W φ' W'/\qy φ' W'/\iG c Z φ' W' (c.key f) v' (.fresh xs))-> bodyPost P fn (λx Bp=> ∃v,x= .returned v/\ ∃φ',Trans Z φ W φ' Bp/\qy φ' Bp/\iG c Z φ' Bp (c.key f) v (.fresh xs)) .ret a W':=by
  intro a W' v' cells hd h2 h3;refine ⟨hd,v',?_,v',rfl,h3⟩;have NW:a.tmps[2]?.getD undef=v':=by simpa using h2
  simp [results,hr,NW]
 refine wp_seq (wp_region ?_);rw [aqq];refine yf (o:=oA) rfl hA.guard (v:= .slice none 0 0) (w':=W) (by simp [execOp,hA.op];rfl) ?_;rw [hA.dst];refine wp_seq (wp_seq (wp_region ?_));rw [aqr];refine yf (o:=oB) rfl hB.guard (v:=v) (w':=W) (by simp [execOp,hB.op];rfl) ?_;rw [hB.dst];refine yf (o:=oC) rfl hC.guard (v:= .bool ad.isNone) (w':=W) (Xn hu hC.op (by rw [<-hv];rfl)) ?_;rw [hC.dst];refine wp_cond (t:=ad.isNone) rfl ?_;cases S0:ad.isNone with
 |true=>
  have S0:ad=none:=by simpa using S0
  have hxs:xs=[]:=by
   cases xs with
   |nil=>rfl
   |cons y ys=>exact absurd S0 (hnn (by simp))
  simp only [if_true];refine wp_seq (wp_region ?_);rw [aqt];refine yf (o:=oD) rfl hD.guard (v:= .slice none 0 0) (w':=W) (by simp [execOp,hD.op];rfl) ?_;rw [hD.dst];refine wp_ret ?_;refine fin _ W (.slice none 0 0) [] rfl rfl ⟨φ,.refl _ _ _,mn,?_⟩;show cT c (bI.plain Z) (oO c.key φ) W _ ⟨c.nT (c.key f),false,xs⟩;rw [Oz,hxs];exact ⟨E,[],tG,wi,⟨by simp,.inl ⟨rfl,rfl⟩⟩,rfl,λbt hb=>by simp [ada] at hb⟩
 |false=>
  simp only [OF,if_false];refine wp_skip ?_;refine wp_seq (wp_region ?_);rw [aqs];have alV:=Va (P:=P) (c:=c) (w:=W) (t:=t) (I:=I) (vs:=[]) (parts:= #[]) hu tG wi iY hT (by simp) (by simp) rfl;simp only [List.length_nil,List.flatMap_nil] at alV;refine yf (o:=oE) rfl hEo.guard (v:= .slice (some ⟨W.heap.size,0,none⟩) 0 0) (w':=W.alloc (.cells #[] I.elem)) (by simp [execOp,hEo.op,alV]) ?_;rw [hEo.dst];refine yf (o:=oF) rfl hF.guard (v:=v) (w':=W.alloc (.cells #[] I.elem)) (by simp [execOp,hF.op];rfl) ?_;rw [hF.dst];obtain ⟨news,Ag⟩:=ahT mn iY hx hw;have hg1:dN W (W.alloc (.cells #[] I.elem)):= .alloc W _ _;have alW:Src (oO c.key φ) (W.alloc (.cells #[] I.elem)) E.size v xs news:=by obtain ⟨ad',Zs,q1,q2,q3⟩:=Ag.val;exact ⟨Ag.els,ad',Zs,q1,q2,λx hx j u hj=>hg1.cell (q3 x hx j u hj)⟩
  have eW:(W.alloc (.cells #[] I.elem)).ownsRow 0 I.elem E.size (.slice (some ⟨W.heap.size,0,none⟩) 0 0) 0 []:=⟨by simp,.inr ⟨W.heap.size,0, #[],rfl,aer _,iD W _,adb _,aer _,by simp,by simp⟩⟩
  obtain ⟨v',W',alX,xV⟩:=CW (P:=P) (c:=c) (ty:=oG.type) hu tG wi iY hT u6 eW (alW.apx hu) (by simpa using lf);refine yf (o:=oG) rfl hG.guard (v:=v') (w':=W') (by
   have e1: ∀(a:Act),a.eval (.tmp 5)= .slice (some ⟨W.heap.size,0,none⟩) 0 0->a.eval (.tmp 6)=v->(execOp a.eval oG).run P (W.alloc (.cells #[] I.elem))= .ok (.value v') W':=by intro a h5 h6;simp [execOp,hG.op,resolve,invoke,builtin,h5,h6,alX]
   exact e1 _ rfl rfl) ?_
  rw [hG.dst];refine yf (o:=oH) rfl hH.guard (v:=v') (w':=W') (by simp [execOp,hH.op];rfl) ?_;rw [hH.dst];refine wp_ret ?_;refine fin _ W' v' [] rfl rfl ?_;have rR:W.heap.size<=W'.heap.size:=ac6 hg1.size xV.size;have hold: ∀b,b<W.heap.size->W'.heap[b]? =W.heap[b]? :=by intro b hb;rw [xV.qA b (agK hb hg1.size) (by simp [ada];omega)];exact hg1.qA b hb
  refine ⟨φ,⟨.refl _,λb _ hb=>hold b hb,λ_ _ _=>rfl,rR,hg1.rest.trans xV.rest⟩,?_,?_⟩
  ·intro b o u hbo;have h1:=mn b o u hbo;rw [acZ (hold b (abz W _ h1))];exact h1
  ·show cT c (bI.plain Z) (oO c.key φ) W' v' ⟨c.nT (c.key f),false,xs⟩;rw [Oz];refine ⟨E,news,tG,wi,by simpa using xV.own,Ag.els,λbt hb=> ?_⟩;have lT:W.heap.size<=bt:=by
    rcases xV.place with h1|h1
    ·rw [h1] at hb;simp [ada] at hb;omega
    ·rw [h1] at hb;cases hb;exact hg1.size
   refine ⟨hz bt lT,λoff u hu=> ?_,λhc=>hc.elim⟩;have:=abz W _ (mn _ _ _ hu);have:bt<W.heap.size:=this;omega
end
end Dn
/-
  Tables of functions. Conditions: none.
-/
namespace Dn
open Go
structure dL (P:Program) (c:Ctx) (g:Nat->List MV->Option MV):Prop where
 all: ∀f ms r,g (c.key f) ms=some r->j8 P c f ms r
abbrev bN (n:Nat)(F:List MV->Option MV)(g:Nat->List MV->Option MV):Nat->List MV->Option MV:=λk ms=>match abG k n with|true=>F ms|false=>g k ms
theorem dL.add {P:Program}{c:Ctx}{g:Nat->List MV->Option MV}{n:Nat}{F:List MV->Option MV}(h:dL P c g)(hF: ∀f ms r,c.key f=n->F ms=some r->j8 P c f ms r):dL P c (bN n F g):=by
 refine ⟨λf ms r hr=> ?_⟩;unfold bN at hr;cases hk:abG (c.key f) n with
 |true=>simp only [hk] at hr;exact hF f ms r (AI hk) hr
 |false=>simp only [hk] at hr;exact h.all f ms r hr
structure Ap (c c':Ctx):Prop where
 ti:c'.ti=c.ti
 key:c'.key=c.key
 fF:c'.fF=c.fF
 fresh:c'.fresh=c.fresh
 nT:c'.nT=c.nT
 fk:c'.fk=c.fk
 mt:c'.mt=c.mt
 sig:c'.sig=c.sig
 Wc:c'.Wc=c.Wc
theorem cT.lv {c c':Ctx}(h:c'.ti=c.ti){Z:bI}{e:Env}{w:World}{v:Value}{o:pn}(hs:cT c Z e w v o):cT c' Z e w v o:=by obtain ⟨I,cells,h1,h2⟩:=hs.row;exact ⟨I,cells,by rw [h];exact h1,h2⟩
theorem iG.lv {c c':Ctx}(h:Ap c c'){Z:Nat->Prop} {φ:Ph}{w:World}{k:Nat}{v:Value}{r:MV}(hs:iG c Z φ w k v r):iG c' Z φ w k v r:=by
 cases r<;>simp only [iG,h.key,h.nT] at hs⊢ <;>first|exact hs|exact hs.lv h.ti|skip
 rename_i ms;cases ms with
 |nil=>simp only [Lo,h.key] at hs⊢;exact hs
 |cons m r=>
  cases m<;>simp only [Lo,h.key,h.nT] at hs⊢ <;>first|exact hs|skip
  obtain ⟨v0,us,h1,h2,h3⟩:=hs;exact ⟨v0,us,h1,h2.lv h.ti,h3⟩
theorem gz.lv {c c':Ctx}(h:Ap c c'){Z:Nat->Prop} {φ:Ph}{w:World}{bt:Nat}{ks:List LK}{ls:List MV}(hs:gz c Z φ w bt ks ls):gz c' Z φ w bt ks ls:=by obtain ⟨cs,m,E,arr,T,h1,h2,h3,h4,h5,h6,h7⟩:=hs;refine ⟨cs,m,E,arr,T,h1,h2,h3,h4,by rw [h.key];exact h5,λf o ho=>⟨?_,(h6 f o ho).2⟩,h7⟩;rw [h.key];exact (h6 f o ho).1.lv h.ti
theorem vq.lv {c c':Ctx}(h:Ap c c'){Z:Nat->Prop} {φ:Ph}{w:World}{k:Nat}{vs:List Value}{v:Value}{r:MV}(hs:vq c Z φ w k vs v r):vq c' Z φ w k vs v r:=by
 cases r<;>simp only [vq] at hs⊢ <;>first|exact hs.lv h|skip
 obtain ⟨h1,pos,ks,bt,off,h2,h3,h4⟩:=hs;exact ⟨h1.lv h,pos,ks,bt,off,by rw [h.sig];exact h2,h3,h4.lv h⟩
theorem fJ.lv {c c':Ctx}(h:Ap c c'){Z:Nat->Prop} {φ:Ph}{w:World}{k:Nat}{vs:List Value}{ms:List MV}(hs:fJ c' Z φ w k vs ms):fJ c Z φ w k vs ms:=by
 unfold fJ at hs⊢;rw [h.fF] at hs;split
 ·rename_i hg;rw [if_pos hg] at hs;rcases hs with ⟨v0,v1,v2,xs,m1,ys,h1,h2,h3,h4,h5,h6⟩|⟨v0,v1,v2,xs,m1,m2,h1,h2,h3,h4,h5,h6⟩|⟨pos,ks,off,ls,bt,h1,h2,h3,h4,h5⟩
  ·rw [h.key,h.nT] at h3 h5;rw [h.key] at h4;exact .inl ⟨v0,v1,v2,xs,m1,ys,h1,h2,h3.lv h.ti.symm,h4,h5.lv h.ti.symm,h6⟩
  ·rw [h.key,h.nT] at h4;rw [h.key] at h5 h6;exact .inr (.inl ⟨v0,v1,v2,xs,m1,m2,h1,h2,h3,h4.lv h.ti.symm,h5,h6⟩)
  ·refine .inr (.inr ⟨pos,ks,off,ls,bt,by rw [<-h.sig];exact h1,h2,h3,by rw [<-h.key];exact h4,?_⟩);obtain ⟨cs,m,E,arr,T,k1,k2,k3,k4,k5,k6,k7⟩:=h5;refine ⟨cs,m,E,arr,T,k1,k2,k3,k4,by rw [<-h.key];exact k5,λf o ho=>⟨?_,(k6 f o ho).2⟩,k7⟩;rw [<-h.key];exact (k6 f o ho).1.lv h.ti.symm
 ·rename_i hg;rw [if_neg hg,h.key] at hs;exact hs
theorem dQ.mono {P:Program}{f:FuncId}{args:Array Value}{w:World} {R R':Value->World->Prop}(hc:dQ P f args w R)(h: ∀v w',R v w'->R' v w'):dQ P f args w R':=by
 unfold dQ at hc⊢;split
 ·rename_i j6;rw [j6] at hc;exact Calls.mono hc (λx Bp ⟨v,e,hr⟩=>⟨v,e,h v Bp hr⟩)
 ·rename_i j6;rw [j6] at hc;exact h _ _ hc
 ·rename_i h1 h2;split at hc
  ·rename_i j6;exact absurd j6 (h1 _ _ _)
  ·rename_i j6;exact absurd j6 (h2 _ _)
  ·exact hc
theorem j8.lv {P:Program} {c c':Ctx}{f:Nat}{ms:List MV}{r:MV}(h:Ap c c')(hs:j8 P c f ms r):j8 P c' f ms r:=by intro φ w Z vs hz ha hi;rw [h.key] at ha;refine (hs φ w Z vs hz (ha.lv h) hi).mono ?_;rintro v w' ⟨φ',h1,h2,h3⟩;rw [h.key];exact ⟨φ',h1,h2,h3.lv h⟩
theorem Ap.symm {c c':Ctx}(h:Ap c c'):Ap c' c:=⟨h.ti.symm,h.key.symm,h.fF.symm,h.fresh.symm,h.nT.symm,h.fk.symm,h.mt.symm,h.sig.symm,h.Wc.symm⟩
theorem I8.lv {P:Program} {c c':Ctx}(h:Ap c c'){g:Nat}{lb:Array Value}{S:Type}{Inv:S->(Nat->Prop)->Ph->World->Prop}{step:S->MV->Option (Bool×S)}(hp:I8 P c' g lb Inv step):I8 P c g lb Inv step:=⟨λh1 h2 h3 h4 h5=>hp.call h1 h2 h3 (by rw [h.key];exact h4) h5,hp.frame,hp.mono⟩
theorem sF.lv {P:Program} {c c':Ctx}(h:Ap c c')(hd:sF P c):sF P c':=by intro f hf;rw [h.Wc] at hf;have hx:=hd f hf;refine ⟨?_⟩;intro S Inv step g lb hp v0 xs ys w Z0 φ0 s0 s' h1 h2 h3 h4 h5 h6 h7;rw [h.key,h.nT] at h2;refine (hx.run (hp.lv h) h1 (h2.lv h.ti.symm) h3 h4 h5 h6 h7).mono ?_;rintro v W ⟨Z,φ,hW,hF,hb⟩;refine ⟨Z,φ,⟨hW.inv,hW.new,hW.sub,hW.kP,hW.tr,hW.free⟩,?_,hb⟩;rw [h.key,h.nT];exact hF.lv h.ti
def Co (c:Ctx)(n:Nat)(fn:Func)(dJ:List (List Kd)):Bool:=
 !(fn.name== "runtime.NumGoroutine")&&abG c.n fn.ntmps&&af1 (fn.params.size+dJ.length) fn.ntmps&&!c.fF n
def C1 (c:Ctx)(n:Nat)(fn:Func):Option Nat->Bool
 |none=>true
 |some ty=>abG ty (c.nT n)&&(af1 1 fn.results.toList.length&&(match c.tv ty with|some _=>true|none=>false))
theorem MF {c:Ctx}{n:Nat}{fn:Func}{fresh:Option Nat}(h:C1 c n fn fresh=true): ∀ty,fresh=some ty->ty=c.nT n/\1<=fn.results.toList.length/\ ∃I,c.tv ty=some I:=by
 rintro ty rfl;simp only [C1,cV] at h;obtain ⟨h1,h2,h3⟩:=h;refine ⟨AI h1,acV h2,?_⟩;cases hc:c.tv ty with
 |none=>rw [hc] at h3;cases h3
 |some I=>exact ⟨I,rfl⟩
theorem dL.body {P:Program} {c c':Ctx}{g:Nat->List MV->Option MV}{n:Nat}{fn:Func}{dJ:List (List Kd)}(h:dL P c g)(hl:Ap c c')(YJ:c'.g=g)(nV:kq P c.ti)(j6:NU P c.ti)(Ij: ∀t k,c.fk t=some k->P.underlying t=some (.float k))(PL:xZ P c)(Hr:P.follows .mixedOrders=true)(DV:sF P c)(hf:P.funcs[n]? =some fn)(hh:Co c' n fn dJ=true)(xY: ∀f,c.key f=f){fresh:Option Nat}(Fi:C1 c' n fn fresh=true):dL P c (bN n (Md c' dJ fresh fn) g):=by
 have hG:Good P c':=by
  refine ⟨by rw [hl.ti];exact nV,by rw [hl.ti];exact j6,λf ms r hr=> ?_,by rw [hl.fk];exact Ij,λt s hs=>PL t s ?_⟩
  ·rw [YJ,hl.key] at hr;exact (h.all f ms r hr).lv hl
  ·rw [<-hs];unfold we Ctx.tv;rw [hl.mt,hl.ti]
 refine h.add (λf ms r hk hr=> ?_);rw [xY] at hk;subst hk;simp only [Co,cV,aau] at hh;obtain ⟨⟨⟨h1,h2⟩,h3⟩,h4⟩:=hh;exact (adV hG (Jc hG Hr (DV.lv hl)) hf h1 (AI h2) (acV h3) (by rw [hl.key,xY];exact h4) (by rw [hl.key,xY];exact MF Fi) hr).lv hl.symm
def MG (c:Ctx)(n:Nat)(fn:Func)(dJ:List (List Kd)):Bool:=
 !(fn.name== "runtime.NumGoroutine")&&abG c.n fn.ntmps&&af1 fn.ntmps 1000000&&af1 (fn.params.size+dJ.length) fn.ntmps&&c.fF n
theorem dL.fnC {P:Program}{c:Ctx}{g:Nat->List MV->Option MV}{n pos:Nat}{ks:List LK}{fn:Func}{dJ:List (List Kd)}{F:List MV->Option MV}(h:dL P c g)(nV:kq P c.ti)(j6:NU P c.ti)(Ij: ∀t k,c.fk t=some k->P.underlying t=some (.float k))(PL:xZ P c)(Hr:P.follows .mixedOrders=true)(DV:sF P c)(hf:P.funcs[n]? =some fn)(Hq:c.sig n=some (pos,ks))(xY: ∀f,c.key f=f)(hF: ∀{ms r},F ms=some r-> ∃c':Ctx,Ap c c'/\c'.g=g/\MG c' n fn dJ=true/\zZ c' dJ pos ks fn ms=some r):dL P c (bN n F g):=by
 refine h.add (λf ms r hk hr=> ?_);rw [xY] at hk;subst hk;obtain ⟨c',hl,YJ,hh,hr⟩:=hF hr;have hG:Good P c':=by
  refine ⟨by rw [hl.ti];exact nV,by rw [hl.ti];exact j6,λf ms r hr=> ?_,by rw [hl.fk];exact Ij,λt s hs=>PL t s ?_⟩
  ·rw [YJ,hl.key] at hr;exact (h.all f ms r hr).lv hl
  ·rw [<-hs];unfold we Ctx.tv;rw [hl.mt,hl.ti]
 simp only [MG,cV,aau] at hh;obtain ⟨⟨⟨⟨h1,h2⟩,NW⟩,h3⟩,h4⟩:=hh;exact (aay hG (Jc hG Hr (DV.lv hl)) hf h1 (AI h2) (acV NW) (acV h3) (by rw [hl.key,xY];exact h4) (by rw [hl.sig,hl.key,xY];exact Hq) hr).lv hl.symm
end Dn
/-
  Steps through a function of the library by hand. Conditions: none.
-/
namespace Dn
open Go
def Aq (σ:Nat->Value)(d:Nat)(v:Value):Nat->Value:=λt=>bif abG t d then v else σ t
def ev (σ:Nat->Value):Operand->Value
 | .tmp t=>σ t
 | .const v=>v
 | .global g=> .pointer (some ⟨g,0,none⟩)
 | .func f=> .func (.func f) #[] #[]
structure Tm (a:Act) (n:Nat) (σ:Nat->Value):Prop where
 defers:a.defers=[]
 size:a.tmps.size=n
 get: ∀t,a.tmps.getD t undef=σ t
theorem Tm.eval {a:Act}{n:Nat} {σ:Nat->Value}(h:Tm a n σ):a.eval=ev σ:=by
 funext x;cases x with
 |tmp t=>exact h.get t
 |_=>rfl
theorem Tm.put {a:Act}{n:Nat} {σ:Nat->Value}(h:Tm a n σ){d:Nat}(hd:d<n)(v:Value):Tm (a.put (some d) v) n (Aq σ d v):=by
 refine ⟨h.defers,by simp [Act.put,h.size],λt=> ?_⟩;show (a.tmps.setIfInBounds d v).getD t undef=bif abG t d then v else σ t;by_cases ht:t=d
 ·subst ht;have:t<a.tmps.size:=by rw [h.size];exact hd
  simp [this]
 ·have hb:abG t d=false:=by
   cases hq:abG t d with
   |false=>rfl
   |true=>exact absurd (AI hq) ht
  rw [hb];have:=h.get t;simp only [ac1,Array.getElem?_setIfInBounds_ne (aio ht),cond_false] at this⊢;exact this
theorem tm3 (v0 v1 v2:Value)(k:Nat):Tm {tmps:= #[v0,v1,v2]++No k undef,defers:=[]} (k+3) (Aq (Aq (Aq (λ_=>undef) 0 v0) 1 v1) 2 v2):=by
 refine ⟨rfl,by simp [af6],λq=> ?_⟩;by_cases h0:q=0
 ·subst h0;show (#[v0,v1,v2]++No k undef).getD 0 undef=v0;simp [acv]
 by_cases h1:q=1
 ·subst h1;show (#[v0,v1,v2]++No k undef).getD 1 undef=v1;simp [acv]
 by_cases h2:q=2
 ·subst h2;show (#[v0,v1,v2]++No k undef).getD 2 undef=v2;simp [acv]
 have e: ∀{x y:Nat},x≠y->abG x y=false:=λ{x y} h=>by
  cases hq:abG x y with
  |false=>rfl
  |true=>exact absurd (AI hq) h
 simp only [Aq,e h0,e h1,e h2,cond_false];have h3:3<=q:=by omega
 simp [acv,afS,show¬q<3 by omega];by_cases hk:q-3<k<;>simp [hk]
section
variable {P:Program}{Q:Exit->Act->World->Prop}{ops:Array Oper}{o:Oper}{a:Act} {w w':World}{n:Nat} {σ:Nat->Value}
theorem Tm.step {i d:Nat}{op:Op}{rest:List Nat}{v:Value}(aN:Tm a n σ)(hi:ops[i]? =some o)(ho:az o d op)(hd:d<n)(cr:(execOp (ev σ) o).run P w= .ok (.value v) w')(h: ∀a',Tm a' n (Aq σ d v)->wpOps P ops Q rest a' w'):wpOps P ops Q (i::rest) a w:=by refine yf hi ho.guard (v:=v) (w':=w') (by rw [aN.eval];exact cr) ?_;rw [ho.dst];exact h _ (aN.put hd v)
theorem bF {d:Nat}{x:Operand}{e:Operand->Value}(ho:az o d (.move x))(w:World):(execOp e o).run P w= .ok (.value (e x)) w:=by simp [execOp,ho.op]
theorem jt {d:Nat}{x:Operand}{e:Operand->Value}(ho:az o d (.assign x))(w:World):(execOp e o).run P w= .ok (.value (e x)) w:=by simp [execOp,ho.op]
theorem vG {d:Nat}{t el:TypeId}{x:Operand}{e:Operand->Value}{ad:Option Addr}{m c:Nat}(ho:az o d (.call {callee:= .builtin .len,args:= #[x],argTypes:= #[t]})) (hu:P.underlying t=some (.slice el)) (hx:e x= .slice ad m c) (w:World): (execOp e o).run P w= .ok (.value (.int .i64 m)) w:=by simp [execOp,ho.op,resolve,invoke,builtin,hx,Builtin.len_,goInt,run_underlying hu]
theorem Vp {d:Nat}{t el:TypeId}{x:Operand}{e:Operand->Value}{ad:Option Addr}{m c:Nat}(ho:az o d (.call {callee:= .builtin .cap,args:= #[x],argTypes:= #[t]})) (hu:P.underlying t=some (.slice el)) (hx:e x= .slice ad m c) (w:World): (execOp e o).run P w= .ok (.value (.int .i64 c)) w:=by simp [execOp,ho.op,resolve,invoke,builtin,hx,Builtin.cap_,goInt,run_underlying hu]
theorem xc {d:Nat}{op:BinOp} {t t':TypeId}{x y:Operand}{e:Operand->Value}{k:IntKind}{p q:Int}{v:Value}(ho:az o d (.binOp op t x y t'))(hx:e x= .int k p)(hy:e y= .int k q)(hv: ∀w:World,(afy op t (.int k p) (.int k q)).run P w= .ok v w)(w:World):(execOp e o).run P w= .ok (.value v) w:=by
 have hg:(eqGuard op t x y (.int k p) (.int k q)).run P w= .ok () w:=by cases op<;>rfl
 simp [execOp,ho.op,hx,hy,hg,hv]
theorem BC {d:Nat} {t t':TypeId}{x y:Operand}{e:Operand->Value}{p q:Int}(ho:az o d (.binOp .eql t x y t'))(hx:e x= .int .i64 p)(hy:e y= .int .i64 q)(w:World): (execOp e o).run P w= .ok (.value (.bool (decide (p=q)))) w:=xc ho hx hy (λw=>by simp [afy,aic];rfl) w
theorem Jd {d:Nat} {t t':TypeId}{x y:Operand}{e:Operand->Value}{p q:Int}(ho:az o d (.binOp .gtr t x y t'))(hx:e x= .int .i64 p)(hy:e y= .int .i64 q)(w:World): (execOp e o).run P w= .ok (.value (.bool (decide (q<p)))) w:=xc ho hx hy (λw=>by simp [afy,aic]) w
theorem rW {d:Nat} {t t':TypeId}{x y:Operand}{e:Operand->Value}{p q:Nat}(ho:az o d (.binOp .add t x y t'))(hx:e x= .int .i64 p)(hy:e y= .int .i64 q)(hl:p+q<2^63)(w:World): (execOp e o).run P w= .ok (.value (.int .i64 ((p+q:Nat):Int))) w:=xc ho hx hy (λw=>by
  have:IntKind.i64.wrap ((p:Int)+(q:Int))=((p+q:Nat):Int):=by rw [ahq];omega
  simp [afy,ahD,this]) w
theorem aaI {d:Nat} {t t':TypeId}{x y:Operand}{e:Operand->Value}{p q:Nat}(ho:az o d (.binOp .sub t x y t'))(hx:e x= .int .i64 p)(hy:e y= .int .i64 q)(hl:p<2^63)(hq:q<=p)(w:World): (execOp e o).run P w= .ok (.value (.int .i64 ((p-q:Nat):Int))) w:=xc ho hx hy (λw=>by
  have:IntKind.i64.wrap ((p:Int)-(q:Int))=((p-q:Nat):Int):=by rw [ahq];omega
  simp [afy,ahD,this]) w
theorem OA {d:Nat}{t:TypeId}{x:Operand}{e:Operand->Value}{b:Bool}(ho:az o d (.unOp .not t x))(hx:e x= .bool b)(w:World): (execOp e o).run P w= .ok (.value (.bool (!b))) w:=by simp [execOp,ho.op,hx,Op.unary]
theorem DW {d:Nat}{t el:TypeId}{x y:Operand}{e:Operand->Value}{ad:Option Addr}{m c l size:Nat}{i:TypeInfo}(ho:az o d (.slice t x (some y) none none))(hu:P.underlying t=some (.slice el))(hi:P.info? el=some i)(hs:i.size=size)(hx:e x= .slice ad m c)(hy:e y= .int .i64 l)(hl:l<=m)(w:World):(execOp e o).run P w= .ok (.value (.slice (if c=l then ad else ad.map (·.add (l *size))) (m-l) (c-l))) w:=by simp [execOp,ho.op,ah5,aiu,run_underlying hu,hx,hy,aeT,typeInfo,hi,hs,ahi,aht,asIntOf,hl]
theorem QK {d:Nat}{t el:TypeId}{x y:Operand}{e:Operand->Value}{ad:Option Addr}{m c l size:Nat}{i:TypeInfo}(ho:az o d (.slice t x none (some y) none))(hu:P.underlying t=some (.slice el))(hi:P.info? el=some i)(hs:i.size=size)(hx:e x= .slice ad m c)(hy:e y= .int .i64 l)(hl:l<=c)(w:World):(execOp e o).run P w= .ok (.value (.slice ad l c)) w:=by
 have h0: ∀q:Addr,q.add 0=q:=λq=>by obtain ⟨b,o,s⟩:=q;cases s<;>simp [Addr.add]
 have:(if c=0 then ad else ad.map (·.add (0 *size)))=ad:=by cases ad<;>simp [h0]
 simp [execOp,ho.op,ah5,aiu,run_underlying hu,hx,hy,aeT,typeInfo,hi,hs,ahi,aht,asIntOf,hl];cases ad<;>simp [h0]
theorem qP {d:Nat}{t el:TypeId}{x y:Operand}{e:Operand->Value}{g m c l size:Nat}{i:TypeInfo}(ho:az o d (.slice t x (some y) none none))(hu:P.underlying t=some (.slice el))(hi:P.info? el=some i)(hs:i.size=size)(hx:e x= .slice (some ⟨g,0,none⟩) m c)(hy:e y= .int .i64 l)(hl:l<=m)(hc:l<c)(w:World):(execOp e o).run P w= .ok (.value (.slice (some ⟨g,l *size,none⟩) (m-l) (c-l))) w:=by
 rw [DW ho hu hi hs hx hy hl w];have: ¬c=l:=by omega
 have h0:(⟨g,0,none⟩:Addr).add (l *size)=⟨g,l *size,none⟩:=by have:=adM g 0 (l *size);rwa [ads] at this
 simp [this,h0]
theorem ad7 {d:Nat}{x y:Operand}{t1 t2:TypeId}{f:FuncId}{e:Operand->Value}{v1 v2 v:Value}(ho:az o d (.call {callee:= .value (.func f),args:= #[x,y],argTypes:= #[t1,t2]})) (he:e (.func f)= .func (.func f) #[] #[]) (hx:e x=v1) (hy:e y=v2) (h:(callFunc f #[v1,v2]).run P w= .ok (.value v) w'):(execOp e o).run P w= .ok (.value v) w':=by simp [execOp,ho.op,resolve,invoke,builtin,he,hx,hy,adN,h]
theorem QL {d:Nat}{x y:Operand}{t1 t2:TypeId}{e:Operand->Value}{v1 v2 v:Value}(ho:az o d (.call {callee:= .builtin .append,args:= #[x,y],argTypes:= #[t1,t2]})) (hx:e x=v1) (hy:e y=v2) (h:(ad9 #[t1,t2] o.type #[v1,v2]).run P w= .ok v w'):(execOp e o).run P w= .ok (.value v) w':=by simp [execOp,ho.op,resolve,invoke,builtin,hx,hy,h]
theorem DX {d:Nat}{x y:Operand}{t1 t2:TypeId}{e:Operand->Value}{v1 v2 v:Value}(ho:az o d (.call {callee:= .builtin .copy,args:= #[x,y],argTypes:= #[t1,t2]})) (hx:e x=v1) (hy:e y=v2) (h:(ac3 #[t1,t2] o.type #[v1,v2]).run P w= .ok v w'):(execOp e o).run P w= .ok (.value v) w':=by simp [execOp,ho.op,resolve,invoke,builtin,hx,hy,h]
theorem rn {dT sT ty elem t:TypeId}{g o ad8 ahU qM zq size k:Nat}{a:Addr}{fI:Array Value}{cs:List Value}{i:TypeInfo}(hu:P.underlying dT=some (.slice elem))(hi:P.info? elem=some i)(hs:i.size=size)(hg:w.heap[g]? =some (.cells fI t (0,0)))(hk:Nat.min qM ad8=k)(hn:cs.length=k *size)(Ag: ∀(j:Nat) v,cs[j]? =some v->w.cell? (a.add j)=some v)(Il:o+cs.length<=fI.size)(h1: ∀v∈cs,v.oneCell'=true): (ac3 #[dT,sT] ty #[.slice (some ⟨g,o,none⟩) ad8 ahU,.slice (some a) qM zq]).run P w= .ok (goInt k) (w.setRow g (fI.toList.take o++cs++fI.toList.drop (o+cs.length)).toArray):=by have hl:=run_loadCells_list (P:=P) w a cs Ag;have iF:=run_storeCells_at P g o t cs 0 fI w hg (by simpa using Il) h1;simp only [Nat.add_zero] at iF;simp [ac3,run_underlying hu,Builtin.lenOf,agL,aeT,typeInfo,hi,hs,hk,<-hn,hl,iF]
def QM (ops:Array Oper):Nat->Nat->Array Bool->Bool
 |0,i,listed=>(IT .any ops (listed.setIfInBounds i true)).isEmpty&&(IT .any ops listed==[i])
 |k+1,i,listed=>Region.free .any ops listed i&&(IT .any ops listed).contains i&&QM ops k (i+1) (listed.setIfInBounds i true)
def Vq (ops:Array Oper):Bool:=age ops&&Nat.blt 0 ops.size&&QM ops (ops.size-1) 0 (No ops.size false)
structure Vr (ops:Array Oper) (k i:Nat) (listed:Array Bool):Prop where
 sel:age ops=true
 ord:QM ops k i listed=true
theorem Tm.draw {N:Act->World->Prop}{i d:Nat}{op:Op}{k:Nat}{listed:Array Bool}{v:Value}(aN:Tm a n σ)(hi:ops[i]? =some o)(ho:az o d op)(hd:d<n)(hb:Vr ops (k+1) i listed)(cr: ∀w,(execOp (ev σ) o).run P w= .ok (.value v) w)(h: ∀a',Tm a' n (Aq σ d v)->Vr ops k (i+1) (listed.setIfInBounds i true)->wpAny P .any ops (tc N) (k+1) (listed.setIfInBounds i true) a' w):wpAny P .any ops (tc N) (k+2) listed a w:=by obtain ⟨hs,hb⟩:=hb;simp only [QM,cV] at hb;obtain ⟨⟨h1,h2⟩,h3⟩:=hb;refine wpAny_take hi hs h1 h2 (λc a w hq=>hq.elim) (v:=v) (.inl ⟨by simp [aaK,ho.guard],λw=>by rw [aN.eval];exact cr w⟩) ?_;rw [ho.dst];exact h _ (aN.put hd v) ⟨hs,h3⟩
theorem Tm.last {N:Act->World->Prop}{i d:Nat}{op:Op}{listed:Array Bool}{v:Value}(aN:Tm a n σ)(hi:ops[i]? =some o)(ho:az o d op)(hd:d<n)(hb:Vr ops 0 i listed)(cr:(execOp (ev σ) o).run P w= .ok (.value v) w')(h: ∀a',Tm a' n (Aq σ d v)->N a' w'):wpAny P .any ops (tc N) 1 listed a w:=by obtain ⟨hs,hb⟩:=hb;simp only [QM,cV,List.isEmpty_iff,beq_iff_eq] at hb;obtain ⟨h1,h2⟩:=hb;refine wpAny_all h2 (by simp) ?_;intro j hj;simp only [List.mem_singleton] at hj;subst hj;unfold wpOp;simp only [hi,aaK,ho.guard,if_true];left;unfold ags;rw [aN.eval,cr,ahN,ho.dst];exact wpAny_done h1 (h _ (aN.put hd v)) 0
theorem Vs {id k:Nat}(hm:P.follows .mixedOrders=true)(hb:Vq ops=true)(hk:ops.size=k+1)(h:Vr ops k 0 (No (k+1) false)->wpAny P .any ops (tc λa w=>Q .normal a w) (k+1) (No (k+1) false) a {w with drawn:=w.drawn+1}): (ac7 id ops true).wp P Q a w:=by simp only [Vq,cV] at hb;rw [hk] at hb;refine aed ?_ (wp_region_any (Q:=tc λa w=>Q .normal a w) hm (by rw [hk];exact h ⟨hb.1.1,hb.2⟩));intro x a' w' hx;cases x<;>first|exact hx|exact hx.elim
theorem Tm.cond {x:Operand}{b:Bool}{A B:Code}(aN:Tm a n σ)(hx:ev σ x= .bool b)(h:(if b then A else B).wp P Q a w):(Code.cond x A B).wp P Q a w:=by refine wp_cond (t:=b) (by rw [aN.eval];exact hx) h
end
end Dn
/-
  slices.Insert of the library, walked. Printed by a program. Conditions: none.
-/
namespace Dn
open Go
def yg (r:Nat->Nat)(o:Nat->Oper)(tail:Code):Code:= .seq (.region (r 0) #[o 0] false) (.seq (.region (r 1) #[o 1,o 2,o 3] false) (.seq (.region (r 2) #[o 4,o 5,o 6] false) (.seq (.seq (.region (r 3) #[o 7,o 8] false) (.cond (.tmp 16) (.seq (.region (r 4) #[o 9,o 10] false) .ret) .skip)) (.seq (.region (r 5) #[o 11,o 12,o 13] false) (.seq (.seq (.region (r 6) #[o 14,o 15,o 16] false) (.cond (.tmp 22) (.seq (.region (r 7) #[o 17,o 18,o 19,o 20] false) .ret) .skip)) (.seq (.seq (.region (r 8) #[o 21,o 22,o 23,o 24,o 25,o 26] false) (.cond (.tmp 31) (.seq (.region (r 9) #[o 27,o 28,o 29,o 30,o 31,o 32,o 33,o 34,o 35,o 36] false) (.seq (.region (r 10) #[o 37,o 38,o 39,o 40,o 41] false) (.seq (.region (r 11) #[o 42,o 43,o 44,o 45,o 46,o 47,o 48,o 49,o 50] true) (.seq (.region (r 12) #[o 51,o 52] false) .ret)))) .skip)) (.seq (.region (r 13) #[o 53,o 54,o 55,o 56,o 57,o 58] false) (.seq (.seq (.region (r 14) #[o 59,o 60,o 61,o 62,o 63,o 64,o 65,o 66] false) (.cond (.tmp 68) (.seq (.region (r 15) #[o 67,o 68,o 69,o 70,o 71,o 72,o 73,o 74,o 75] true) (.seq (.region (r 16) #[o 76,o 77,o 78,o 79,o 80] false) (.seq (.region (r 17) #[o 81,o 82] false) .ret))) .skip)) tail))))))))
structure ahV (t ti tb fo:Nat) (o:Nat->Oper):Prop where
 h0:az (o 0) 6 (.assign (.const (.slice none 0 0)))
 h1:az (o 1) 10 (.move (.tmp 0))
 h2:az (o 2) 11 (.move (.tmp 1))
 h3:az (o 3) 12 (.slice t (.tmp 10) (some (.tmp 11)) none none)
 h4:az (o 4) 13 (.move (.tmp 2))
 h5:az (o 5) 14 (.call {callee:= .builtin .len,args:= #[.tmp 13],argTypes:= #[t]})
 h6:az (o 6) 7 (.assign (.tmp 14))
 h7:az (o 7) 15 (.move (.tmp 7))
 h8:az (o 8) 16 (.binOp .eql ti (.tmp 15) (.const (.int .i64 0)) ti)
 h9:az (o 9) 17 (.move (.tmp 0))
 Ot:az (o 10) 6 (.assign (.tmp 17))
 HO:az (o 11) 18 (.move (.tmp 0))
 TH:az (o 12) 19 (.call {callee:= .builtin .len,args:= #[.tmp 18],argTypes:= #[t]})
 TJ:az (o 13) 8 (.assign (.tmp 19))
 TM:az (o 14) 20 (.move (.tmp 1))
 TN:az (o 15) 21 (.move (.tmp 8))
 OB:az (o 16) 22 (.binOp .eql ti (.tmp 20) (.tmp 21) ti)
 Vt:az (o 17) 23 (.move (.tmp 0))
 Vu:az (o 18) 24 (.move (.tmp 2))
 h19:az (o 19) 25 (.call {callee:= .builtin .append,args:= #[.tmp 23,.tmp 24],argTypes:= #[t,t]})
 h20:az (o 20) 6 (.assign (.tmp 25))
 Vv:az (o 21) 26 (.move (.tmp 8))
 Vw:az (o 22) 27 (.move (.tmp 7))
 h23:az (o 23) 28 (.binOp .add ti (.tmp 26) (.tmp 27) ti)
 h24:az (o 24) 29 (.move (.tmp 0))
 h25:az (o 25) 30 (.call {callee:= .builtin .cap,args:= #[.tmp 29],argTypes:= #[t]})
 h26:az (o 26) 31 (.binOp .gtr ti (.tmp 28) (.tmp 30) ti)
 h27:az (o 27) 32 (.move (.tmp 0))
 h28:az (o 28) 33 (.move (.tmp 1))
 h29:az (o 29) 34 (.slice t (.tmp 32) none (some (.tmp 33)) none)
 h30:az (o 30) 35 (.move (.tmp 8))
 h31:az (o 31) 36 (.move (.tmp 7))
 h32:az (o 32) 37 (.binOp .add ti (.tmp 35) (.tmp 36) ti)
 h33:az (o 33) 38 (.move (.tmp 1))
 h34:az (o 34) 39 (.binOp .sub ti (.tmp 37) (.tmp 38) ti)
 h35:az (o 35) 40 (.call {callee:= .builtin .append,args:= #[.tmp 34,.tmp 39],argTypes:= #[t,ti]})
 h36:az (o 36) 9 (.assign (.tmp 40))
 h37:az (o 37) 41 (.move (.tmp 9))
 h38:az (o 38) 42 (.move (.tmp 1))
 h39:az (o 39) 43 (.slice t (.tmp 41) (some (.tmp 42)) none none)
 h40:az (o 40) 44 (.move (.tmp 2))
 h41:az (o 41) 45 (.call {callee:= .builtin .copy,args:= #[.tmp 43,.tmp 44],argTypes:= #[t,t]})
 h42:az (o 42) 46 (.move (.tmp 9))
 h43:az (o 43) 47 (.move (.tmp 1))
 h44:az (o 44) 48 (.move (.tmp 7))
 h45:az (o 45) 49 (.binOp .add ti (.tmp 47) (.tmp 48) ti)
 h46:az (o 46) 50 (.slice t (.tmp 46) (some (.tmp 49)) none none)
 h47:az (o 47) 51 (.move (.tmp 0))
 h48:az (o 48) 52 (.move (.tmp 1))
 h49:az (o 49) 53 (.slice t (.tmp 51) (some (.tmp 52)) none none)
 h50:az (o 50) 54 (.call {callee:= .builtin .copy,args:= #[.tmp 50,.tmp 53],argTypes:= #[t,t]})
 h51:az (o 51) 55 (.move (.tmp 9))
 h52:az (o 52) 6 (.assign (.tmp 55))
 h53:az (o 53) 56 (.move (.tmp 0))
 h54:az (o 54) 57 (.move (.tmp 8))
 h55:az (o 55) 58 (.move (.tmp 7))
 h56:az (o 56) 59 (.binOp .add ti (.tmp 57) (.tmp 58) ti)
 h57:az (o 57) 60 (.slice t (.tmp 56) none (some (.tmp 59)) none)
 h58:az (o 58) 0 (.assign (.tmp 60))
 h59:az (o 59) 61 (.move (.tmp 2))
 h60:az (o 60) 62 (.move (.tmp 0))
 h61:az (o 61) 63 (.move (.tmp 1))
 h62:az (o 62) 64 (.move (.tmp 7))
 h63:az (o 63) 65 (.binOp .add ti (.tmp 63) (.tmp 64) ti)
 h64:az (o 64) 66 (.slice t (.tmp 62) (some (.tmp 65)) none none)
 h65:az (o 65) 67 (.call {callee:= .value (.func fo),args:= #[.tmp 61,.tmp 66],argTypes:= #[t,t]})
 h66:az (o 66) 68 (.unOp .not tb (.tmp 67))
 h67:az (o 67) 69 (.move (.tmp 0))
 h68:az (o 68) 70 (.move (.tmp 1))
 h69:az (o 69) 71 (.move (.tmp 7))
 h70:az (o 70) 72 (.binOp .add ti (.tmp 70) (.tmp 71) ti)
 h71:az (o 71) 73 (.slice t (.tmp 69) (some (.tmp 72)) none none)
 h72:az (o 72) 74 (.move (.tmp 0))
 h73:az (o 73) 75 (.move (.tmp 1))
 h74:az (o 74) 76 (.slice t (.tmp 74) (some (.tmp 75)) none none)
 h75:az (o 75) 77 (.call {callee:= .builtin .copy,args:= #[.tmp 73,.tmp 76],argTypes:= #[t,t]})
 h76:az (o 76) 78 (.move (.tmp 0))
 h77:az (o 77) 79 (.move (.tmp 1))
 h78:az (o 78) 80 (.slice t (.tmp 78) (some (.tmp 79)) none none)
 h79:az (o 79) 81 (.move (.tmp 2))
 h80:az (o 80) 82 (.call {callee:= .builtin .copy,args:= #[.tmp 80,.tmp 81],argTypes:= #[t,t]})
 h81:az (o 81) 83 (.move (.tmp 0))
 h82:az (o 82) 6 (.assign (.tmp 83))
 d11:Vq #[o 42,o 43,o 44,o 45,o 46,o 47,o 48,o 49,o 50]=true
 d15:Vq #[o 67,o 68,o 69,o 70,o 71,o 72,o 73,o 74,o 75]=true
structure MH (P:Program) (f t ti tb el fo:Nat) (fn:Func) (r:Nat->Nat) (o:Nat->Oper) (tail:Code):Prop where
 pos:P.funcs[f]? =some fn
 name:(fn.name== "runtime.NumGoroutine")=false
 tmps:fn.ntmps=95
 res:fn.results= #[.tmp 6]
 body:fn.body=some (yg r o tail)
 ops:ahV t ti tb fo o
 mix:P.follows .mixedOrders=true
 Je:P.underlying t=some (.slice el)
section
variable {P:Program}{f t ti tb el fo:Nat}{fn:Func}{r:Nat->Nat}{o:Nat->Oper}{tail:Code}{ie:TypeInfo}{size n m c c2 i g g2:Nat}{ad:Option Addr}{w:World}
theorem OC {a:Act}{w:World} {σ:Nat->Value}{R:Ending->World->Prop}{v:Value}(hr:fn.results= #[.tmp 6])(aN:Tm a 95 σ)(h6:σ 6=v)(h:R (.returned v) w):bodyPost P fn R .ret a w:=by
 refine ⟨aN.defers,v,?_,h⟩;have h2:a.tmps[6]?.getD undef=v:=by have:=aN.get 6;rw [h6] at this;simpa using this
 simp [results,hr,h2]
theorem aeh (hf:MH P f t ti tb el fo fn r o tail)(HP:P.info? el=some ie)(Hs:ie.size=size)(hm:0<m)(hn:n<=c)(hc:c<2^63)(hnm:n+m<2^63)(hi:i=n){v:Value}{w1:World}(cr: ∀ty,(ad9 #[t,t] ty #[.slice ad n c,.slice (some ⟨g2,0,none⟩) m c2]).run P w= .ok v w1) :Calls P f #[.slice ad n c,.int .i64 ((i:Nat):Int),.slice (some ⟨g2,0,none⟩) m c2] w λx w'=>x= .returned v/\w'=w1:=by
 refine calls_of_wp hf.pos hf.body ?_;rw [hf.tmps];have key: ∀a:Act,Tm a 95 (Aq (Aq (Aq (λ_=>undef) 0 (.slice ad n c)) 1 (.int .i64 ((i:Nat):Int))) 2 (.slice (some ⟨g2,0,none⟩) m c2))->(yg r o tail).wp P (bodyPost P fn λx w'=>x= .returned v/\w'=w1) a w:=by intro a aN;unfold yg;refine wp_seq (wp_region ?_);rw [show BY (#[o 0]:Array Oper).size=[0] from rfl];refine aN.step (v:= .slice none 0 0) rfl hf.ops.h0 (by decide) (jt hf.ops.h0 _) (λa aN=> ?_);refine wp_seq (wp_region ?_);rw [show BY (#[o 1,o 2,o 3]:Array Oper).size=[0,1,2] from rfl];refine aN.step (v:= .slice ad n c) rfl hf.ops.h1 (by decide) (bF hf.ops.h1 _) (λa aN=> ?_);refine aN.step (v:= .int .i64 ((i:Nat):Int)) rfl hf.ops.h2 (by decide) (bF hf.ops.h2 _) (λa aN=> ?_);refine aN.step (v:= .slice (if c=i then ad else (ad:Option Addr).map (·.add (i *size))) (n-i) (c-i)) rfl hf.ops.h3 (by decide) (DW hf.ops.h3 hf.Je HP Hs rfl rfl (by omega) _) (λa aN=> ?_);refine wp_seq (wp_region ?_);rw [show BY (#[o 4,o 5,o 6]:Array Oper).size=[0,1,2] from rfl];refine aN.step (v:= .slice (some ⟨g2,0,none⟩) m c2) rfl hf.ops.h4 (by decide) (bF hf.ops.h4 _) (λa aN=> ?_);refine aN.step (v:= .int .i64 ((m:Nat):Int)) rfl hf.ops.h5 (by decide) (vG hf.ops.h5 hf.Je rfl _) (λa aN=> ?_);refine aN.step (v:= .int .i64 ((m:Nat):Int)) rfl hf.ops.h6 (by decide) (jt hf.ops.h6 _) (λa aN=> ?_);refine wp_seq ?_;refine wp_seq (wp_region ?_);rw [show BY (#[o 7,o 8]:Array Oper).size=[0,1] from rfl];refine aN.step (v:= .int .i64 ((m:Nat):Int)) rfl hf.ops.h7 (by decide) (bF hf.ops.h7 _) (λa aN=> ?_);refine aN.step (v:= .bool (decide (((m:Nat):Int)=((0:Nat):Int)))) rfl hf.ops.h8 (by decide) (BC hf.ops.h8 rfl rfl _) (λa aN=> ?_);refine aN.cond (b:=false) (by show acW (decide (((m:Nat):Int)=((0:Nat):Int)))=_;rw [decide_eq_false (by omega)]) ?_;simp only [OF,if_false];refine wp_skip ?_;refine wp_seq (wp_region ?_);rw [show BY (#[o 11,o 12,o 13]:Array Oper).size=[0,1,2] from rfl];refine aN.step (v:= .slice ad n c) rfl hf.ops.HO (by decide) (bF hf.ops.HO _) (λa aN=> ?_);refine aN.step (v:= .int .i64 ((n:Nat):Int)) rfl hf.ops.TH (by decide) (vG hf.ops.TH hf.Je rfl _) (λa aN=> ?_);refine aN.step (v:= .int .i64 ((n:Nat):Int)) rfl hf.ops.TJ (by decide) (jt hf.ops.TJ _) (λa aN=> ?_);refine wp_seq ?_;refine wp_seq (wp_region ?_);rw [show BY (#[o 14,o 15,o 16]:Array Oper).size=[0,1,2] from rfl];refine aN.step (v:= .int .i64 ((i:Nat):Int)) rfl hf.ops.TM (by decide) (bF hf.ops.TM _) (λa aN=> ?_);refine aN.step (v:= .int .i64 ((n:Nat):Int)) rfl hf.ops.TN (by decide) (bF hf.ops.TN _) (λa aN=> ?_);refine aN.step (v:= .bool (decide (((i:Nat):Int)=((n:Nat):Int)))) rfl hf.ops.OB (by decide) (BC hf.ops.OB rfl rfl _) (λa aN=> ?_);refine aN.cond (b:=true) (by show acW (decide (((i:Nat):Int)=((n:Nat):Int)))=_;rw [decide_eq_true (by omega)]) ?_;simp only [if_true];refine wp_seq (wp_region ?_);rw [show BY (#[o 17,o 18,o 19,o 20]:Array Oper).size=[0,1,2,3] from rfl];refine aN.step (v:= .slice ad n c) rfl hf.ops.Vt (by decide) (bF hf.ops.Vt _) (λa aN=> ?_);refine aN.step (v:= .slice (some ⟨g2,0,none⟩) m c2) rfl hf.ops.Vu (by decide) (bF hf.ops.Vu _) (λa aN=> ?_);refine aN.step (v:=v) rfl hf.ops.h19 (by decide) (QL hf.ops.h19 rfl rfl (cr _)) (λa aN=> ?_);refine aN.step (v:=v) rfl hf.ops.h20 (by decide) (jt hf.ops.h20 _) (λa aN=> ?_);refine wp_ret ?_;show bodyPost P fn (λx wq=>x= .returned (v)/\wq=w1) .ret a w1;refine OC hf.res aN (v:=v) rfl ?_;exact ⟨rfl,rfl⟩
 exact key _ (tm3 _ _ _ 92)
theorem aaL (hf:MH P f t ti tb el fo fn r o tail)(HP:P.info? el=some ie)(Hs:ie.size=size)(hm:0<m)(hn:n<=c)(hc:c<2^63)(hnm:n+m<2^63)(hi:i<n)(sO:c<n+m){g9 G:Nat}{v1 v2:Value}{w1 w2 w3:World}(hG:n+m<=G)(hA: ∀ty,(ad9 #[t,ti] ty #[.slice (some ⟨g,0,none⟩) i c,.int .i64 ((n+m-i:Nat):Int)]).run P w= .ok (.slice (some ⟨g9,0,none⟩) (n+m) G) w1)(hB: ∀ty,(ac3 #[t,t] ty #[.slice (some ⟨g9,i *size,none⟩) (n+m-i) (G-i),.slice (some ⟨g2,0,none⟩) m c2]).run P w1= .ok v1 w2)(hC: ∀ty,(ac3 #[t,t] ty #[.slice (some ⟨g9,(i+m) *size,none⟩) (n+m-(i+m)) (G-(i+m)),.slice (some ⟨g,i *size,none⟩) (n-i) (c-i)]).run P {w2 with drawn:=w2.drawn+1}= .ok v2 w3) :Calls P f #[.slice (some ⟨g,0,none⟩) n c,.int .i64 ((i:Nat):Int),.slice (some ⟨g2,0,none⟩) m c2] w λx w'=>x= .returned (.slice (some ⟨g9,0,none⟩) (n+m) G)/\w'=w3:=by
 refine calls_of_wp hf.pos hf.body ?_;rw [hf.tmps];have key: ∀a:Act,Tm a 95 (Aq (Aq (Aq (λ_=>undef) 0 (.slice (some ⟨g,0,none⟩) n c)) 1 (.int .i64 ((i:Nat):Int))) 2 (.slice (some ⟨g2,0,none⟩) m c2))->(yg r o tail).wp P (bodyPost P fn λx w'=>x= .returned (.slice (some ⟨g9,0,none⟩) (n+m) G)/\w'=w3) a w:=by intro a aN;unfold yg;refine wp_seq (wp_region ?_);rw [show BY (#[o 0]:Array Oper).size=[0] from rfl];refine aN.step (v:= .slice none 0 0) rfl hf.ops.h0 (by decide) (jt hf.ops.h0 _) (λa aN=> ?_);refine wp_seq (wp_region ?_);rw [show BY (#[o 1,o 2,o 3]:Array Oper).size=[0,1,2] from rfl];refine aN.step (v:= .slice (some ⟨g,0,none⟩) n c) rfl hf.ops.h1 (by decide) (bF hf.ops.h1 _) (λa aN=> ?_);refine aN.step (v:= .int .i64 ((i:Nat):Int)) rfl hf.ops.h2 (by decide) (bF hf.ops.h2 _) (λa aN=> ?_);refine aN.step (v:= .slice (if c=i then (some ⟨g,0,none⟩) else ((some ⟨g,0,none⟩):Option Addr).map (·.add (i *size))) (n-i) (c-i)) rfl hf.ops.h3 (by decide) (DW hf.ops.h3 hf.Je HP Hs rfl rfl (by omega) _) (λa aN=> ?_);refine wp_seq (wp_region ?_);rw [show BY (#[o 4,o 5,o 6]:Array Oper).size=[0,1,2] from rfl];refine aN.step (v:= .slice (some ⟨g2,0,none⟩) m c2) rfl hf.ops.h4 (by decide) (bF hf.ops.h4 _) (λa aN=> ?_);refine aN.step (v:= .int .i64 ((m:Nat):Int)) rfl hf.ops.h5 (by decide) (vG hf.ops.h5 hf.Je rfl _) (λa aN=> ?_);refine aN.step (v:= .int .i64 ((m:Nat):Int)) rfl hf.ops.h6 (by decide) (jt hf.ops.h6 _) (λa aN=> ?_);refine wp_seq ?_;refine wp_seq (wp_region ?_);rw [show BY (#[o 7,o 8]:Array Oper).size=[0,1] from rfl];refine aN.step (v:= .int .i64 ((m:Nat):Int)) rfl hf.ops.h7 (by decide) (bF hf.ops.h7 _) (λa aN=> ?_);refine aN.step (v:= .bool (decide (((m:Nat):Int)=((0:Nat):Int)))) rfl hf.ops.h8 (by decide) (BC hf.ops.h8 rfl rfl _) (λa aN=> ?_);refine aN.cond (b:=false) (by show acW (decide (((m:Nat):Int)=((0:Nat):Int)))=_;rw [decide_eq_false (by omega)]) ?_;simp only [OF,if_false];refine wp_skip ?_;refine wp_seq (wp_region ?_);rw [show BY (#[o 11,o 12,o 13]:Array Oper).size=[0,1,2] from rfl];refine aN.step (v:= .slice (some ⟨g,0,none⟩) n c) rfl hf.ops.HO (by decide) (bF hf.ops.HO _) (λa aN=> ?_);refine aN.step (v:= .int .i64 ((n:Nat):Int)) rfl hf.ops.TH (by decide) (vG hf.ops.TH hf.Je rfl _) (λa aN=> ?_);refine aN.step (v:= .int .i64 ((n:Nat):Int)) rfl hf.ops.TJ (by decide) (jt hf.ops.TJ _) (λa aN=> ?_);refine wp_seq ?_;refine wp_seq (wp_region ?_);rw [show BY (#[o 14,o 15,o 16]:Array Oper).size=[0,1,2] from rfl];refine aN.step (v:= .int .i64 ((i:Nat):Int)) rfl hf.ops.TM (by decide) (bF hf.ops.TM _) (λa aN=> ?_);refine aN.step (v:= .int .i64 ((n:Nat):Int)) rfl hf.ops.TN (by decide) (bF hf.ops.TN _) (λa aN=> ?_);refine aN.step (v:= .bool (decide (((i:Nat):Int)=((n:Nat):Int)))) rfl hf.ops.OB (by decide) (BC hf.ops.OB rfl rfl _) (λa aN=> ?_);refine aN.cond (b:=false) (by show acW (decide (((i:Nat):Int)=((n:Nat):Int)))=_;rw [decide_eq_false (by omega)]) ?_;simp only [OF,if_false];refine wp_skip ?_;refine wp_seq ?_;refine wp_seq (wp_region ?_);rw [show BY (#[o 21,o 22,o 23,o 24,o 25,o 26]:Array Oper).size=[0,1,2,3,4,5] from rfl];refine aN.step (v:= .int .i64 ((n:Nat):Int)) rfl hf.ops.Vv (by decide) (bF hf.ops.Vv _) (λa aN=> ?_);refine aN.step (v:= .int .i64 ((m:Nat):Int)) rfl hf.ops.Vw (by decide) (bF hf.ops.Vw _) (λa aN=> ?_);refine aN.step (v:= .int .i64 ((n+m:Nat):Int)) rfl hf.ops.h23 (by decide) (rW hf.ops.h23 rfl rfl (by omega) _) (λa aN=> ?_);refine aN.step (v:= .slice (some ⟨g,0,none⟩) n c) rfl hf.ops.h24 (by decide) (bF hf.ops.h24 _) (λa aN=> ?_);refine aN.step (v:= .int .i64 ((c:Nat):Int)) rfl hf.ops.h25 (by decide) (Vp hf.ops.h25 hf.Je rfl _) (λa aN=> ?_);refine aN.step (v:= .bool (decide (((c:Nat):Int)<(((n+m):Nat):Int)))) rfl hf.ops.h26 (by decide) (Jd hf.ops.h26 rfl rfl _) (λa aN=> ?_);refine aN.cond (b:=true) (by show acW (decide (((c:Nat):Int)<((n+m:Nat):Int)))=_;rw [decide_eq_true (by omega)]) ?_;simp only [if_true];refine wp_seq (wp_region ?_);rw [show BY (#[o 27,o 28,o 29,o 30,o 31,o 32,o 33,o 34,o 35,o 36]:Array Oper).size=[0,1,2,3,4,5,6,7,8,9] from rfl];refine aN.step (v:= .slice (some ⟨g,0,none⟩) n c) rfl hf.ops.h27 (by decide) (bF hf.ops.h27 _) (λa aN=> ?_);refine aN.step (v:= .int .i64 ((i:Nat):Int)) rfl hf.ops.h28 (by decide) (bF hf.ops.h28 _) (λa aN=> ?_);refine aN.step (v:= .slice (some ⟨g,0,none⟩) i c) rfl hf.ops.h29 (by decide) (QK hf.ops.h29 hf.Je HP Hs rfl rfl (by omega) _) (λa aN=> ?_);refine aN.step (v:= .int .i64 ((n:Nat):Int)) rfl hf.ops.h30 (by decide) (bF hf.ops.h30 _) (λa aN=> ?_);refine aN.step (v:= .int .i64 ((m:Nat):Int)) rfl hf.ops.h31 (by decide) (bF hf.ops.h31 _) (λa aN=> ?_);refine aN.step (v:= .int .i64 ((n+m:Nat):Int)) rfl hf.ops.h32 (by decide) (rW hf.ops.h32 rfl rfl (by omega) _) (λa aN=> ?_);refine aN.step (v:= .int .i64 ((i:Nat):Int)) rfl hf.ops.h33 (by decide) (bF hf.ops.h33 _) (λa aN=> ?_);refine aN.step (v:= .int .i64 (((n+m)-i:Nat):Int)) rfl hf.ops.h34 (by decide) (aaI hf.ops.h34 rfl rfl (by omega) (by omega) _) (λa aN=> ?_);refine aN.step (v:= .slice (some ⟨g9,0,none⟩) (n+m) G) rfl hf.ops.h35 (by decide) (QL hf.ops.h35 rfl rfl (hA _)) (λa aN=> ?_);refine aN.step (v:= .slice (some ⟨g9,0,none⟩) (n+m) G) rfl hf.ops.h36 (by decide) (jt hf.ops.h36 _) (λa aN=> ?_);refine wp_seq (wp_region ?_);rw [show BY (#[o 37,o 38,o 39,o 40,o 41]:Array Oper).size=[0,1,2,3,4] from rfl];refine aN.step (v:= .slice (some ⟨g9,0,none⟩) (n+m) G) rfl hf.ops.h37 (by decide) (bF hf.ops.h37 _) (λa aN=> ?_);refine aN.step (v:= .int .i64 ((i:Nat):Int)) rfl hf.ops.h38 (by decide) (bF hf.ops.h38 _) (λa aN=> ?_);refine aN.step (v:= .slice (some ⟨g9,i *size,none⟩) (n+m-i) (G-i)) rfl hf.ops.h39 (by decide) (qP hf.ops.h39 hf.Je HP Hs rfl rfl (by omega) (by omega) _) (λa aN=> ?_);refine aN.step (v:= .slice (some ⟨g2,0,none⟩) m c2) rfl hf.ops.h40 (by decide) (bF hf.ops.h40 _) (λa aN=> ?_);refine aN.step (v:=v1) rfl hf.ops.h41 (by decide) (DX hf.ops.h41 rfl rfl (hB _)) (λa aN=> ?_);refine wp_seq (Vs hf.mix hf.ops.d11 (k:=8) rfl λmL=> ?_);refine aN.draw (v:= .slice (some ⟨g9,0,none⟩) (n+m) G) rfl hf.ops.h42 (by decide) mL (λw=>bF hf.ops.h42 _) (λa aN mL=> ?_);refine aN.draw (v:= .int .i64 ((i:Nat):Int)) rfl hf.ops.h43 (by decide) mL (λw=>bF hf.ops.h43 _) (λa aN mL=> ?_);refine aN.draw (v:= .int .i64 ((m:Nat):Int)) rfl hf.ops.h44 (by decide) mL (λw=>bF hf.ops.h44 _) (λa aN mL=> ?_);refine aN.draw (v:= .int .i64 ((i+m:Nat):Int)) rfl hf.ops.h45 (by decide) mL (λw=>rW hf.ops.h45 rfl rfl (by omega) _) (λa aN mL=> ?_);refine aN.draw (v:= .slice (some ⟨g9,(i+m) *size,none⟩) (n+m-(i+m)) (G-(i+m))) rfl hf.ops.h46 (by decide) mL (λw=>qP hf.ops.h46 hf.Je HP Hs rfl rfl (by omega) (by omega) _) (λa aN mL=> ?_);refine aN.draw (v:= .slice (some ⟨g,0,none⟩) n c) rfl hf.ops.h47 (by decide) mL (λw=>bF hf.ops.h47 _) (λa aN mL=> ?_);refine aN.draw (v:= .int .i64 ((i:Nat):Int)) rfl hf.ops.h48 (by decide) mL (λw=>bF hf.ops.h48 _) (λa aN mL=> ?_);refine aN.draw (v:= .slice (some ⟨g,i *size,none⟩) (n-i) (c-i)) rfl hf.ops.h49 (by decide) mL (λw=>qP hf.ops.h49 hf.Je HP Hs rfl rfl (by omega) (by omega) _) (λa aN mL=> ?_);refine aN.last (v:=v2) rfl hf.ops.h50 (by decide) mL (DX hf.ops.h50 rfl rfl (hC _)) (λa aN=> ?_);refine wp_seq (wp_region ?_);rw [show BY (#[o 51,o 52]:Array Oper).size=[0,1] from rfl];refine aN.step (v:= .slice (some ⟨g9,0,none⟩) (n+m) G) rfl hf.ops.h51 (by decide) (bF hf.ops.h51 _) (λa aN=> ?_);refine aN.step (v:= .slice (some ⟨g9,0,none⟩) (n+m) G) rfl hf.ops.h52 (by decide) (jt hf.ops.h52 _) (λa aN=> ?_);refine wp_ret ?_;show bodyPost P fn (λx wq=>x= .returned (.slice (some ⟨g9,0,none⟩) (n+m) G)/\wq=w3) .ret a w3;refine OC hf.res aN (v:= .slice (some ⟨g9,0,none⟩) (n+m) G) rfl ?_;exact ⟨rfl,rfl⟩
 exact key _ (tm3 _ _ _ 92)
theorem aaM (hf:MH P f t ti tb el fo fn r o tail)(HP:P.info? el=some ie)(Hs:ie.size=size)(hm:0<m)(hn:n<=c)(hc:c<2^63)(hnm:n+m<2^63)(hi:i<n)(sO:n+m<=c){v1 v2:Value}{w1 w2:World}(hO:(callFunc fo #[.slice (some ⟨g2,0,none⟩) m c2,.slice (some ⟨g,(i+m) *size,none⟩) (n+m-(i+m)) (c-(i+m))]).run P w= .ok (.value (.bool false)) w)(hB: ∀ty,(ac3 #[t,t] ty #[.slice (some ⟨g,(i+m) *size,none⟩) (n+m-(i+m)) (c-(i+m)),.slice (some ⟨g,i *size,none⟩) (n+m-i) (c-i)]).run P {w with drawn:=w.drawn+1}= .ok v1 w1) (hC: ∀ty,(ac3 #[t,t] ty #[.slice (some ⟨g,i *size,none⟩) (n+m-i) (c-i),.slice (some ⟨g2,0,none⟩) m c2]).run P w1= .ok v2 w2) :Calls P f #[.slice (some ⟨g,0,none⟩) n c,.int .i64 ((i:Nat):Int),.slice (some ⟨g2,0,none⟩) m c2] w λx w'=>x= .returned (.slice (some ⟨g,0,none⟩) (n+m) c)/\w'=w2:=by
 refine calls_of_wp hf.pos hf.body ?_;rw [hf.tmps];have key: ∀a:Act,Tm a 95 (Aq (Aq (Aq (λ_=>undef) 0 (.slice (some ⟨g,0,none⟩) n c)) 1 (.int .i64 ((i:Nat):Int))) 2 (.slice (some ⟨g2,0,none⟩) m c2))->(yg r o tail).wp P (bodyPost P fn λx w'=>x= .returned (.slice (some ⟨g,0,none⟩) (n+m) c)/\w'=w2) a w:=by intro a aN;unfold yg;refine wp_seq (wp_region ?_);rw [show BY (#[o 0]:Array Oper).size=[0] from rfl];refine aN.step (v:= .slice none 0 0) rfl hf.ops.h0 (by decide) (jt hf.ops.h0 _) (λa aN=> ?_);refine wp_seq (wp_region ?_);rw [show BY (#[o 1,o 2,o 3]:Array Oper).size=[0,1,2] from rfl];refine aN.step (v:= .slice (some ⟨g,0,none⟩) n c) rfl hf.ops.h1 (by decide) (bF hf.ops.h1 _) (λa aN=> ?_);refine aN.step (v:= .int .i64 ((i:Nat):Int)) rfl hf.ops.h2 (by decide) (bF hf.ops.h2 _) (λa aN=> ?_);refine aN.step (v:= .slice (if c=i then (some ⟨g,0,none⟩) else ((some ⟨g,0,none⟩):Option Addr).map (·.add (i *size))) (n-i) (c-i)) rfl hf.ops.h3 (by decide) (DW hf.ops.h3 hf.Je HP Hs rfl rfl (by omega) _) (λa aN=> ?_);refine wp_seq (wp_region ?_);rw [show BY (#[o 4,o 5,o 6]:Array Oper).size=[0,1,2] from rfl];refine aN.step (v:= .slice (some ⟨g2,0,none⟩) m c2) rfl hf.ops.h4 (by decide) (bF hf.ops.h4 _) (λa aN=> ?_);refine aN.step (v:= .int .i64 ((m:Nat):Int)) rfl hf.ops.h5 (by decide) (vG hf.ops.h5 hf.Je rfl _) (λa aN=> ?_);refine aN.step (v:= .int .i64 ((m:Nat):Int)) rfl hf.ops.h6 (by decide) (jt hf.ops.h6 _) (λa aN=> ?_);refine wp_seq ?_;refine wp_seq (wp_region ?_);rw [show BY (#[o 7,o 8]:Array Oper).size=[0,1] from rfl];refine aN.step (v:= .int .i64 ((m:Nat):Int)) rfl hf.ops.h7 (by decide) (bF hf.ops.h7 _) (λa aN=> ?_);refine aN.step (v:= .bool (decide (((m:Nat):Int)=((0:Nat):Int)))) rfl hf.ops.h8 (by decide) (BC hf.ops.h8 rfl rfl _) (λa aN=> ?_);refine aN.cond (b:=false) (by show acW (decide (((m:Nat):Int)=((0:Nat):Int)))=_;rw [decide_eq_false (by omega)]) ?_;simp only [OF,if_false];refine wp_skip ?_;refine wp_seq (wp_region ?_);rw [show BY (#[o 11,o 12,o 13]:Array Oper).size=[0,1,2] from rfl];refine aN.step (v:= .slice (some ⟨g,0,none⟩) n c) rfl hf.ops.HO (by decide) (bF hf.ops.HO _) (λa aN=> ?_);refine aN.step (v:= .int .i64 ((n:Nat):Int)) rfl hf.ops.TH (by decide) (vG hf.ops.TH hf.Je rfl _) (λa aN=> ?_);refine aN.step (v:= .int .i64 ((n:Nat):Int)) rfl hf.ops.TJ (by decide) (jt hf.ops.TJ _) (λa aN=> ?_);refine wp_seq ?_;refine wp_seq (wp_region ?_);rw [show BY (#[o 14,o 15,o 16]:Array Oper).size=[0,1,2] from rfl];refine aN.step (v:= .int .i64 ((i:Nat):Int)) rfl hf.ops.TM (by decide) (bF hf.ops.TM _) (λa aN=> ?_);refine aN.step (v:= .int .i64 ((n:Nat):Int)) rfl hf.ops.TN (by decide) (bF hf.ops.TN _) (λa aN=> ?_);refine aN.step (v:= .bool (decide (((i:Nat):Int)=((n:Nat):Int)))) rfl hf.ops.OB (by decide) (BC hf.ops.OB rfl rfl _) (λa aN=> ?_);refine aN.cond (b:=false) (by show acW (decide (((i:Nat):Int)=((n:Nat):Int)))=_;rw [decide_eq_false (by omega)]) ?_;simp only [OF,if_false];refine wp_skip ?_;refine wp_seq ?_;refine wp_seq (wp_region ?_);rw [show BY (#[o 21,o 22,o 23,o 24,o 25,o 26]:Array Oper).size=[0,1,2,3,4,5] from rfl];refine aN.step (v:= .int .i64 ((n:Nat):Int)) rfl hf.ops.Vv (by decide) (bF hf.ops.Vv _) (λa aN=> ?_);refine aN.step (v:= .int .i64 ((m:Nat):Int)) rfl hf.ops.Vw (by decide) (bF hf.ops.Vw _) (λa aN=> ?_);refine aN.step (v:= .int .i64 ((n+m:Nat):Int)) rfl hf.ops.h23 (by decide) (rW hf.ops.h23 rfl rfl (by omega) _) (λa aN=> ?_);refine aN.step (v:= .slice (some ⟨g,0,none⟩) n c) rfl hf.ops.h24 (by decide) (bF hf.ops.h24 _) (λa aN=> ?_);refine aN.step (v:= .int .i64 ((c:Nat):Int)) rfl hf.ops.h25 (by decide) (Vp hf.ops.h25 hf.Je rfl _) (λa aN=> ?_);refine aN.step (v:= .bool (decide (((c:Nat):Int)<(((n+m):Nat):Int)))) rfl hf.ops.h26 (by decide) (Jd hf.ops.h26 rfl rfl _) (λa aN=> ?_);refine aN.cond (b:=false) (by show acW (decide (((c:Nat):Int)<((n+m:Nat):Int)))=_;rw [decide_eq_false (by omega)]) ?_;simp only [OF,if_false];refine wp_skip ?_;refine wp_seq (wp_region ?_);rw [show BY (#[o 53,o 54,o 55,o 56,o 57,o 58]:Array Oper).size=[0,1,2,3,4,5] from rfl];refine aN.step (v:= .slice (some ⟨g,0,none⟩) n c) rfl hf.ops.h53 (by decide) (bF hf.ops.h53 _) (λa aN=> ?_);refine aN.step (v:= .int .i64 ((n:Nat):Int)) rfl hf.ops.h54 (by decide) (bF hf.ops.h54 _) (λa aN=> ?_);refine aN.step (v:= .int .i64 ((m:Nat):Int)) rfl hf.ops.h55 (by decide) (bF hf.ops.h55 _) (λa aN=> ?_);refine aN.step (v:= .int .i64 ((n+m:Nat):Int)) rfl hf.ops.h56 (by decide) (rW hf.ops.h56 rfl rfl (by omega) _) (λa aN=> ?_);refine aN.step (v:= .slice (some ⟨g,0,none⟩) (n+m) c) rfl hf.ops.h57 (by decide) (QK hf.ops.h57 hf.Je HP Hs rfl rfl (by omega) _) (λa aN=> ?_);refine aN.step (v:= .slice (some ⟨g,0,none⟩) (n+m) c) rfl hf.ops.h58 (by decide) (jt hf.ops.h58 _) (λa aN=> ?_);refine wp_seq ?_;refine wp_seq (wp_region ?_);rw [show BY (#[o 59,o 60,o 61,o 62,o 63,o 64,o 65,o 66]:Array Oper).size=[0,1,2,3,4,5,6,7] from rfl];refine aN.step (v:= .slice (some ⟨g2,0,none⟩) m c2) rfl hf.ops.h59 (by decide) (bF hf.ops.h59 _) (λa aN=> ?_);refine aN.step (v:= .slice (some ⟨g,0,none⟩) (n+m) c) rfl hf.ops.h60 (by decide) (bF hf.ops.h60 _) (λa aN=> ?_);refine aN.step (v:= .int .i64 ((i:Nat):Int)) rfl hf.ops.h61 (by decide) (bF hf.ops.h61 _) (λa aN=> ?_);refine aN.step (v:= .int .i64 ((m:Nat):Int)) rfl hf.ops.h62 (by decide) (bF hf.ops.h62 _) (λa aN=> ?_);refine aN.step (v:= .int .i64 ((i+m:Nat):Int)) rfl hf.ops.h63 (by decide) (rW hf.ops.h63 rfl rfl (by omega) _) (λa aN=> ?_);refine aN.step (v:= .slice (some ⟨g,(i+m) *size,none⟩) (n+m-(i+m)) (c-(i+m))) rfl hf.ops.h64 (by decide) (qP hf.ops.h64 hf.Je HP Hs rfl rfl (by omega) (by omega) _) (λa aN=> ?_);refine aN.step (v:= .bool false) rfl hf.ops.h65 (by decide) (ad7 hf.ops.h65 rfl rfl rfl hO) (λa aN=> ?_);refine aN.step (v:= .bool (!false)) rfl hf.ops.h66 (by decide) (OA hf.ops.h66 rfl _) (λa aN=> ?_);refine aN.cond (b:=true) rfl ?_;simp only [if_true];refine wp_seq (Vs hf.mix hf.ops.d15 (k:=8) rfl λmL=> ?_);refine aN.draw (v:= .slice (some ⟨g,0,none⟩) (n+m) c) rfl hf.ops.h67 (by decide) mL (λw=>bF hf.ops.h67 _) (λa aN mL=> ?_);refine aN.draw (v:= .int .i64 ((i:Nat):Int)) rfl hf.ops.h68 (by decide) mL (λw=>bF hf.ops.h68 _) (λa aN mL=> ?_);refine aN.draw (v:= .int .i64 ((m:Nat):Int)) rfl hf.ops.h69 (by decide) mL (λw=>bF hf.ops.h69 _) (λa aN mL=> ?_);refine aN.draw (v:= .int .i64 ((i+m:Nat):Int)) rfl hf.ops.h70 (by decide) mL (λw=>rW hf.ops.h70 rfl rfl (by omega) _) (λa aN mL=> ?_);refine aN.draw (v:= .slice (some ⟨g,(i+m) *size,none⟩) (n+m-(i+m)) (c-(i+m))) rfl hf.ops.h71 (by decide) mL (λw=>qP hf.ops.h71 hf.Je HP Hs rfl rfl (by omega) (by omega) _) (λa aN mL=> ?_);refine aN.draw (v:= .slice (some ⟨g,0,none⟩) (n+m) c) rfl hf.ops.h72 (by decide) mL (λw=>bF hf.ops.h72 _) (λa aN mL=> ?_);refine aN.draw (v:= .int .i64 ((i:Nat):Int)) rfl hf.ops.h73 (by decide) mL (λw=>bF hf.ops.h73 _) (λa aN mL=> ?_);refine aN.draw (v:= .slice (some ⟨g,i *size,none⟩) (n+m-i) (c-i)) rfl hf.ops.h74 (by decide) mL (λw=>qP hf.ops.h74 hf.Je HP Hs rfl rfl (by omega) (by omega) _) (λa aN mL=> ?_);refine aN.last (v:=v1) rfl hf.ops.h75 (by decide) mL (DX hf.ops.h75 rfl rfl (hB _)) (λa aN=> ?_);refine wp_seq (wp_region ?_);rw [show BY (#[o 76,o 77,o 78,o 79,o 80]:Array Oper).size=[0,1,2,3,4] from rfl];refine aN.step (v:= .slice (some ⟨g,0,none⟩) (n+m) c) rfl hf.ops.h76 (by decide) (bF hf.ops.h76 _) (λa aN=> ?_);refine aN.step (v:= .int .i64 ((i:Nat):Int)) rfl hf.ops.h77 (by decide) (bF hf.ops.h77 _) (λa aN=> ?_);refine aN.step (v:= .slice (some ⟨g,i *size,none⟩) (n+m-i) (c-i)) rfl hf.ops.h78 (by decide) (qP hf.ops.h78 hf.Je HP Hs rfl rfl (by omega) (by omega) _) (λa aN=> ?_);refine aN.step (v:= .slice (some ⟨g2,0,none⟩) m c2) rfl hf.ops.h79 (by decide) (bF hf.ops.h79 _) (λa aN=> ?_);refine aN.step (v:=v2) rfl hf.ops.h80 (by decide) (DX hf.ops.h80 rfl rfl (hC _)) (λa aN=> ?_);refine wp_seq (wp_region ?_);rw [show BY (#[o 81,o 82]:Array Oper).size=[0,1] from rfl];refine aN.step (v:= .slice (some ⟨g,0,none⟩) (n+m) c) rfl hf.ops.h81 (by decide) (bF hf.ops.h81 _) (λa aN=> ?_);refine aN.step (v:= .slice (some ⟨g,0,none⟩) (n+m) c) rfl hf.ops.h82 (by decide) (jt hf.ops.h82 _) (λa aN=> ?_);refine wp_ret ?_;show bodyPost P fn (λx wq=>x= .returned (.slice (some ⟨g,0,none⟩) (n+m) c)/\wq=w2) .ret a w2;refine OC hf.res aN (v:= .slice (some ⟨g,0,none⟩) (n+m) c) rfl ?_;exact ⟨rfl,rfl⟩
 exact key _ (tm3 _ _ _ 92)
end
end Dn
/-
  What slices.Insert does to a slice of its own. Conditions: none.
-/
namespace Dn
open Go
section
variable {key:Nat->Nat} {φ:Ph}{size:Nat}
theorem bA.take {xs:List MV}: ∀{cs:List Value} (i:Nat),bA key φ size cs xs->bA key φ size (cs.take (i *size)) (xs.take i):=by
 induction xs with
 |nil=>intro cs i h;cases h;simp [bA]
 |cons x xs ih=>
  intro cs i h;obtain ⟨v,q,rfl,h1,h2,h3⟩:=h;cases i with
  |zero=>simp [bA]
  |succ i=>
   refine ⟨v,q.take (i *size),?_,h1,h2,ih i h3⟩;rw [aev,Nat.one_mul,af6,ahu,h1];congr 1
   ·exact ac2 (by omega)
   ·congr 1;omega
theorem bA.drop {xs:List MV}: ∀{cs:List Value} (i:Nat),bA key φ size cs xs->bA key φ size (cs.drop (i *size)) (xs.drop i):=by
 induction xs with
 |nil=>intro cs i h;cases h;simp [bA]
 |cons x xs ih=>
  intro cs i h;cases i with
  |zero=>simpa using h
  |succ i=>obtain ⟨v,q,rfl,h1,h2,h3⟩:=h;have:=ih i h3;rw [aev,Nat.one_mul,af6,List.drop_append,h1,af7 (by omega),adY,Nat.add_sub_cancel_left];simpa using this
end
section
variable {P:Program}{c:Ctx}{f:Nat} {W W':World} {φ:Ph}{Z:Nat->Prop} {v0 v':Value}
theorem OD {ty:Nat}{E:TI}{n:Nat}{cells:List Value}{rs:List MV}(hz: ∀b,W.heap.size<=b->Z b)(mn:qy φ W)(hE:c.ti ty=some E)(wi:E.cQ=[])(Oz:c.nT (c.key f)=ty)(hold: ∀b,b<W.heap.size->some b≠v0.ownBlock->W'.heap[b]? =W.heap[b]?)(rR:W.heap.size<=W'.heap.size)(vE:Rest W W')(Lr: ∀b,v0.ownBlock=some b->Z b/\ ∀off,φ b off=none)(eW:W'.ownsRow 0 ty E.size v' n cells)(hn:rs.length=n)(nk:bA c.key φ E.size cells rs)(SZ: ∀b,v'.ownBlock=some b->v0.ownBlock=some b\/W.heap.size<=b): ∃φ',Trans Z φ W φ' W'/\qy φ' W'/\iG c Z φ' W' (c.key f) v' (.fresh rs):=by
 refine ⟨φ,⟨.refl _,?_,λ_ _ _=>rfl,rR,vE⟩,?_,?_⟩
 ·intro b hb cJ;exact hold b cJ (λhe=>hb (Lr b he.symm).1)
 ·intro b off u hbo;have h1:=mn b off u hbo;have cJ:=abz W _ h1;rw [acZ (hold b cJ (λhe=>by rw [(Lr b he.symm).2 off] at hbo;cases hbo))];exact h1
 ·show cT c (bI.plain Z) (oO c.key φ) W' v' ⟨c.nT (c.key f),false,rs⟩;rw [Oz];refine ⟨E,cells,hE,wi,by rw [hn];exact eW,nk,λbt hb=> ?_⟩;rcases SZ bt hb with h|h
  ·exact ⟨(Lr bt h).1,λoff u hu=>(by have hu:φ bt off=some u:=hu;rw [(Lr bt h).2 off] at hu;cases hu),λhc=>hc.elim⟩
  ·refine ⟨hz bt h,λoff u hu=> ?_,λhc=>hc.elim⟩;have:=abz W _ (mn _ _ _ hu);exact absurd this (by show¬bt<W.heap.size;omega)
theorem aei {A fI:List Value}{cells news:List Value}{p q r:Nat}(hA:A.length=fI.length)(hp:p+news.length=q)(hc:cells.length=r)(S5:p<=r)(Il:r+news.length<=fI.length)(h1:A.take p=cells.take p)(h2:(A.drop q).take (r-p)=cells.drop p):(A.take p++news++A.drop q).take (r+news.length)=cells.take p++news++cells.drop p:=by
 have hl:(A.take p).length=p:=by rw [abF];omega
 rw [ahu,aaJ,hl,hp,ac2 (by rw [aaJ,hl];omega),h1];congr 1;rw [show r+news.length-q=r-p by omega];exact h2
theorem MI {t ti tb el fo:Nat}{fn:Func}{r:Nat->Nat}{o:Nat->Oper}{tail:Code}{I E:TI}{xs ys:List MV}{i:Nat}(hf:MH P f t ti tb el fo fn r o tail)(hT:kq P c.ti)(hI:c.tv t=some I)(hL:I.Bm=true)(hE:c.tv I.elem=some E)(u6:1<=E.bytes)(hel:el=I.elem)(nV:P.underlying ti=some (.int .i64))(Oz:c.nT (c.key f)=I.elem)(hg:c.fF (c.key f)=true)(hov: ∀args w,(callFunc fo args).run P w=((ahz #[t,t] #[tb] args).run P w).andThen λv w'=> .ok (.value v) w')(hi:i<=xs.length)(hys:ys≠[])(lf:(xs.length+ys.length) *E.bytes<=2^46):j8 P c f [.fresh xs,.i .i64 i,.fresh ys] (.fresh (xs.take i++ys++xs.drop i)):=by
 subst hel;obtain ⟨hIt,hIc⟩:=bG hI;obtain ⟨tG,wi⟩:=bG hE;obtain ⟨hu,E2,Gn,_,iY⟩:=TI.nN (hT t I hIt) hL;rw [tG] at Gn;cases Gn;obtain ⟨ie,z,HP,Hs,Du,hz0,S1⟩:=lJ (hT _ E tG) wi;intro φ W Z vs hz gl mn;simp only [fJ,hg,if_true] at gl;obtain ⟨v0,v1,v2,xs',m1,ys',rfl,Lq,F0,A1,F2,di⟩:=gl.resolve_right (by
  rintro (⟨_,_,_,_,_,m2,_,h1,h2,_⟩|⟨pos,_,_,_,_,_,_,h1,_⟩)
  ·simp only [af8,and_true] at h1;rw [<-h1.2.2] at h2;simp [MV.one] at h2
  ·rcases pos with _|_|_|pos<;>simp at h1)
 simp only [af8,MV.fresh.injEq,and_true] at Lq;obtain ⟨rfl,rfl,rfl⟩:=Lq;have Ss:v1= .int .i64 (i:Int):=by obtain ⟨_,h⟩:=A1;generalize Bq:[v1]=l at h;cases h;simpa using Bq
 subst Ss;rw [Oz] at F0 F2;obtain ⟨I0,cells,Sx,_,MJ,MK,ago⟩:=F0;have Sx:c.ti I.elem=some I0:=Sx;rw [tG] at Sx;cases Sx;obtain ⟨I2,news,Ac,_,Mm,Ae,atD⟩:=F2;have Ac:c.ti I.elem=some I2:=Ac;rw [tG] at Ac;cases Ac;have MJ:W.ownsRow 0 I.elem E.size v0 xs.length cells:=MJ;have Mm:W.ownsRow 0 I.elem E.size v2 ys.length news:=Mm;have MK:bA c.key φ E.size cells xs:=MK;have Ae:bA c.key φ E.size news ys:=Ae;have Lr: ∀b,v0.ownBlock=some b->Z b/\ ∀off,φ b off=none:=by
  intro b hb;refine ⟨(ago b hb).1,λoff=> ?_⟩;cases h:φ b off with
  |none=>rfl
  |some u=>have:=((ago b hb).2.1 off u h).1;cases this
 have hm:0<ys.length:=List.length_pos_iff.2 hys;have Fo:news.length=ys.length *E.size:=Ae.length;have rl:cells.length=xs.length *E.size:=MK.length;have hlen:xs.length+ys.length<=2^46:=ac6 (Nat.le_mul_of_pos_right _ u6) lf;obtain ⟨g2,c2,Qc,rfl,hg2,av1,YC,Qb,av2⟩: ∃g2 c2 Qc,v2= .slice (some ⟨g2,0,none⟩) ys.length c2/\W.heap[g2]? =some (.cells Qc I.elem (0,0))/\ys.length<=c2/\c2<=maxLen/\Qc.size=c2 *E.size/\Qc.toList.take (ys.length *E.size)=news:=by
  rcases Mm.2 with ⟨_,h0⟩|⟨g2,c2,Qc,h1,_,h3,h4,h5,h6,h7⟩
  ·omega
  ·exact ⟨g2,c2,Qc,h1,h3,h4,h5,h6,h7⟩
 have aqw:=aZ hg2;have aaN: ∀{w:World},(w.heap[g2]? =W.heap[g2]?)-> ∀(j:Nat) (u:Value),news[j]? =some u->w.cell? ((⟨g2,0,none⟩:Addr).add j)=some u:=by intro w hw j u hj;have:=Mm.cells (g:=g2) rfl j u hj;rw [adM] at this⊢;rw [acZ hw];exact this
 have cc: ∀g,v0.ownBlock=some g-> ∀{w:World},(w.heap[g]? =W.heap[g]?)-> ∀(j:Nat) (u:Value),cells[j]? =some u->w.cell? ((⟨g,0,none⟩:Addr).add j)=some u:=by intro g hg w hw j u hj;have:=MJ.cells (g:=g) hg j u hj;rw [adM] at this⊢;rw [acZ hw];exact this
 have cr:(callFunc f [v0,.int .i64 (i:Int),.slice (some ⟨g2,0,none⟩) ys.length c2].toArray).run P W= .ok (.enter f #[v0,.int .i64 (i:Int),.slice (some ⟨g2,0,none⟩) ys.length c2]) W:=by
  have Lk: ¬fn.name= "runtime.NumGoroutine" :=by simpa using hf.name
  simp [callFunc,hf.pos,Lk,hf.body]
 unfold dQ;rw [cr];have hrl:(xs.take i++ys++xs.drop i).length=xs.length+ys.length:=by simp;omega
 have Jf:bA c.key φ E.size (cells.take (i *E.size)++news++cells.drop (i *E.size)) (xs.take i++ys++xs.drop i):=((MK.take i).append Ae).append (MK.drop i);by_cases qB:i=xs.length
 ·
  have Ag:Src (oO c.key φ) W E.size (.slice (some ⟨g2,0,none⟩) ys.length c2) ys news:=⟨Ae,_,_,rfl,by simp,λx hx j u hj=>by cases hx;exact aaN rfl j u hj⟩
  have po:cells.take (i *E.size)++news++cells.drop (i *E.size)=cells++news:=by rw [qB,<-rl,List.take_length,ahC,List.append_nil]
  rw [po] at Jf;have fin: ∀v' W',akW W W' I.elem E.size v0 v' xs.length ys.length cells news-> ∃φ',Trans Z φ W φ' W'/\qy φ' W'/\iG c Z φ' W' (c.key f) v' (.fresh (xs.take i++ys++xs.drop i)):=by
   intro v' W' xV;refine OD (v0:=v0) hz mn tG wi Oz xV.qA xV.size xV.rest Lr xV.own hrl Jf ?_;intro b hb;rcases xV.place with h|h
   ·left;rw [<-h];exact hb
   ·right;rw [h] at hb;cases hb;exact adb _
  obtain ⟨v',W',hr,xV⟩:=CW (P:=P) (c:=c) (ty:=0) hu tG wi iY hT u6 MJ (Ag.apx hu) lf;have hr': ∀ty,(ad9 #[t,t] ty #[v0,.slice (some ⟨g2,0,none⟩) ys.length c2]).run P W= .ok v' W':=λty=>hr;have aqx: ∃ad c0,v0= .slice ad xs.length c0/\xs.length<=c0/\c0<=maxLen:=by
   rcases MJ.2 with ⟨h1,h0⟩|⟨g,c0,fI,h1,_,h3,h4,h5,_⟩
   ·exact ⟨none,0,by rw [h1,h0],by omega,by omega⟩
   ·exact ⟨_,c0,h1,h4,h5⟩
  obtain ⟨ad,c0,rfl,hnc,K6⟩:=aqx;refine (aeh hf HP Hs hm hnc (by unfold maxLen at K6;omega) (by omega) qB hr').mono ?_;rintro x Bp ⟨rfl,rfl⟩;exact ⟨_,rfl,fin _ _ xV⟩
 ·have qB:i<xs.length:=by omega
  obtain ⟨g,c0,fI,rfl,hgc,hnc,K6,CV,HM⟩: ∃g c0 fI,v0= .slice (some ⟨g,0,none⟩) xs.length c0/\W.heap[g]? =some (.cells fI I.elem (0,0))/\xs.length<=c0/\c0<=maxLen/\fI.size=c0 *E.size/\fI.toList.take (xs.length *E.size)=cells:=by
   rcases MJ.2 with ⟨_,h0⟩|⟨g,c0,fI,h1,_,h3,h4,h5,h6,h7⟩
   ·omega
   ·exact ⟨g,c0,fI,h1,h3,h4,h5,h6,h7⟩
  have ZN:=aZ hgc;have YJ:g≠g2:=λh=>di g rfl (by rw [h];rfl);have wZ:i *E.size<=xs.length *E.size:=acY _ hi;have him:(i+ys.length) *E.size=i *E.size+news.length:=by rw [aev,Fo]
  have hnm:(xs.length+ys.length) *E.size=xs.length *E.size+news.length:=by rw [aev,Fo]
  have WX:(cells.drop (i *E.size)).length=(xs.length-i) *E.size:=by rw [ac9,rl,Nat.sub_mul]
  have av3:(xs.length-i) *E.size=xs.length *E.size-i *E.size:=Nat.sub_mul _ _ _;have agq: ∀{w:World},(w.heap[g]? =W.heap[g]?)-> ∀(j:Nat) (u:Value),(cells.drop (i *E.size))[j]? =some u->w.cell? ((⟨g,i *E.size,none⟩:Addr).add j)=some u:=by intro w hw j u hj;rw [agU] at hj;have:=cc g rfl hw _ u hj;rw [adM] at this⊢;rwa [ads] at this
  have Wn: ∀u∈cells.drop (i *E.size),u.oneCell'=true:=λu hu=>MK.Iq u (List.mem_of_mem_drop hu);have al6:Rest W {W with drawn:=W.drawn+1}:=⟨rfl,rfl,rfl,λ_=>rfl⟩
  by_cases sO:c0<xs.length+ys.length
  ·have hk:i+(xs.length+ys.length-i)=xs.length+ys.length:=by omega
   obtain ⟨G,hG⟩: ∃G,G=grownCap W (xs.length+ys.length) c0 I.elem:=⟨_,rfl⟩
   have hGn:xs.length+ys.length<=G:=by rw [hG];exact grownCap_ge W _ _ _
   have hGm:G<=maxLen:=by rw [hG];exact grownCap_le_maxLen W _ _ _ (by unfold maxLen;omega)
   obtain ⟨OE,ahX⟩: ∃OE:Array Value,OE=(cells.take (i *E.size)).toArray++afM z.cells (xs.length+ys.length-i)++afM z.cells (G-(xs.length+ys.length)):=⟨_,rfl⟩
   have hRl:OE.size=G *E.size:=by rw [ahX];simp only [ag9,acT,abF,afM,Array.size_map,Array.size_range,S1];rw [aea (by rw [rl];exact wZ),<-aev,<-aev];congr 1;omega
   have hRt:OE.toList.take (i *E.size)=cells.take (i *E.size):=by
    rw [ahX];simp only [Array.toList_append,aee];have hl:(cells.take (i *E.size)).length=i *E.size:=by rw [abF,rl];exact aea wZ
    rw [ac0 (by omega),ac2 (by omega)]
   have hA: ∀ty,(ad9 #[t,ti] ty #[.slice (some ⟨g,0,none⟩) i c0,.int .i64 ((xs.length+ys.length-i:Nat):Int)]).run P W= .ok (.slice (some ⟨W.heap.size,0,none⟩) (xs.length+ys.length) G) (W.drew.alloc (.cells OE I.elem)):=λty=>by
    have hold:(agL ie.size i (.slice (some ⟨g,0,none⟩) i c0)).run P W.drew= .ok (cells.take (i *E.size)).toArray W.drew:=by
     refine run_firstCells_some W.drew ie.size i ⟨g,0,none⟩ i c0 _ (by rw [Hs,abF,rl];exact aea wZ) (λj v hj=> ?_);rw [afG] at hj;split at hj
     ·exact cc g rfl rfl j v hj
     ·cases hj
    have h:=Lib.run_append_grow_zeros W t ti ty I.elem ie z .i64 .i64 hu nV HP hz0 (some ⟨g,0,none⟩) i c0 (cells.take (i *E.size)) hold (xs.length+ys.length-i) (by omega) (by rw [Hs];exact iY) (by omega) (by omega) (by rw [Du];exact ac6 (acY _ (by omega:xs.length+ys.length-i<=xs.length+ys.length)) (ac6 lf (by omega))) (by rw [Du,hk];exact growslice_fits sO (ac6 lf (by omega)));rw [hk,<-hG,<-ahX] at h;exact h
   have hg9:(W.drew.alloc (.cells OE I.elem)).heap[W.heap.size]? =some (.cells OE I.elem (0,0)):=iD W.drew _;have E3: ∀b,b<W.heap.size->(W.drew.alloc (.cells OE I.elem)).heap[b]? =W.heap[b]? :=λb hb=>s7 W.drew _ b hb;have hnG:(xs.length+ys.length) *E.size<=OE.size:=by rw [hRl];exact acY _ hGn
   obtain ⟨RA,hRA⟩: ∃RA:List Value,RA=OE.toList.take (i *E.size)++news++OE.toList.drop (i *E.size+news.length):=⟨_,rfl⟩
   have al7:RA.length=OE.size:=by rw [hRA];simp only [aaJ,abF,ac9,abJ];omega
   have hB: ∀ty,(ac3 #[t,t] ty #[.slice (some ⟨W.heap.size,i *E.size,none⟩) (xs.length+ys.length-i) (G-i),.slice (some ⟨g2,0,none⟩) ys.length c2]).run P (W.drew.alloc (.cells OE I.elem))= .ok (goInt ((ys.length:Nat):Int)) (adP (W.drew.alloc (.cells OE I.elem)) W.heap.size RA.toArray):=λty=>by rw [hRA];exact rn (size:=E.size) hu HP Hs hg9 (by simp only [agr];split<;>omega) Fo (aaN (E3 g2 aqw)) (by omega) Ae.Iq
   have ahY:=setRow_heap (W.drew.alloc (.cells OE I.elem)) W.heap.size OE RA.toArray I.elem (0,0) hg9;obtain ⟨W2,Lb⟩: ∃W2,W2=adP (W.drew.alloc (.cells OE I.elem)) W.heap.size RA.toArray:=⟨_,rfl⟩
   have zt: ∀b,b<W.heap.size->W2.heap[b]? =W.heap[b]? :=λb hb=>by rw [Lb,setRow_other _ _ _ _ (by omega)];exact E3 b hb
   have TP:Rest W W2:=by rw [Lb];exact (show Rest W W.drew from ⟨rfl,rfl,rfl,λ_=>rfl⟩).trans ((Rest.alloc W.drew OE I.elem).trans (Rest.setRow _ _ _))
   have av6:W2.heap.size=W.heap.size+1:=by rw [Lb,setRow_size];exact Array.size_push _
   rw [<-Lb] at hB ahY;have hC:=λty=>rn (P:=P) (dT:=t) (sT:=t) (ty:=ty) (size:=E.size) (ad8:=xs.length+ys.length-(i+ys.length)) (ahU:=G-(i+ys.length)) (qM:=xs.length-i) (zq:=c0-i) (k:=xs.length-i) (o:=(i+ys.length) *E.size) (a:=⟨g,i *E.size,none⟩) (w:={W2 with drawn:=W2.drawn+1}) hu HP Hs ahY (by simp only [agr];split<;>omega) WX (agq (zt g ZN)) (by simp only [acT];rw [al7,him,WX];omega) Wn;refine (aaL hf HP Hs hm hnc (by unfold maxLen at K6;omega) (by omega) qB sO hGn hA hB hC).mono ?_;rintro x Bp ⟨rfl,rfl⟩;refine ⟨_,rfl,?_⟩;refine OD (v0:= .slice (some ⟨g,0,none⟩) xs.length c0) (n:=xs.length+ys.length) (cells:=cells.take (i *E.size)++news++cells.drop (i *E.size)) hz mn tG wi Oz ?_ ?_ ?_ Lr ?_ hrl Jf (λb hb=> .inr (by cases hb;exact adb _))
   ·intro b hb di;rw [setRow_other _ _ _ _ (by omega)];exact zt b hb
   ·rw [setRow_size];show W.heap.size<=W2.heap.size;omega
   ·exact TP.trans ((show Rest W2 {W2 with drawn:=W2.drawn+1} from ⟨rfl,rfl,rfl,λ_=>rfl⟩).trans (Rest.setRow _ _ _))
   ·refine ⟨by rw [Jf.length,hrl],.inr ⟨W.heap.size,G,_,rfl,aer _,setRow_heap {W2 with drawn:=W2.drawn+1} W.heap.size RA.toArray _ I.elem (0,0) ahY,hGn,hGm,?_,?_⟩⟩
    ·simp only [acT,aaJ,abF,ac9];rw [al7,<-hRl];omega
    ·have aqA:RA.take ((i+ys.length) *E.size)=cells.take (i *E.size)++news:=by
      have hl:(OE.toList.take (i *E.size)++news).length=(i+ys.length) *E.size:=by rw [aaJ,abF,abJ,him];omega
      rw [hRA,ac0 (by omega),ac2 (by omega),hRt]
     rw [aqA];have y9:(cells.take (i *E.size)++news++cells.drop (i *E.size)).length=(xs.length+ys.length) *E.size:=by rw [Jf.length,hrl]
     rw [<-y9];exact ah1
  ·have sO:xs.length+ys.length<=c0:=by omega
   have hcz:fI.toList.length=fI.size:=abJ;have Il:(xs.length+ys.length) *E.size<=fI.size:=by rw [CV];exact acY _ sO
   have hO:(callFunc fo #[.slice (some ⟨g2,0,none⟩) ys.length c2,.slice (some ⟨g,(i+ys.length) *E.size,none⟩) (xs.length+ys.length-(i+ys.length)) (c0-(i+ys.length))]).run P W= .ok (.value (.bool false)) W:=by rw [hov,Lib.run_overlaps_apart W t tb I.elem hu E.size (λw=>by simp [aeT,typeInfo,HP,Hs]) ⟨g2,0,none⟩ ⟨g,(i+ys.length) *E.size,none⟩ _ _ _ _ (aio YJ) I.elem I.elem Qc.size fI.size (by simp [World.shape?,hg2]) (by simp [World.shape?,hgc]) (by rw [CV];exact Nat.ne_of_gt (Nat.mul_pos (by omega) iY)) (by simp [ah9,hg2]) (by simp [ah9,hg2])];rfl
   let R1:List Value:=fI.toList.take ((i+ys.length) *E.size)++cells.drop (i *E.size)++fI.toList.drop ((i+ys.length) *E.size+(cells.drop (i *E.size)).length);have hR1:R1.length=fI.size:=by simp only [R1,aaJ,abF,ac9,abJ];rw [WX] at *;omega
   have hB: ∀ty,(ac3 #[t,t] ty #[.slice (some ⟨g,(i+ys.length) *E.size,none⟩) (xs.length+ys.length-(i+ys.length)) (c0-(i+ys.length)),.slice (some ⟨g,i *E.size,none⟩) (xs.length+ys.length-i) (c0-i)]).run P {W with drawn:=W.drawn+1}= .ok (goInt ((xs.length-i:Nat):Int)) (adP {W with drawn:=W.drawn+1} g R1.toArray):=λty=>rn (size:=E.size) hu HP Hs (w:={W with drawn:=W.drawn+1}) hgc (by simp only [agr];split<;>omega) WX (agq rfl) (by rw [him,WX];omega) Wn;have aqC:(adP {W with drawn:=W.drawn+1} g R1.toArray).heap[g]? =some (.cells R1.toArray I.elem (0,0)):=setRow_heap {W with drawn:=W.drawn+1} g fI R1.toArray I.elem (0,0) hgc;have zt: ∀b,b≠g->(adP {W with drawn:=W.drawn+1} g R1.toArray).heap[b]? =W.heap[b]? :=λb hb=>setRow_other {W with drawn:=W.drawn+1} g b R1.toArray hb;have hC:=λty=>rn (P:=P) (dT:=t) (sT:=t) (ty:=ty) (size:=E.size) (ad8:=xs.length+ys.length-i) (ahU:=c0-i) (qM:=ys.length) (zq:=c2) (k:=ys.length) (o:=i *E.size) (a:=⟨g2,0,none⟩) hu HP Hs aqC (by simp only [agr];split<;>omega) Fo (aaN (zt g2 (aio YJ))) (by simp only [acT];rw [hR1];omega) Ae.Iq;refine (aaM hf HP Hs hm hnc (by unfold maxLen at K6;omega) (by omega) qB sO hO hB hC).mono ?_;rintro x Bp ⟨rfl,rfl⟩;refine ⟨_,rfl,?_⟩;rw [setRow_setRow];have vE:Rest W (adP {W with drawn:=W.drawn+1} g (R1.toArray.toList.take (i *E.size)++news++R1.toArray.toList.drop (i *E.size+news.length)).toArray):=al6.trans (Rest.setRow _ _ _);refine OD (v0:= .slice (some ⟨g,0,none⟩) xs.length c0) (n:=xs.length+ys.length) (cells:=cells.take (i *E.size)++news++cells.drop (i *E.size)) hz mn tG wi Oz ?_ (by simp) vE Lr ?_ hrl Jf (λb hb=> .inl hb)
   ·intro b hb di;refine setRow_other {W with drawn:=W.drawn+1} g b _ (λh=>di ?_);rw [h];rfl
   ·refine ⟨by rw [Jf.length,hrl],.inr ⟨g,c0,_,rfl,aer _,setRow_heap {W with drawn:=W.drawn+1} g fI _ I.elem (0,0) hgc,sO,K6,?_,?_⟩⟩
    ·simp only [acT,aaJ,abF,ac9];rw [hR1,<-CV];omega
    ·rw [hnm];refine aei (fI:=fI.toList) (r:=xs.length *E.size) (by simpa using hR1) rfl rl wZ (by simp only [abJ];omega) ?_ ?_
     ·show R1.take (i *E.size)=_;rw [<-HM,ah3,aea wZ];simp only [R1];rw [aee,ac0 (by rw [abF,hcz];omega),ah3,aea (by omega)]
     ·show (R1.drop (i *E.size+news.length)).take _=_;simp only [R1];have hl:(fI.toList.take ((i+ys.length) *E.size)).length=i *E.size+news.length:=by rw [abF,hcz];omega
      rw [aee,<-hl,ah4,ac0 (by omega),ac2 (by omega)]
end
end Dn
/-
  slices.Delete of the library, walked. Conditions: none.
-/
namespace Dn
open Go
structure ul (o:Oper) (op:Op):Prop where
 dst:o.dst=none
 op:o.op=op
 guard:o.guard=none
section
variable {P:Program}{Q:Exit->Act->World->Prop}{ops:Array Oper}{o:Oper}{a:Act} {w w':World}{n:Nat} {σ:Nat->Value}
def aaO (ops:Array Oper):Nat->Nat->Array Bool->Bool
 |0,i,listed=>(IT .any ops listed==[i])&&(IT .any ops (listed.setIfInBounds i true)==[i+1])&&(IT .any ops ((listed.setIfInBounds i true).setIfInBounds (i+1) true)).isEmpty
 |k+1,i,listed=>Region.free .any ops listed i&&(IT .any ops listed).contains i&&aaO ops k (i+1) (listed.setIfInBounds i true)
def ahZ (ops:Array Oper):Bool:=age ops&&Nat.blt 1 ops.size&&aaO ops (ops.size-2) 0 (No ops.size false)
end
theorem qQ {w:World}{g:Nat}{fI:Array Value}{t:TypeId}{fr:Nat×Nat}(cs:Array Value)(hg:w.heap[g]? =some (.cells fI t fr)):(w.setRow g cs).heap[g]? =some (.cells cs t fr):=by simp [adP,agk,hg]
structure aqD (t ti:Nat) (o:Nat->Oper):Prop where
 h0:az (o 0) 6 (.assign (.const (.slice none 0 0)))
 h1:az (o 1) 8 (.move (.tmp 0))
 h2:az (o 2) 9 (.move (.tmp 1))
 h3:az (o 3) 10 (.move (.tmp 2))
 h4:az (o 4) 11 (.move (.tmp 0))
 h5:az (o 5) 12 (.call {callee:= .builtin .len,args:= #[.tmp 11],argTypes:= #[t]})
 h6:az (o 6) 13 (.slice t (.tmp 8) (some (.tmp 9)) (some (.tmp 10)) (some (.tmp 12)))
 h7:az (o 7) 14 (.move (.tmp 1))
 h8:az (o 8) 15 (.move (.tmp 2))
 h9:az (o 9) 16 (.binOp .eql ti (.tmp 14) (.tmp 15) ti)
 Ot:az (o 10) 17 (.move (.tmp 0))
 HO:az (o 11) 6 (.assign (.tmp 17))
 TH:az (o 12) 18 (.move (.tmp 0))
 TJ:az (o 13) 19 (.call {callee:= .builtin .len,args:= #[.tmp 18],argTypes:= #[t]})
 TM:az (o 14) 7 (.assign (.tmp 19))
 TN:az (o 15) 20 (.move (.tmp 0))
 OB:az (o 16) 21 (.move (.tmp 1))
 Vt:az (o 17) 22 (.slice t (.tmp 20) none (some (.tmp 21)) none)
 Vu:az (o 18) 23 (.move (.tmp 0))
 h19:az (o 19) 24 (.move (.tmp 2))
 h20:az (o 20) 25 (.slice t (.tmp 23) (some (.tmp 24)) none none)
 Vv:az (o 21) 26 (.call {callee:= .builtin .append,args:= #[.tmp 22,.tmp 25],argTypes:= #[t,t]})
 Vw:az (o 22) 0 (.assign (.tmp 26))
 h23:az (o 23) 27 (.move (.tmp 0))
 h24:az (o 24) 28 (.move (.tmp 0))
 h25:az (o 25) 29 (.call {callee:= .builtin .len,args:= #[.tmp 28],argTypes:= #[t]})
 h26:az (o 26) 30 (.move (.tmp 7))
 h27:az (o 27) 31 (.slice t (.tmp 27) (some (.tmp 29)) (some (.tmp 30)) none)
 h28:ul (o 28) (.call {callee:= .builtin .clear,args:= #[.tmp 31],argTypes:= #[t]})
 h29:az (o 29) 32 (.move (.tmp 0))
 h30:az (o 30) 6 (.assign (.tmp 32))
 d5:ahZ #[o 15,o 16,o 17,o 18,o 19,o 20,o 21,o 22]=true
section
variable {P:Program}{f t ti el:Nat}{fn:Func}{r:Nat->Nat}{o:Nat->Oper}{ie:TypeInfo}{size n c i j g:Nat}{ad:Option Addr}{w:World}
end
section
variable {P:Program}{c:Ctx}{f:Nat}
end
end Dn
/-
  slices.IndexFunc and slices.DeleteFunc of the library, walked, with whatever function. Conditions: none.
-/
namespace Dn
open Go
section
variable {P:Program}{Q:Exit->Act->World->Prop}{ops:Array Oper}{o:Oper}{a:Act} {w w':World}{n:Nat} {σ:Nat->Value}
theorem tm2 (v0 v1:Value)(k:Nat):Tm {tmps:= #[v0,v1]++No k undef,defers:=[]} (k+2) (Aq (Aq (λ_=>undef) 0 v0) 1 v1):=by
 refine ⟨rfl,by simp [af6],λq=> ?_⟩;by_cases h0:q=0
 ·subst h0;show (#[v0,v1]++No k undef).getD 0 undef=v0;simp [acv]
 by_cases h1:q=1
 ·subst h1;show (#[v0,v1]++No k undef).getD 1 undef=v1;simp [acv]
 have e: ∀{x y:Nat},x≠y->abG x y=false:=λ{x y} h=>by
  cases hq:abG x y with
  |false=>rfl
  |true=>exact absurd (AI hq) h
 simp only [Aq,e h0,e h1,cond_false];have h3:2<=q:=by omega
 simp [acv,afS,show¬q<2 by omega];by_cases hk:q-2<k<;>simp [hk]
theorem Tm.call {i d:Nat}{op:Op}{rest:List Nat}{f:Nat}{args:Array Value}{Rp:Value->World->Prop}(aN:Tm a n σ)(hi:ops[i]? =some o)(ho:az o d op)(hd:d<n)(cr:(execOp (ev σ) o).run P w=(callFunc f args).run P w)(hc:dQ P f args w Rp)(h: ∀v w' a',Rp v w'->Tm a' n (Aq σ d v)->wpOps P ops Q rest a' w'):wpOps P ops Q (i::rest) a w:=by rw [wpOps_cons];unfold wpOp;simp only [hi,aaK,ho.guard,if_true];left;refine Ah (by rw [aN.eval];exact cr) hc ?_;intro v w' hr;rw [ho.dst];exact h v w' _ hr (aN.put hd v)
theorem HQ {d:Nat}{t:TypeId}{e:Operand->Value}{i:TypeInfo}{z:Value}(ho:az o d (.alloc t))(hi:P.info? t=some i)(hz:i.zero=some z)(w:World): (execOp e o).run P w= .ok (.value (.pointer (some ⟨w.heap.size,0,none⟩))) (w.alloc (.cells z.cells t)):=by simp [execOp,ho.op,Instr.alloc,zeroValue,typeInfo,hi,hz,newVar,newRow,newObj,Sem.run]
theorem yh {c:Ctx}{t:TypeId}{I:TI}{x y:Operand}{e:Operand->Value}{g off:Nat}{v:Value}{arr:Array Value}{T:TypeId}(ho:ul o (.store t x y))(hr:rQ c.ti P t I)(hc:I.cQ=[])(hx:e x= .pointer (some ⟨g,off,none⟩))(hy:e y=v)(hs:v.cells.toList.length=I.size)(ml: ∀u∈v.cells.toList,u.oneCell'=true)(fG:w.heap[g]? =some (.cells arr T (0,0)))(Il:off+I.size<=arr.size): (execOp e o).run P w= .ok .skip (w.setRow g (arr.toList.take off++v.cells.toList++arr.toList.drop (off+I.size)).toArray):=by have:=sD (P:=P) (w:=w) hr hc hs ml fG Il;simp [execOp,ho.op,hx,hy,this]
theorem Tm.Jg {i:Nat}{op:Op}{rest:List Nat}(aN:Tm a n σ)(hi:ops[i]? =some o)(ho:ul o op)(cr:(execOp (ev σ) o).run P w= .ok .skip w')(h:wpOps P ops Q rest a w'):wpOps P ops Q (i::rest) a w:=by rw [wpOps_cons];unfold wpOp;simp only [hi,aaK,ho.guard,if_true];left;unfold ags;rw [aN.eval,cr];simp only [aeU];rw [ho.dst];exact h
theorem QN {d:Nat} {t t':TypeId}{x y:Operand}{e:Operand->Value}{p q:Int}(ho:az o d (.binOp .lss t x y t'))(hx:e x= .int .i64 p)(hy:e y= .int .i64 q)(w:World): (execOp e o).run P w= .ok (.value (.bool (decide (p<q)))) w:=xc ho hx hy (λw=>by simp [afy,aic]) w
theorem ael {d:Nat}{x y:Operand}{t:Array TypeId}{e:Operand->Value}{g:Nat}{lb:Array Value}{v:Value}(ho:az o d (.call {callee:= .value x,args:= #[y],argTypes:=t})) (hx:e x= .func (.func g) #[] lb) (hy:e y=v) (w:World): (execOp e o).run P w=(callFunc g (#[v]++lb)).run P w:=by simp [execOp,ho.op,resolve,invoke,hx,hy,adN]
end
structure aqE (t el ti:Nat) (o:Nat->Oper):Prop where
 h0:az (o 0) 4 (.assign (.const (.int .i64 0)))
 h1:az (o 1) 6 (.move (.tmp 0))
 h2:az (o 2) 7 (.call {callee:= .builtin .len,args:= #[.tmp 6],argTypes:= #[t]})
 h3:az (o 3) 8 (.move (.const (.int .i64 0)))
 h4:az (o 4) 9 (.binOp .lss ti (.tmp 8) (.tmp 7) ti)
 h5:az (o 5) 10 (.move (.tmp 8))
 h6:az (o 6) 5 (.assign (.tmp 10))
 h7:az (o 7) 11 (.move (.tmp 1))
 h8:az (o 8) 12 (.move (.tmp 0))
 h9:az (o 9) 13 (.move (.tmp 5))
 Ot:az (o 10) 14 (.indexAddr t (.tmp 12) (.tmp 13))
 HO:az (o 11) 15 (.load el (.tmp 14))
 TH:az (o 12) 16 (.call {callee:= .value (.tmp 11),args:= #[.tmp 15],argTypes:= #[el]})
 TJ:az (o 13) 17 (.move (.tmp 5))
 TM:az (o 14) 4 (.assign (.tmp 17))
 TN:az (o 15) 18 (.binOp .add ti (.tmp 8) (.const (.int .i64 1)) ti)
 OB:az (o 16) 8 (.move (.tmp 18))
 Vt:az (o 17) 4 (.assign (.const (.int .i64 (-1))))
section
variable {P:Program}{c:Ctx}{f t ti el:Nat}{fn:Func}{r:Nat->Nat}{o:Nat->Oper}{E:TI}{n cp g0 g:Nat}{ad:Option Addr}{ob:Option Nat}{w:World}{lb:Array Value}{S:Type}{Inv:S->(Nat->Prop)->Ph->World->Prop}{step:S->MV->Option (Bool×S)}
end
end Dn
/-
  slices.DeleteFunc of the library, walked, with whatever function. Conditions: none.
-/
namespace Dn
open Go
theorem Ar {P:Program}{f:Nat}{fn:Func}{b:Code}{args:Array Value}{w:World}{R:Value->World->Prop}(iY:P.funcs[f]? =some fn)(Am:(fn.name== "runtime.NumGoroutine")=false)(rU:fn.body=some b)
 (h:Calls P f args w λe W=> ∃v,e= .returned v/\R v W):dQ P f args w R:=by
 have cr:(callFunc f args).run P w= .ok (.enter f args) w:=by
  have Lk: ¬fn.name= "runtime.NumGoroutine" :=by simpa using Am
  simp [callFunc,iY,Lk,rU]
 unfold dQ;rw [cr];exact h
structure aoD (t el ti tb fu fi:Nat) (o:Nat->Oper):Prop where
 h0:az (o 0) 4 (.assign (.const (.slice none 0 0)))
 h1:az (o 1) 8 (.move (.tmp 0))
 h2:az (o 2) 9 (.move (.tmp 1))
 h3:az (o 3) 10 (.call {callee:= .value (.func fi),args:= #[.tmp 8,.tmp 9],argTypes:= #[t,fu]})
 h4:az (o 4) 5 (.assign (.tmp 10))
 h5:az (o 5) 11 (.move (.tmp 5))
 h6:az (o 6) 12 (.binOp .eql ti (.tmp 11) (.const (.int .i64 (-1))) ti)
 h7:az (o 7) 13 (.move (.tmp 0))
 h8:az (o 8) 4 (.assign (.tmp 13))
 h9:az (o 9) 14 (.move (.tmp 5))
 Ot:az (o 10) 15 (.binOp .add ti (.tmp 14) (.const (.int .i64 1)) ti)
 HO:az (o 11) 6 (.assign (.tmp 15))
 TH:az (o 12) 16 (.move (.tmp 6))
 TJ:az (o 13) 17 (.move (.tmp 0))
 TM:az (o 14) 18 (.call {callee:= .builtin .len,args:= #[.tmp 17],argTypes:= #[t]})
 TN:az (o 15) 19 (.binOp .lss ti (.tmp 16) (.tmp 18) ti)
 OB:az (o 16) 22 (.move (.tmp 0))
 Vt:az (o 17) 23 (.move (.tmp 6))
 Vu:az (o 18) 24 (.indexAddr t (.tmp 22) (.tmp 23))
 h19:az (o 19) 25 (.load el (.tmp 24))
 h20:az (o 20) 7 (.alloc el)
 Vv:ul (o 21) (.store el (.tmp 7) (.tmp 25))
 Vw:az (o 22) 26 (.move (.tmp 1))
 h23:az (o 23) 27 (.load el (.tmp 7))
 h24:az (o 24) 28 (.call {callee:= .value (.tmp 26),args:= #[.tmp 27],argTypes:= #[el]})
 h25:az (o 25) 29 (.unOp .not tb (.tmp 28))
 h26:az (o 26) 30 (.move (.tmp 0))
 h27:az (o 27) 31 (.move (.tmp 5))
 h28:az (o 28) 32 (.load el (.tmp 7))
 h29:az (o 29) 33 (.indexAddr t (.tmp 30) (.tmp 31))
 h30:ul (o 30) (.store el (.tmp 33) (.tmp 32))
 h31:az (o 31) 34 (.move (.tmp 5))
 h32:az (o 32) 35 (.binOp .add ti (.tmp 34) (.const (.int .i64 1)) ti)
 h33:az (o 33) 5 (.assign (.tmp 35))
 h34:az (o 34) 20 (.move (.tmp 6))
 h35:az (o 35) 21 (.binOp .add ti (.tmp 20) (.const (.int .i64 1)) ti)
 h36:az (o 36) 6 (.assign (.tmp 21))
 h37:az (o 37) 36 (.move (.tmp 0))
 h38:az (o 38) 37 (.move (.tmp 5))
 h39:az (o 39) 38 (.slice t (.tmp 36) (some (.tmp 37)) none none)
 h40:ul (o 40) (.call {callee:= .builtin .clear,args:= #[.tmp 38],argTypes:= #[t]})
 h41:az (o 41) 39 (.move (.tmp 0))
 h42:az (o 42) 40 (.move (.tmp 5))
 h43:az (o 43) 41 (.slice t (.tmp 39) none (some (.tmp 40)) none)
 h44:az (o 44) 4 (.assign (.tmp 41))
section
variable {P:Program}{c:Ctx}{f fi t ti tb fu el:Nat}{fn fni:Func}{r ri:Nat->Nat}{o oi:Nat->Oper}{E:TI}{cp g0 g:Nat}{ad:Option Addr}{ob:Option Nat}{w W W2:World}{lb:Array Value}{S:Type}{Inv:S->(Nat->Prop)->Ph->World->Prop}{step:S->MV->Option (Bool×S)}{Z0 Z:Nat->Prop} {φ0 φ:Ph}{s:S}
theorem ad6.move (hp:I8 P c g lb Inv step)(hW:ad6 c ob Inv Z0 φ0 w s Z φ W)(rR:W.heap.size<=W2.heap.size)(je: ∀b,b<W.heap.size->ob≠some b->W2.heap[b]? =W.heap[b]?)(vE:Rest W W2)(hnz: ∀b,ob=some b-> ¬Z b): ad6 c ob Inv Z0 φ0 w s (λb=>(Z b/\b<W.heap.size)\/W2.heap.size<=b) φ W2:=by
 have hws:=hW.tr.size;refine ⟨hp.mono (hp.frame hW.inv rR λb hz hb=>je b hb (λe=>hnz b e hz)) λb hb=> .inl hb,λb hb=> .inr hb,λb hb=> ?_,λb off v hv=> ?_,?_,hW.free⟩
 ·rcases hb with hb|hb
  ·exact hW.sub b hb.1
  ·exact .inr (by omega)
 ·have h1:=hW.kP b off v hv;have cJ:=abz W _ h1;have di:ob≠some b:=by intro e;rw [hW.free b off e] at hv;cases hv
  rw [acZ (je b cJ di)];exact h1
 ·refine hW.tr.trans ⟨.refl _,λb hb cJ=> ?_,λ_ _ _=>rfl,rR,vE⟩;exact je b cJ (λe=>hb (.inr e))
end
end Dn
/-
  A step for each one that is not bad. Conditions: none.
-/
namespace Dn
def iO {S:Type}(step:Nat->S->Option S):List Bool->Nat->S->Option S
 |[],_,s=>some s
 |b::r,i,s=>match (if b then some s else step i s) with|some s'=>iO step r (i+1) s'|none=>none
end Dn
/-
  A method that calls a function for each good one, walked, with whatever function; closures that hand a captured variable on. Conditions: none.
-/
namespace Dn
open Go
section
variable {P:Program}{c:Ctx}{ops:Array Oper}{N:Act->World->Prop} {φ:Ph}{o:Oper}{a:Act} {w w':World}{n:Nat} {σ:Nat->Value}{Q:Exit->Act->World->Prop}
structure DS (c:Ctx) (ops:Array Oper) (pre rest:List Nat) (listed:Array Bool):Prop where
 lst:YH ops listed pre
 dr:rO c ops.toList pre rest=true
 all: ∀i,i<ops.size->i∈pre\/i∈rest
 lt: ∀i∈pre,i<ops.size
 sel: ∀(j:Nat) (o:Oper) cs b,ops[j]? =some o->o.op≠ .select cs b
theorem DS.facts {x:Nat}{rest pre:List Nat}{listed:Array Bool}(h:DS c ops pre (x::rest) listed)(hx:ops[x]? =some o): x∉pre/\x∉rest/\x∈IT .any ops listed/\DS c ops (x::pre) rest (listed.setIfInBounds x true)/\ (bif kE o&&!jC c o then rN c ops.toList o [x] rest else (rest.all λy=>match ops.toList[y]? with
   |some p=>bif DC p then H5 ops.toList p o&&ag3 c p else xM p (λi=>abG i x||(bJ rest i&&!ag4 ops.toList i))
   |none=>false))=true:=by
 have Tz:x<ops.size:=(aaU.1 hx).1;have hd:=h.dr;have hox:ops.toList[x]? =some o:=by simpa using hx
 simp only [rO,hox] at hd;simp only [cV,aau] at hd;obtain ⟨⟨⟨⟨d1,d2⟩,d3⟩,d4⟩,d5⟩:=hd;have DU:x∉pre:=by rw [<-bL,d2];simp
 have Ox:x∉rest:=by rw [<-bL,d3];simp
 refine ⟨DU,Ox,?_,⟨h.lst.set Tz,d5,?_,?_,h.sel⟩,?_⟩
 ·refine mem_ready.2 ⟨(h.lst.rV Tz).2 DU,o,hx,λed Xi hb=> ?_⟩;have:=aaP.1 d1 ed (by simpa using Xi);simp only [qO,hb,aej,afO] at this;have hm:=(bL _ _).1 this;exact (h.lst.done (h.lt _ hm)).2 hm
 ·intro i hi;rcases h.all i hi with h1|h1
  ·exact .inl (by simp [h1])
  ·rcases AT.1 h1 with h1|h1
   ·exact .inl (by simp [h1])
   ·exact .inr h1
 ·intro i hi;rcases AT.1 hi with rfl|hi
  ·exact Tz
  ·exact h.lt i hi
 ·exact d4
theorem aem {o:Oper}(h:ni o=true):mi c o=true:=by simp [mi,h]
theorem DS.read {x d:Nat}{rest pre:List Nat}{listed:Array Bool}{op:Op}{v:Value}(h:DS c ops pre (x::rest) listed)(hx:ops[x]? =some o)(ho:az o d op)(hd:d<n)(NS:kE o=true)(hmv:jC c o=false)(iF:still c o=false)(hlk:CM o=none)(aN:Tm a n σ)(hi:qy φ w)(cr: ∀w',(ni o=true->dN w w')->(execOp (ev σ) o).run P w'= .ok (.value v) w')(Vc: ∀a',Tm a' n (Aq σ d v)->DS c ops (x::pre) rest (listed.setIfInBounds x true)->B4 P c ops N φ rest.length (listed.setIfInBounds x true) a' w):B4 P c ops N φ (rest.length+1) listed a w:=by
 obtain ⟨DU,Ox,ye,B1,d4⟩:=h.facts hx;simp only [NS,hmv,ahO,Bool.and_self,cond_true] at d4;obtain ⟨D,D1,D2,D3,D4⟩:=Cm rest [x] d4 (λy hy di=>absurd (by simpa using hy) di);have hL:=h.lst;refine CZ (v:=v) D3 hx h.sel rest.length listed a w ?_ ?_ ye ?_ hi ?_
 ·intro j oj YG hjD hjx Xg;have aaF:j<ops.size:=(aaU.1 YG).1;have hjr:j∈rest:=by
   rcases h.all j aaF with h1|h1
   ·exact absurd h1 ((hL.rV aaF).1 Xg)
   ·rcases AT.1 h1 with h1|h1
    ·exact absurd h1 hjx
    ·exact h1
  obtain ⟨p,hp1,Mk,hp3⟩:=D4 j hjr hjD;rw [YG] at hp1;cases hp1;exact ⟨Mk,λhl hs=>by simp [sE,YG,hp3 hl hs]⟩
 ·intro d hd;have PD:d∉pre:=by
   rcases D2 d hd with h1|h1
   ·have h1:d=x:=by simpa using h1
    rw [h1];exact DU
   ·exact λhp=>pE rest (x::pre) B1.dr d h1 (by simp [hp])
  by_cases WX:d<ops.size
  ·cases hg:listed.getD d false with
   |false=>rfl
   |true=>exact absurd ((hL.done WX).1 hg) PD
  ·have hl: ¬d<listed.size:=by rw [hL.size];exact WX
   simp [hl]
 ·refine .inl ⟨by simp [aaK,ho.guard],λw' hg=> ?_⟩;rw [aN.eval];refine cr w' (λhl=> ?_);have:=(hg (aem hl)).1 iF;simpa [fK,Tp,hlk] using this
 ·rw [ho.dst];exact Vc _ (aN.put hd v) B1
theorem DS.aen {x:Nat}{rest pre:List Nat}{listed:Array Bool}(h:DS c ops pre (x::rest) listed)(hx:ops[x]? =some o)(B3: ∀y∈rest,∀p,ops[y]? =some p->DC p=false)(hnr:(kE o&&!jC c o)=false)(hw:wpOp P ops (tc N) x (λa' w'=>((∀oi,sE c oi ops x=true->fK c oi w w')/\qy φ w')/\B4 P c ops N φ rest.length (listed.setIfInBounds x true) a' w') a w):B4 P c ops N φ (rest.length+1) listed a w:=by
 obtain ⟨DU,Ox,ye,B1,d4⟩:=h.facts hx;simp only [hnr,cond_false] at d4;refine ⟨λh0=>(by rw [h0] at ye;cases ye),λi hi=> ?_⟩;obtain ⟨WQ,oi,Xj,TD⟩:=mem_ready.1 hi;have Xk:i<ops.size:=(aaU.1 Xj).1;have qB:=(h.lst.rV Xk).1 WQ;by_cases MC:i=x
 ·subst MC;exact hw
 ·exfalso;have hir:i∈rest:=by
   rcases h.all i Xk with h1|h1
   ·exact absurd h1 qB
   ·exact (AT.1 h1).resolve_left MC
  have h1:=aaP.1 d4 i hir;have ahR:ops.toList[i]? =some oi:=by simpa using Xj
  simp only [ahR,B3 i hir oi Xj,cond_false] at h1;unfold xM at h1;obtain ⟨ed,Xi,hb⟩:=aef.1 h1;simp only [cV,aeN,qO] at hb;have Cn:=TD ed (by simpa using Xi) hb.1;have uX:ed.on=x\/ed.on∈rest:=by
   rcases hb.2 with h2|h2
   ·exact .inl (AI h2)
   ·exact .inr ((bL _ _).1 h2.1)
  have cJ:ed.on<listed.size:=by apply Decidable.byContradiction;intro hh;simp [hh] at Cn
  have hm:=(h.lst.done (by rw [<-h.lst.size];exact cJ)).1 Cn;rcases uX with h2|h2
  ·rw [h2] at hm;exact DU hm
  ·exact pE rest (x::pre) B1.dr _ h2 (by simp [hm])
theorem DS.done {pre:List Nat}{listed:Array Bool}(h:DS c ops pre [] listed)(hN:N a w):B4 P c ops N φ 0 listed a w:=by
 refine ⟨?_,hN⟩;cases hr:IT .any ops listed with
 |nil=>rfl
 |cons i is=>
  have hi:i∈IT .any ops listed:=by rw [hr];simp
  obtain ⟨h1,o,ho,_⟩:=mem_ready.1 hi;have cJ:i<ops.size:=(aaU.1 ho).1;exact absurd ((h.all i cJ).resolve_right (by simp)) ((h.lst.rV cJ).1 h1)
theorem QO {id:Nat}{ord:List Nat}(hm:P.follows .mixedOrders=true)(hd:ub c ops ord=true)(h: ∀listed,DS c ops [] ord listed->B4 P c ops (λa w=>Q .normal a w) φ ord.length listed a {w with drawn:=w.drawn+1}):(ac7 id ops true).wp P Q a w:=by
 simp only [ub,cV] at hd;obtain ⟨⟨⟨WG,U5⟩,ku⟩,hd⟩:=hd;have Lw: ∀(j:Nat) (o:Oper) cs b,ops[j]? =some o->o.op≠ .select cs b:=by intro j o cs b ho he;have:=aaP.1 WG o (aet (by simpa using ho:ops.toList[j]? =some o));simp [he] at this
 have hlen:ord.length=ops.size:=by have:=AI U5;simpa using this
 refine aed (Q:=tc λa w=>Q .normal a w) ?_ (wp_region_any hm (QF (c:=c) (φ:=φ) _ _ _ _ ?_))
 ·intro x a' w' hx;cases x<;>first|exact hx|exact hx.elim
 ·rw [<-hlen];exact h _ ⟨⟨by simp [hlen],λi hi=>by simp [hlen,hi]⟩,hd,λi hi=> .inr ((bL _ _).1 (aaP.1 ku i (by simpa using hi))),by simp,Lw⟩
theorem Tm.Vx {x d:Nat}{op:Op}{f:Nat}{args:Array Value}{Rp:Value->World->Prop}{K:Act->World->Prop}(aN:Tm a n σ)(hi:ops[x]? =some o)(ho:az o d op)(hd:d<n)(cr:(execOp (ev σ) o).run P w=(callFunc f args).run P w)(hc:dQ P f args w Rp)(h: ∀v w' a',Rp v w'->Tm a' n (Aq σ d v)->K a' w'):wpOp P ops Q x K a w:=by unfold wpOp;simp only [hi,aaK,ho.guard,if_true];left;refine Ah (by rw [aN.eval];exact cr) hc ?_;intro v w' hr;rw [ho.dst];exact h v w' _ hr (aN.put hd v)
end
section
variable {P:Program}{c:Ctx}{o:Oper} {w w':World}{d:Nat}{e:Operand->Value}
theorem As {t f g off q:Nat}{x:Operand}{I:TI}(ho:az o d (.fieldAddr t x f))(hT:kq P c.ti)(hI:c.tv t=some I)(iF:I.st=true)(hq:I.HW[f]? =some q)(hx:e x= .pointer (some ⟨g,off,none⟩))(w:World):(execOp e o).run P w= .ok (.value (.pointer (some ⟨g,off+q,none⟩))) w:=by
 obtain ⟨nV,hc⟩:=bG hI;obtain ⟨d,i,h1,h2,h3,h4⟩:=hT t I nV;cases d<;>simp only [wS] at h4;case struct fs=>
  obtain ⟨_,_,_,Wn,cU,P6,_⟩:=h4;rw [<-Wn,List.getElem?_map] at hq;cases hf:fs.toList[f]? with
  |none=>simp [hf] at hq
  |some fl=>
   simp [hf] at hq;subst hq;have Zp:fs[f]? =some fl:=by simpa using hf
   obtain ⟨J,hJ,hJc,hJs⟩:=P6 f fl Zp;obtain ⟨ij,hij,hs,_⟩:=(hT _ _ hJ).info hJc;have hz:ij.size≠0:=by omega
   simp [execOp,ho.op,hx,Instr.fieldAt,run_underlying h1,Zp,ahQ,fieldPlace,aeT,typeInfo,hij,hz,adM]
 all_goals (exfalso;simp_all)
theorem eY {t g off:Nat}{I:TI}{v:Value}(hT:kq P c.ti)(hI:c.tv t=some I)(iF:I.st=false)(hs:I.size=1)(hm:w.cell? ⟨g,off,none⟩=some v):(acX t (.pointer (some ⟨g,off,none⟩))).run P w= .ok v w:=by
 obtain ⟨nV,hc⟩:=bG hI;have hr:w.rangeAt g off [v]:=by
  intro j u hj;cases j with
  |zero=>simp at hj;subst hj;exact hm
  |succ j=>simp at hj
 rcases pB (P:=P) (hT t I nV) hc (vs:=[v]) (by simp [hs]) hr with ⟨h,_⟩|⟨_,u,hu,h⟩
 ·rcases h with h|h
  ·rw [iF] at h;cases h
  ·omega
 ·simp at hu;subst hu;exact h w hr
theorem oP {t g off:Nat}{I:TI}{vs:List Value}(hT:kq P c.ti)(hI:c.tv t=some I)(iF:I.st=true)(hs:vs.length=I.size)(hm:w.rangeAt g off vs):(acX t (.pointer (some ⟨g,off,none⟩))).run P w= .ok (.agg vs.toArray) w:=by
 obtain ⟨nV,hc⟩:=bG hI;rcases pB (P:=P) (hT t I nV) hc hs hm with ⟨_,h⟩|⟨h,_⟩
 ·exact h w hm
 ·rw [iF] at h;cases h
theorem kH {t:Nat}{x:Operand}{v:Value}(ho:az o d (.load t x))(h:(acX t (e x)).run P w= .ok v w):(execOp e o).run P w= .ok (.value v) w:=by simp [execOp,ho.op,h]
theorem ah0 {x:Operand}{ad:Addr}(ho:az o d (.nilCheck x))(hx:e x= .pointer (some ad))(w:World):(execOp e o).run P w= .ok (.value (.pointer (some ad))) w:=by simp [execOp,ho.op,hx]
theorem Vy {t el:TypeId}{x y:Operand}{g off n cp j size:Nat}{i:TypeInfo}(ho:az o d (.indexAddr t x y))(hu:P.underlying t=some (.slice el))(hi:P.info? el=some i)(hs:i.size=size)(hx:e x= .slice (some ⟨g,off,none⟩) n cp)(hy:e y= .int .i64 ((j:Nat):Int))(hj:j<n)(w:World):(execOp e o).run P w= .ok (.value (.pointer (some ⟨g,off+j *size,none⟩))) w:=by
 have h2: ¬n<=j:=by omega
 simp [execOp,ho.op,hx,hy,Instr.indexAt,asIntOf,run_underlying hu,h2,aeT,typeInfo,hi,hs,adM]
theorem aeo {t:Nat}{x:Operand}(ho:az o d (.box t x))(w:World):(execOp e o).run P w= .ok (.value (.pointer (some ⟨w.heap.size,0,none⟩))) (w.alloc (.cells (e x).cells t)):=by simp [execOp,ho.op,Instr.box,newVar,newRow,newObj,Sem.run]
theorem TQ {f:Nat}{x y:Operand}(ho:az o d (.makeFunc (.func f) #[] #[x,y]))(w:World):(execOp e o).run P w= .ok (.value (.func (.func f) #[] #[e x,e y])) w:=by simp [execOp,ho.op,Instr.makeFunc]
theorem Vz {t t':TypeId}{x y:Operand}{p q:Int}(ho:az o d (.binOp .add t x y t'))(hx:e x= .int .i64 p)(hy:e y= .int .i64 q)(w:World):(execOp e o).run P w= .ok (.value (.int .i64 (adf .i64 (p+q)))) w:=xc ho hx hy (λw=>by simp [afy,ahD]) w
theorem aep {x:Operand}{t:TypeId}{g:Nat}{v:Value}(ho:az o d (.call {callee:= .value (.func g),args:= #[x],argTypes:= #[t]})) (he:e (.func g)= .func (.func g) #[] #[]) (hx:e x=v) (w:World):(execOp e o).run P w=(callFunc g #[v]).run P w:=by simp [execOp,ho.op,resolve,invoke,he,hx,adN]
theorem BD {x y:Operand}{t:Array TypeId}{g:Nat}{v u:Value}(ho:az o d (.call {callee:= .value (.func g),args:= #[x,y],argTypes:=t})) (he:e (.func g)= .func (.func g) #[] #[]) (hx:e x=v) (hy:e y=u) (w:World):(execOp e o).run P w=(callFunc g #[v,u]).run P w:=by simp [execOp,ho.op,resolve,invoke,he,hx,hy,adN]
theorem VA {x y z:Operand}{t:Array TypeId}{g:Nat}{v u s:Value}(ho:az o d (.call {callee:= .value (.func g),args:= #[x,y,z],argTypes:=t})) (he:e (.func g)= .func (.func g) #[] #[]) (hx:e x=v) (hy:e y=u) (hz:e z=s) (w:World):(execOp e o).run P w=(callFunc g #[v,u,s]).run P w:=by simp [execOp,ho.op,resolve,invoke,he,hx,hy,hz,adN]
end
def Jh (r:Nat->Nat)(o:Nat->Oper):Code:= .seq (.region (r 0) #[o 0,o 1,o 2,o 3,o 4,o 5] false) (.block 0 (.loop (.seq (.region (r 1) #[o 6] false) (.seq (.cond (.tmp 12) .skip (.exit 0)) (.seq (.block 1 (.seq (.region (r 2) #[o 7,o 8,o 9,o 10,o 11] false) (.seq (.region (r 3) #[o 12,o 13] false) (.cond (.tmp 17) (.region (r 4) #[o 14,o 15,o 16] false) .skip)))) (.region (r 5) #[o 17,o 18] false))))))
structure aeq (tS tb tB ti:Nat) (o:Nat->Oper):Prop where
 h0:az (o 0) 6 (.move (.tmp 0))
 h1:az (o 1) 7 (.nilCheck (.tmp 6))
 h2:az (o 2) 8 (.fieldAddr tS (.tmp 7) 1)
 h3:az (o 3) 9 (.load tb (.tmp 8))
 h4:az (o 4) 10 (.call {callee:= .builtin .len,args:= #[.tmp 9],argTypes:= #[tb]})
 h5:az (o 5) 11 (.move (.const (.int .i64 0)))
 h6:az (o 6) 12 (.binOp .lss ti (.tmp 11) (.tmp 10) ti)
 h7:az (o 7) 13 (.move (.tmp 11))
 h8:az (o 8) 14 (.indexAddr tb (.tmp 9) (.tmp 11))
 h9:az (o 9) 15 (.load tB (.tmp 14))
 Ot:az (o 10) 4 (.assign (.tmp 13))
 HO:az (o 11) 5 (.assign (.tmp 15))
 TH:az (o 12) 16 (.move (.tmp 5))
 TJ:az (o 13) 17 (.unOp .not tB (.tmp 16))
 TM:az (o 14) 18 (.move (.tmp 1))
 TN:az (o 15) 19 (.move (.tmp 4))
 OB:az (o 16) 20 (.call {callee:= .value (.tmp 18),args:= #[.tmp 19],argTypes:= #[ti]})
 Vt:az (o 17) 21 (.binOp .add ti (.tmp 11) (.const (.int .i64 1)) ti)
 Vu:az (o 18) 11 (.move (.tmp 21))
structure aaQ (P:Program) (f tS tb tB ti:Nat) (fn:Func) (r:Nat->Nat) (o:Nat->Oper):Prop where
 pos:P.funcs[f]? =some fn
 name:(fn.name== "runtime.NumGoroutine")=false
 tmps:fn.ntmps=22
 res:fn.results= #[]
 body:fn.body=some (Jh r o)
 ops:aeq tS tb tB ti o
 Je:P.underlying tb=some (.slice tB)
theorem al8 {P:Program}{fn:Func}{n:Nat}{a:Act}{w:World} {σ:Nat->Value}{R:Value->World->Prop}(hr:fn.results= #[])(aN:Tm a n σ)(h: ∀v,R v w):bodyPost P fn (λe W=> ∃v,e= .returned v/\R v W) .normal a w:=by refine ⟨aN.defers,.tuple #[],?_,_,rfl,h _⟩;simp [results,hr]
section
variable {P:Program}{c:Ctx}{f tS tb tB ti:Nat}{fn:Func}{r:Nat->Nat}{o:Nat->Oper}{IS Ib IB:TI}{w:World}
theorem ML {S:Type}(hf:aaQ P f tS tb tB ti fn r o)(hT:kq P c.ti)(hS:c.tv tS=some IS)(hSt:IS.st=true)(hSf:IS.HW[1]? =some 2)(hb:c.tv tb=some Ib)(u6:Ib.st=false)(qx:Ib.size=1)(hB:c.tv tB=some IB)(hB1:IB.st=false)(hB2:IB.size=1){Inv:S->World->Prop}{step:Nat->S->Option S}{g:Nat}{lb:Array Value}{bc:Nat}{ad:Option Addr}{cp:Nat}{bl:List Bool} {s0 s':S}(Ai: ∀s s' W (i:Nat),i<bl.length->Inv s W->step i s=some s'->dQ P g (#[.int .i64 (i:Int)]++lb) W λ_ W'=>Inv s' W')(hc0:w.cell? ⟨bc,2,none⟩=some (.slice ad bl.length cp))(S0:0<bl.length-> ∃bt off,ad=some ⟨bt,off,none⟩/\ ∀s W,Inv s W-> ∀k (h:k<bl.length),W.cell? ⟨bt,off+k,none⟩=some (.bool bl[k]))(hlen:bl.length<2^62)(hinv:Inv s0 w)(hd:iO step bl 0 s0=some s'): dQ P f #[.pointer (some ⟨bc,0,none⟩),.func (.func g) #[] lb] w λ_ W=>Inv s' W:=by
 refine Ar hf.pos hf.name hf.body (calls_of_wp hf.pos hf.body ?_);rw [hf.tmps];obtain ⟨hBi,hBc⟩:=bG hB;obtain ⟨iB,zB,hiB,hsB,awh,awi,awj⟩:=lJ (hT _ IB hBi) hBc;have key: ∀a:Act,Tm a 22 (Aq (Aq (λ_=>undef) 0 (.pointer (some ⟨bc,0,none⟩))) 1 (.func (.func g) #[] lb))->(Jh r o).wp P (bodyPost P fn λe W=> ∃v,e= .returned v/\Inv s' W) a w:=by
  intro a aN;unfold Jh;refine wp_seq (wp_region ?_);rw [show BY (#[o 0,o 1,o 2,o 3,o 4,o 5]:Array Oper).size=[0,1,2,3,4,5] from rfl];refine aN.step (v:= .pointer (some ⟨bc,0,none⟩)) rfl hf.ops.h0 (by decide) (bF hf.ops.h0 _) (λa aN=> ?_);refine aN.step rfl hf.ops.h1 (by decide) (ah0 hf.ops.h1 rfl _) (λa aN=> ?_);refine aN.step rfl hf.ops.h2 (by decide) (As hf.ops.h2 hT hS hSt hSf rfl _) (λa aN=> ?_);refine aN.step rfl hf.ops.h3 (by decide) (kH hf.ops.h3 (eY hT hb u6 qx (by simpa using hc0))) (λa aN=> ?_);refine aN.step (v:= .int .i64 ((bl.length:Nat):Int)) rfl hf.ops.h4 (by decide) (vG hf.ops.h4 hf.Je rfl _) (λa aN=> ?_);refine aN.step (v:= .int .i64 0) rfl hf.ops.h5 (by decide) (bF hf.ops.h5 _) (λa aN=> ?_);refine wp_block (wp_loop (λa W=> ∃σ,Tm a 22 σ/\σ 1= .func (.func g) #[] lb/\σ 9= .slice ad bl.length cp/\σ 10= .int .i64 ((bl.length:Nat):Int)/\ ∃k:Nat,k<=bl.length/\σ 11= .int .i64 (k:Int)/\ ∃sk,Inv sk W/\iO step (bl.drop k) k sk=some s') (λa W=>match a.tmps.getD 11 undef with| .int _ k=>bl.length-k.toNat|_=>0) ?_ ?_)
  ·exact ⟨_,aN,rfl,rfl,rfl,0,aer _,rfl,s0,hinv,by simpa using hd⟩
  ·clear aN;rintro a W ⟨σ,aN,h1,h9,Ot,k,hk,HO,sk,hI,Sy⟩;have al9:(match a.tmps.getD 11 undef with| .int _ k=>bl.length-k.toNat|_=>0)=bl.length-k:=by rw [aN.get 11,HO];simp
   rw [al9];clear al9;refine wp_seq (wp_region ?_);rw [show BY (#[o 6]:Array Oper).size=[0] from rfl];refine aN.step (v:= .bool (decide ((k:Int)<(bl.length:Int)))) rfl hf.ops.h6 (by decide) (QN hf.ops.h6 HO Ot _) (λa aN=> ?_);refine wp_seq ?_;by_cases cJ:k<bl.length;rotate_left
   ·refine aN.cond (b:=false) (by show acW (decide ((k:Int)<(bl.length:Int)))=_;rw [decide_eq_false (by omega)]) ?_;simp only [OF,if_false];refine wp_exit ?_;have hkn:k=bl.length:=by omega
    subst hkn;rw [ahC] at Sy;simp only [iO,sh] at Sy;subst Sy;exact al8 hf.res aN (λ_=>hI)
   ·refine aN.cond (b:=true) (by show acW (decide ((k:Int)<(bl.length:Int)))=_;rw [decide_eq_true (by omega)]) ?_;simp only [if_true];refine wp_skip ?_;obtain ⟨bt,off,aqG,cc⟩:=S0 (by omega);have sN:=cc sk W hI k cJ;have h9':=h9;rw [aqG] at h9';have hdr:bl.drop k=bl[k]::bl.drop (k+1):=List.drop_eq_getElem_cons cJ;rw [hdr] at Sy;simp only [iO] at Sy;refine wp_seq (wp_block ?_);refine wp_seq (wp_region ?_);rw [show BY (#[o 7,o 8,o 9,o 10,o 11]:Array Oper).size=[0,1,2,3,4] from rfl];refine aN.step (v:= .int .i64 (k:Int)) rfl hf.ops.h7 (by decide) ((bF hf.ops.h7 _).trans (by show afV (afH (σ 11)) W=_;rw [HO])) (λa aN=> ?_);refine aN.step rfl hf.ops.h8 (by decide) (Vy (size:=1) hf.ops.h8 hf.Je hiB (by rw [hsB,hB2]) h9' HO cJ _) (λa aN=> ?_);refine aN.step (v:= .bool bl[k]) rfl hf.ops.h9 (by decide) (kH hf.ops.h9 (eY hT hB hB1 hB2 (by simpa using sN))) (λa aN=> ?_);refine aN.step (v:= .int .i64 (k:Int)) rfl hf.ops.Ot (by decide) (jt hf.ops.Ot _) (λa aN=> ?_);refine aN.step (v:= .bool bl[k]) rfl hf.ops.HO (by decide) (jt hf.ops.HO _) (λa aN=> ?_);refine wp_seq (wp_region ?_);rw [show BY (#[o 12,o 13]:Array Oper).size=[0,1] from rfl];refine aN.step (v:= .bool bl[k]) rfl hf.ops.TH (by decide) (bF hf.ops.TH _) (λa aN=> ?_);refine aN.step (v:= .bool (!bl[k])) rfl hf.ops.TJ (by decide) (OA hf.ops.TJ rfl _) (λa aN=> ?_);have last: ∀(a:Act) (W:World) (σ:Nat->Value) (s2:S),Tm a 22 σ->σ 1= .func (.func g) #[] lb->σ 9= .slice ad bl.length cp->σ 10= .int .i64 ((bl.length:Nat):Int)->σ 11= .int .i64 (k:Int)->Inv s2 W->iO step (bl.drop (k+1)) (k+1) s2=some s'-> (ac7 (r 5) #[o 17,o 18] false).wp P (Exit.then (λa W=>(∃σ,Tm a 22 σ/\σ 1= .func (.func g) #[] lb/\σ 9= .slice ad bl.length cp/\σ 10= .int .i64 ((bl.length:Nat):Int)/\ ∃k:Nat,k<=bl.length/\σ 11= .int .i64 (k:Int)/\ ∃sk,Inv sk W/\iO step (bl.drop k) k sk=some s')/\(match a.tmps.getD 11 undef with| .int _ k=>bl.length-k.toNat|_=>0)<bl.length-k) (ahk 0 (bodyPost P fn λe W=> ∃v,e= .returned v/\Inv s' W))) a W:=by
     intro a W σ s2 aN h1 h9 Ot HO hI Sy;refine wp_region ?_;rw [show BY (#[o 17,o 18]:Array Oper).size=[0,1] from rfl];refine aN.step (v:= .int .i64 ((k+1:Nat):Int)) rfl hf.ops.Vt (by decide) (rW (q:=1) hf.ops.Vt HO rfl (by omega) _) (λa aN=> ?_);refine aN.step (v:= .int .i64 ((k+1:Nat):Int)) rfl hf.ops.Vu (by decide) (bF hf.ops.Vu _) (λa aN=> ?_);refine ⟨⟨_,aN,h1,h9,Ot,k+1,by omega,rfl,s2,hI,Sy⟩,?_⟩;have:a.tmps.getD 11 undef= .int .i64 ((k+1:Nat):Int):=by rw [aN.get 11];rfl
     rw [this];simp;omega
    cases S7:bl[k] with
    |true=>rw [S7] at Sy;simp only [if_true] at Sy;refine aN.cond (b:=false) (by show acW (!bl[k])=_;rw [S7];rfl) ?_;simp only [OF,if_false];refine wp_skip ?_;exact last a W _ sk aN h1 h9 Ot HO hI Sy
    |false=>
     rw [S7] at Sy;simp only [OF,if_false] at Sy;cases iF:step k sk with
     |none=>rw [iF] at Sy;cases Sy
     |some s2=>
     rw [iF] at Sy;refine aN.cond (b:=true) (by show acW (!bl[k])=_;rw [S7];rfl) ?_;simp only [if_true];refine wp_region ?_;rw [show BY (#[o 14,o 15,o 16]:Array Oper).size=[0,1,2] from rfl];refine aN.step (v:= .func (.func g) #[] lb) rfl hf.ops.TM (by decide) ((bF hf.ops.TM _).trans (by show afV (afH (σ 1)) W=_;rw [h1])) (λa aN=> ?_);refine aN.step (v:= .int .i64 (k:Int)) rfl hf.ops.TN (by decide) (bF hf.ops.TN _) (λa aN=> ?_);refine aN.call rfl hf.ops.OB (by decide) (ael hf.ops.OB rfl rfl _) (Ai sk s2 W k cJ hI iF) ?_;rintro v W2 a Ac aN;exact last a W2 _ s2 aN h1 h9 Ot HO Ac Sy
 exact key _ (tm2 _ _ 20)
end
structure aaR (P:Program) (f fE tP t3:Nat) (fn:Func) (r:Nat) (o:Nat->Oper):Prop where
 pos:P.funcs[f]? =some fn
 name:(fn.name== "runtime.NumGoroutine")=false
 tmps:fn.ntmps=8
 res:fn.results= #[]
 body:fn.body=some (.region r #[o 0,o 1,o 2,o 3] false)
 h0:az (o 0) 4 (.load tP (.tmp 1))
 h1:az (o 1) 5 (.move (.tmp 0))
 h2:az (o 2) 6 (.load t3 (.tmp 2))
 h3: ∃ts,az (o 3) 7 (.call {callee:= .value (.func fE),args:= #[.tmp 4,.tmp 5,.tmp 6],argTypes:=ts})
theorem aaS {P:Program}{c:Ctx}{f fE tP t3:Nat}{fn:Func}{r:Nat}{o:Nat->Oper}{IP:TI}{W:World}{bd b3 bc i:Nat}{v3:Value}{R:World->Prop}(hf:aaR P f fE tP t3 fn r o)(hT:kq P c.ti)(hP:c.tv tP=some IP)(hP1:IP.st=false)(hP2:IP.size=1)(h1:W.cell? ⟨bd,0,none⟩=some (.pointer (some ⟨bc,0,none⟩)))(h3:(acX t3 (.pointer (some ⟨b3,0,none⟩))).run P W= .ok v3 W)(hc:dQ P fE #[.pointer (some ⟨bc,0,none⟩),.int .i64 (i:Int),v3] W λ_ W'=>R W'): dQ P f (#[.int .i64 (i:Int)]++ #[.pointer (some ⟨bd,0,none⟩),.pointer (some ⟨b3,0,none⟩)]) W λ_ W'=>R W':=by refine Ar hf.pos hf.name hf.body (calls_of_wp hf.pos hf.body ?_);rw [hf.tmps];have ama:Tm {tmps:=(#[.int .i64 (i:Int)]++ #[.pointer (some ⟨bd,0,none⟩),.pointer (some ⟨b3,0,none⟩)])++No (8-(#[.int .i64 (i:Int)]++ #[.pointer (some ⟨bd,0,none⟩),.pointer (some ⟨b3,0,none⟩)]:Array Value).size) undef,defers:=[]} 8 (Aq (Aq (Aq (λ_=>undef) 0 (.int .i64 (i:Int))) 1 (.pointer (some ⟨bd,0,none⟩))) 2 (.pointer (some ⟨b3,0,none⟩))):=tm3 _ _ _ 5;generalize ({tmps:=_,defers:=[]}:Act)=a at ama;refine wp_region ?_;rw [show BY (#[o 0,o 1,o 2,o 3]:Array Oper).size=[0,1,2,3] from rfl];obtain ⟨ts,h3o⟩:=hf.h3;refine ama.step rfl hf.h0 (by decide) (kH hf.h0 (eY hT hP hP1 hP2 h1)) (λa aN=> ?_);refine aN.step (v:= .int .i64 (i:Int)) rfl hf.h1 (by decide) (bF hf.h1 _) (λa aN=> ?_);refine aN.step rfl hf.h2 (by decide) (kH hf.h2 h3) (λa aN=> ?_);refine aN.call rfl h3o (by decide) (VA h3o rfl rfl rfl rfl _) hc ?_;rintro v W2 a hR aN;exact al8 hf.res aN λ_=>hR
end Dn
/-
  What stands in a variable of six parts, of which one is owned: looks at it, and calls that are handed it. Conditions: none.
-/
namespace Dn
open Go
structure CS where
 F:Int
 T:Int
 bl:List MV
 wl:List MV
 nl:List MV
 pl:List MV
def CS.ls (s:CS):List MV:=[.i .i64 s.F,.i .i64 s.T,.list s.bl,.list s.wl,.list s.nl,.list s.pl]
abbrev KS (f ty:Nat):List LK:=[.k (.i .i64),.k (.i .i64),.k .l,.k .l,.own f ty false,.k .l]
structure Six where
 b:Value
 w:Value
 n:Value
 p:Value
def Six.vs (s:CS)(v:Six):List Value:=[.int .i64 s.F,.int .i64 s.T,v.b,v.w,v.n,v.p]
structure MM (c:Ctx) (Z:Nat->Prop) (φ:Ph) (W:World) (bc ty:Nat) (s:CS) (v:Six):Prop where
 heap: ∃T,W.heap[bc]? =some (.cells (v.vs s).toArray T (0,0))
 cS:Z bc
 free: ∀o,φ bc o=none
 b:jz c.key φ [v.b] (.list s.bl)
 w:jz c.key φ [v.w] (.list s.wl)
 p:jz c.key φ [v.p] (.list s.pl)
 n:cT c (bI.plain Z) (oO c.key φ) W v.n ⟨ty,false,s.nl⟩
 off:v.n.ownBlock≠some bc
section
variable {P:Program}{c:Ctx}{Z:Nat->Prop} {φ:Ph} {W W':World}{bc ty f:Nat}{s:CS}
theorem aaT:Iv (KS f ty) s.ls=some ([.p (.i .i64 s.F),.p (.i .i64 s.T),.p (.list s.bl),.p (.list s.wl),.own f,.p (.list s.pl)],[(f,⟨ty,false,s.nl⟩)]):=by simp [Iv,CS.ls,KS,dh,kZ,kn,gC,gI,gL,gN,PO]
theorem yi {key:Nat->Nat}{vs:List Value}{m:MV}(h:jz key φ vs m)(hm:m.one=true): ∃v,vs=[v]:=by obtain ⟨v,h1,_⟩:=h.one hm;exact ⟨v,h1⟩
theorem gz.six (h:gz c Z φ W bc (KS f ty) s.ls): ∃v,MM c Z φ W bc ty s v:=by
 obtain ⟨cs,m,E,arr,T,h1,h2,h3,h4,h5,h6,h7⟩:=h;rw [aaT] at h1;simp only [sh,adW] at h1;obtain ⟨rfl,rfl⟩:=h1;obtain ⟨v0,r0,e0,⟨_,l0⟩,h5⟩:=h5;obtain ⟨v1,r1,e1,⟨_,l1⟩,h5⟩:=h5;obtain ⟨v2,r2,e2,⟨_,l2⟩,h5⟩:=h5;obtain ⟨v3,r3,e3,⟨_,l3⟩,h5⟩:=h5;obtain ⟨v4,r4,e4,⟨vn,rfl,_,hE⟩,h5⟩:=h5;obtain ⟨v5,r5,e5,⟨_,l5⟩,h5⟩:=h5;have h5:r5=[]:=h5;subst h5;have l0:jz c.key φ v0 (.i .i64 s.F):=l0;have l1:jz c.key φ v1 (.i .i64 s.T):=l1;cases l0;cases l1;have l2:jz c.key φ v2 (.list s.bl):=l2;have l3:jz c.key φ v3 (.list s.wl):=l3;have l5:jz c.key φ v5 (.list s.pl):=l5;obtain ⟨vb,rfl⟩:=yi l2 rfl;obtain ⟨vw,rfl⟩:=yi l3 rfl;obtain ⟨vp,rfl⟩:=yi l5 rfl;have hf:aQ [(f,(⟨ty,false,s.nl⟩:pn))] f=some ⟨ty,false,s.nl⟩:=by simp [aQ]
 have hE:=hE _ hf;subst hE;obtain ⟨k1,k2⟩:=h6 f _ hf;refine ⟨⟨vb,vw,_,vp⟩,⟨T,?_⟩,h3,h4,l2,l3,l5,k1.env rfl rfl,k2⟩;have:arr=(Six.vs s ⟨vb,vw,E f,vp⟩).toArray:=by apply afT.1;rw [e0,e1,e2,e3,e4,e5];rfl
 rw [<-this];exact h2
theorem MM.cell {v:Six}(h:MM c Z φ W bc ty s v):gz c Z φ W bc (KS f ty) s.ls:=by
 obtain ⟨T,hh⟩:=h.heap;have ml:v.n.oneCell'=true:=by obtain ⟨I,cells,q1,q2,q3,q4,q5⟩:=h.n.row;rcases q3.2 with ⟨h1,_⟩|⟨g,cap,fI,h1,_⟩<;>rw [h1]<;>rfl
 have hf: ∀f' o',aQ [(f,(⟨ty,false,s.nl⟩:pn))] f'=some o'->f'=f/\o'=⟨ty,false,s.nl⟩:=by
  intro f' o' ho;simp only [aQ,eO] at ho;by_cases ga:f=f'
  ·subst ga;simp at ho;exact ⟨rfl,ho.symm⟩
  ·simp [ga] at ho
 refine ⟨_,_,λ_=>v.n,_,T,aaT,hh,h.cS,h.free,?_,?_,?_⟩
 ·exact ⟨[_],_,rfl,⟨rfl,.i _ _⟩,[_],_,rfl,⟨rfl,.i _ _⟩,[_],_,rfl,⟨rfl,h.b⟩,[_],_,rfl,⟨rfl,h.w⟩,[_],_,rfl,⟨_,rfl,ml,λ_ _=>rfl⟩,[_],_,rfl,⟨rfl,h.p⟩,rfl⟩
 ·intro f' o' ho;obtain ⟨rfl,rfl⟩:=hf f' o' ho;exact ⟨h.n.env rfl rfl,h.off⟩
 ·intro f1 f2 o1 o2 k h1 h2 _ _;exact (hf f1 o1 h1).1.trans (hf f2 o2 h2).1.symm
theorem gz.frame {bt:Nat}{ks:List LK}{ls:List MV}(h:gz c Z φ W bt ks ls)(rR:W.heap.size<=W'.heap.size)(je: ∀b,Z b->b<W.heap.size->W'.heap[b]? =W.heap[b]?):gz c (λb=>Z b/\b<W.heap.size) φ W' bt ks ls:=by
 obtain ⟨cs,m,E,arr,T,k1,k2,k3,k4,k5,k6,k7⟩:=h;have cJ:=aZ k2;refine ⟨cs,m,E,arr,T,k1,(je bt k3 cJ).trans k2,⟨k3,cJ⟩,k4,k5,λf' o' ho=>⟨?_,(k6 f' o' ho).2⟩,k7⟩;obtain ⟨I,cells,q1,q2,q3,q4,q5⟩:=(k6 f' o' ho).1.row;refine ⟨I,cells,q1,q2,⟨q3.1,?_⟩,q4,λb hb=>⟨⟨(q5 b hb).1,N7 q3 hb⟩,(q5 b hb).2⟩⟩;rcases q3.2 with h6|⟨g,cap,fI,r1,r2,r3,r4⟩
 ·exact .inl h6
 ·exact .inr ⟨g,cap,fI,r1,r2,(je g (q5 g (by rw [r1];rfl)).1 (aZ r3)).trans r3,r4⟩
theorem gz.more {φ':Ph}{bt:Nat}{ks:List LK}{ls:List MV}(h:gz c Z φ W bt ks ls)(hp:lS φ φ')(hz: ∀b o,Z b->φ' b o=φ b o):gz c Z φ' W bt ks ls:=by
 obtain ⟨cs,m,E,arr,T,k1,k2,k3,k4,k5,k6,k7⟩:=h;have uX:mF (λ_=>True) (λ_=>True) ⟨c.key,φ,E,λ_=>bt,m⟩ ⟨c.key,φ',E,λ_=>bt,m⟩:=⟨rfl,hp,λ_ _=>rfl,λf o ho _=>⟨o,ho,rfl,rfl⟩⟩
 refine ⟨cs,m,E,arr,T,k1,k2,k3,λo=>by rw [hz bt o k3];exact k4 o,k5.on uX (λ_ _ _ _=>trivial),λf' o' ho=>⟨?_,(k6 f' o' ho).2⟩,k7⟩;obtain ⟨I,cells,q1,q2,q3,q4,q5⟩:=(k6 f' o' ho).1.row;refine ⟨I,cells,q1,q2,q3,q4.mono hp,λb hb=>⟨(q5 b hb).1,λoff u hu=>(q5 b hb).2.1 off u ?_,λhc=>hc.elim⟩⟩;have hu:φ' b off=some u:=hu;rw [hz b off (q5 b hb).1] at hu;exact hu
theorem cT.still {v:Value}{xs:List MV}(h:cT c (bI.plain Z) (oO c.key φ) W v ⟨ty,false,xs⟩)(hi:qy φ W): ∃φ',lS φ φ'/\qy φ' W/\(∀b o,v.ownBlock≠some b->φ' b o=φ b o)/\jz c.key φ' [v] (.list xs):=by
 obtain ⟨I,cells,hI,hIc,eW,nk,hz⟩:=h.row;have nk:bA c.key φ I.size cells xs:=nk;have hlen:=nk.length;have B3: ∀b,v.ownBlock=some b-> ∀off,φ b off=none:=by
  intro b hb off;cases hq:φ b off with
  |none=>rfl
  |some u=>exact absurd ((hz b hb).2.1 off u hq).1 (by simp)
 have hle:lS φ (kT φ v cells):=by
  intro b off u hu;unfold kT;by_cases hc:v.ownBlock=some b/\off<cells.length
  ·rw [B3 b hc.1 off] at hu;cases hu
  ·rw [if_neg hc];exact hu
 refine ⟨kT φ v cells,hle,?_,λb o hb=>by unfold kT;simp [hb],?_⟩
 ·intro b off u hu;unfold kT at hu;by_cases hc:v.ownBlock=some b/\off<cells.length
  ·rw [if_pos hc] at hu;rcases eW.2 with ⟨hE,_⟩|⟨g,cap,fI,hE,_,hg,hn,K6,CV,HM⟩
   ·rw [hE] at hc;simp [ada] at hc
   ·rw [hE] at hc;simp only [ada,sh] at hc;obtain ⟨hb,ho⟩:=hc;subst hb;rw [cell_of hg];rw [<-HM,afG] at hu;have atI:cells.length=xs.length *I.size:=hlen;have awo:List.take (xs.length *I.size) fI.toList=cells:=HM;have cU:off<xs.length *I.size:=by omega
    simp only [cU,if_true] at hu;simpa using hu
  ·rw [if_neg hc] at hu;exact hi _ _ _ hu
 ·have Ae:=nk.mono hle;rcases eW.2 with ⟨hE,hn⟩|⟨g,cap,fI,hE,_,hg,hn,K6,CV,HM⟩
  ·have hx:xs=[]:=List.eq_nil_of_length_eq_zero hn;rw [hE,hx];exact .list none 0 [] 0 0 0 (λ_=>[]) (by simp) (by simp) (by simp) (by simp) (by simp)
  ·have hv:[v]=[Value.slice (some ⟨g,0,none⟩) xs.length cap]:=by rw [hE]
   rw [hv];have Qa: ∀i (hi:i<xs.length),∃v1,v1.length=I.size/\jz c.key (kT φ v cells) v1 xs[i]/\(cells.drop (i *I.size)).take I.size=v1:=by intro i hi;obtain ⟨p1,v1,p2,he,NV,y9,ic⟩:=Ae.at (List.getElem?_eq_getElem hi);refine ⟨v1,y9,ic,?_⟩;rw [he,aee,<-NV,ah4,<-y9,ah1]
   refine .list (some ⟨g,0,none⟩) cap xs g 0 I.size (λi=>(cells.drop (i *I.size)).take I.size) hn (λ_=>rfl) ?_ ?_ ?_
   ·intro i hi;obtain ⟨v1,h1,_,h3⟩:=Qa i hi;rw [h3,h1]
   ·intro i j hi hj;have hb:v.ownBlock=some g:=by rw [hE];rfl
    have Fj:i *I.size+j<cells.length:=by
     rw [hlen];calc i *I.size+j<i *I.size+I.size:=by omega
      _=(i+1) *I.size:=by rw [agV]
      _<=xs.length *I.size:=acY _ hi
    rw [ads];unfold kT;simp only [hb,Fj,and_self,if_true];rw [afG];simp only [hj,if_true,agU]
   ·intro i hi;obtain ⟨v1,_,h2,h3⟩:=Qa i hi;rw [h3];exact h2
def OG (φ:Ph)(b:Nat)(vs:List Value):Ph:=λb' o=>if b'=b then vs[o]? else φ b' o
theorem OH {b:Nat}{vs:List Value}(h: ∀o,φ b o=none):lS φ (OG φ b vs):=by
 intro b' o u hu;unfold OG;by_cases hb:b'=b
 ·subst hb;rw [h] at hu;cases hu
 ·rw [if_neg hb];exact hu
theorem OI {b:Nat}{vs:List Value}{T:TypeId}(hi:qy φ W)(hh:W.heap[b]? =some (.cells vs.toArray T (0,0))):qy (OG φ b vs) W:=by
 intro b' o u hu;unfold OG at hu;by_cases hb:b'=b
 ·subst hb;rw [if_pos rfl] at hu;rw [cell_of hh];simpa using hu
 ·rw [if_neg hb] at hu;exact hi _ _ _ hu
theorem MM.still {v:Six}(h:MM c Z φ W bc ty s v)(hi:qy φ W): ∃φ',lS φ φ'/\qy φ' W/\(∀b o,¬Z b->φ' b o=φ b o)/\jd c.key φ' (v.vs s) s.ls/\ ∀j,j<6->φ' bc j=(v.vs s)[j]? :=by
 obtain ⟨φ1,k1,k2,k3,k4⟩:=h.n.still hi;obtain ⟨T,hh⟩:=h.heap;have qC: ∀o,φ1 bc o=none:=λo=>by rw [k3 bc o h.off];exact h.free o
 have hle:=OH (vs:=v.vs s) qC;have hz: ∀b,v.n.ownBlock=some b->Z b:=by obtain ⟨I,cells,_,_,_,_,q5⟩:=h.n.row;exact λb hb=>(q5 b hb).1
 refine ⟨OG φ1 bc (v.vs s),k1.trans hle,OI k2 hh,λb o hb=> ?_,?_,λj hj=>by simp [OG]⟩
 ·have h1:b≠bc:=λe=>hb (by rw [e];exact h.cS);unfold OG;rw [if_neg h1];exact k3 b o λe=>hb (hz b e)
 ·have m:=k1.trans hle;exact .cons [_] _ _ _ (.i _ _) (.cons [_] _ _ _ (.i _ _) (.cons [_] _ _ _ (h.b.mono m) (.cons [_] _ _ _ (h.w.mono m) (.cons [_] _ _ _ (k4.mono hle) (.cons [_] _ _ _ (h.p.mono m) .nil)))))
end
def xd (W:World)(b:Nat)(v:Int):Prop:= ∃T,W.heap[b]? =some (.cells #[.int .i64 v] T (0,0))
structure CI0 (c:Ctx) (φ0:Ph) (w0:World) (φ1:Ph) (bc bv br f ty:Nat) (s:CS) (v:Int) (W:World) (Z:Nat->Prop) (φ:Ph):Prop where
 cell:gz c Z φ W bc (KS f ty) s.ls
 kP:qy φ W
 tr:Trans (λb=>w0.heap.size<=b) φ0 w0 φ W
 base:lS φ1 φ
 sub: ∀b,Z b->w0.heap.size<=b
 hv:xd W bv v
 zv: ¬Z bv
 fv: ∀o,φ bv o=none
 nv:w0.heap.size<=bv
 hr: ∃arr T,W.heap[br]? =some (.cells arr T (0,0))/\arr.size=6
 zr: ¬Z br
 fr: ∀o,φ br o=none
 nr:w0.heap.size<=br
 ne:br≠bv
def CI (c:Ctx) (φ0:Ph)(w0:World) (φ1:Ph)(bc bv br f ty:Nat)(s:CS)(v:Int)(W:World):Prop:= ∃Z φ,CI0 c φ0 w0 φ1 bc bv br f ty s v W Z φ
section
variable {P:Program}{c:Ctx} {φ0 φ1:Ph} {w0 W W':World}{bc bv br f ty:Nat} {s s':CS} {v v':Int}{Z:Nat->Prop} {φ:Ph}
theorem tH {W W':World}{b:Nat}{o:Nat}{u:Value}(h:W.cell? ⟨b,o,none⟩=some u)(hs:b<W.heap.size->W'.heap[b]? =W.heap[b]?):W'.cell? ⟨b,o,none⟩=some u:=by have hl:=abz W _ h;rw [acZ (hs hl)];exact h
theorem CI0.same (h:CI0 c φ0 w0 φ1 bc bv br f ty s v W Z φ)(hs:W.heap.size<=W'.heap.size)(hr:Rest W W')(hold: ∀b,b<W.heap.size->b≠bv->W'.heap[b]? =W.heap[b]?)(hv:xd W' bv v'):CI0 c φ0 w0 φ1 bc bv br f ty s v' W' (λb=>Z b/\b<W.heap.size) φ:=by
 have hzv: ∀b,Z b->b≠bv:=λb hb e=>h.zv (by rw [<-e];exact hb);obtain ⟨arr,T,xS,CU⟩:=h.hr;refine ⟨h.cell.frame hs λb hb hl=>hold b hl (hzv b hb),λb o u hu=> ?_,⟨h.tr.ph,λb hb hl=> ?_,h.tr.free,ac6 h.tr.size hs,h.tr.rest.trans hr⟩,h.base,λb hb=>h.sub b hb.1,hv,λhb=>h.zv hb.1,h.fv,h.nv,⟨arr,T,?_,CU⟩,λhb=>h.zr hb.1,h.fr,h.nr,h.ne⟩
 ·refine tH (h.kP b o u hu) λhl=>hold b hl λe=> ?_;rw [e,h.fv] at hu;cases hu
 ·have y9:b<W.heap.size:=agK hl h.tr.size;rw [hold b y9 (λe=>hb (by rw [e];exact h.nv))];exact h.tr.heap b hb hl
 ·rw [hold br (aZ xS) h.ne];exact xS
theorem xd.same {b:Nat}{v:Int}(h:xd W b v)(he:b<W.heap.size->W'.heap[b]? =W.heap[b]?):xd W' b v:=by obtain ⟨T,hT⟩:=h;exact ⟨T,by rw [he (aZ hT)];exact hT⟩
theorem CI0.grow {φ2 φ3:Ph}(h:CI0 c φ0 w0 φ1 bc bv br f ty s v W Z φ)(ht:Trans (λb=>W.heap.size<=b) φ2 W φ3 W'):CI0 c φ0 w0 φ1 bc bv br f ty s v W' (λb=>Z b/\b<W.heap.size) φ:=h.same ht.size ht.rest (λb hl _=>ht.heap b (by omega) hl) (h.hv.same λhl=>ht.heap bv (by omega) hl)
theorem xd.cell {b:Nat}{v:Int}(h:xd W b v):W.cell? ⟨b,0,none⟩=some (.int .i64 v):=by obtain ⟨T,hT⟩:=h;rw [cell_of hT];rfl
theorem CI.call {g:Nat}{vs:List Value}{ms:List MV}{r:MV}(h:CI c φ0 w0 φ1 bc bv br f ty s v W)(hg:c.fF (c.key g)=true)(Hq:c.sig (c.key g)=some (0,KS f ty))(hS:j8 P c g (.cell (.func 0 s.ls)::ms) (.ew r s'.ls))(gl: ∀φ,lS φ1 φ->qy φ W->bV c.key φ vs ms):dQ P g (.pointer (some ⟨bc,0,none⟩)::vs).toArray W λ_ W'=>CI c φ0 w0 φ1 bc bv br f ty s' v W':=by
 obtain ⟨Z,φ,h⟩:=h;have cJ: ∀b,(∃arr T,W.heap[b]? =some (.cells arr T (0,0)))->b<W.heap.size:=λb ⟨arr,T,hb⟩=>aZ hb;have tF:bv<W.heap.size:=by obtain ⟨T,hT⟩:=h.hv;exact aZ hT
 obtain ⟨arr,T,xS,CU⟩:=h.hr;have YB:=aZ xS;have sN:gz c (λb=>Z b\/W.heap.size<=b) φ W bc (KS f ty) s.ls:=h.cell.wide λb hb=> .inl hb;have qB:fJ c (λb=>Z b\/W.heap.size<=b) φ W (c.key g) (.pointer (some ⟨bc,0,none⟩)::vs) (.cell (.func 0 s.ls)::ms):=by simp only [fJ,hg,if_true];exact .inr (.inr ⟨0,KS f ty,0,s.ls,bc,Hq,rfl,rfl,⟨_,_,rfl,⟨rfl,.rp bc 0 [] [] .nil (by simp)⟩,gl φ h.base h.kP⟩,sN⟩)
 refine (hS φ W (λb=>Z b\/W.heap.size<=b) _ (λb hb=> .inr hb) qB h.kP).imp ?_;rintro x W' ⟨φ',t1,t2,po,pos',K9,aqH,SH,zb,Sq,hc⟩;rw [Hq] at zb;simp only [sh,adW] at zb;obtain ⟨rfl,rfl⟩:=zb;simp only [afW,sh,aeO,agI] at Sq;obtain ⟨rfl,_⟩:=Sq;have hzv: ¬(Z bv\/W.heap.size<=bv):=λhb=>hb.elim h.zv (by omega);have hzr: ¬(Z br\/W.heap.size<=br):=λhb=>hb.elim h.zr (by omega);refine ⟨_,φ',hc,t2,h.tr.trans (t1.GA λb hb=>hb.elim (h.sub b) (λhb=>ac6 h.tr.size hb)),h.base.trans t1.ph,λb hb=>hb.elim (h.sub b) (λhb=>ac6 h.tr.size hb),h.hv.same λhl=>t1.heap bv hzv hl,hzv,λo=>by rw [t1.free bv o hzv];exact h.fv o,h.nv,⟨arr,T,by rw [t1.heap br hzr YB];exact xS,CU⟩,hzr,λo=>by rw [t1.free br o hzr];exact h.fr o,h.nr,h.ne⟩
theorem CI.adS {φ2:Ph}(h:CI c φ0 w0 φ2 bc bv br f ty s v W)(hp:lS φ1 φ2):CI c φ0 w0 φ1 bc bv br f ty s v W:=by obtain ⟨Z,φ,h⟩:=h;exact ⟨Z,φ,{h with base:=hp.trans h.base}⟩
theorem BE {g:Nat}{vs:List Value}{ms:List MV}{r:MV}(hg:c.fF (c.key g)=false)(hS:j8 P c g ms r)(hr:isW r=false)(gl:bV c.key φ vs ms)(hi:qy φ W):dQ P g vs.toArray W λx W'=> ∃φ',Trans (λb=>W.heap.size<=b) φ W φ' W'/\qy φ' W'/\iG c (λb=>W.heap.size<=b) φ' W' (c.key g) x r:=by
 have qB:fJ c (λb=>W.heap.size<=b) φ W (c.key g) vs ms:=by simp only [fJ,hg,OF,if_false];exact gl
 refine (hS φ W (λb=>W.heap.size<=b) _ (λb hb=>hb) qB hi).imp ?_;rintro x W' ⟨φ',t1,t2,t3⟩;exact ⟨φ',t1,t2,t3.of hr⟩
end
end Dn
/-
  A walk that lets all good ones hear one another: what it does, and its code. Conditions: none.
-/
namespace Dn
open Go
def td:List MV->Option (List Bool)
 |[]=>some []
 | .b b::r=>(match td r with|some l=>some (b::l)|none=>none)
 |_=>none
def TR:List MV->Option CS
 |[.i .i64 F,.i .i64 T,.list bl,.list wl,.list nl,.list pl]=>some ⟨F,T,bl,wl,nl,pl⟩
 |_=>none
def OJ:Option MV->Option CS
 |some (.ew _ ls)=>TR ls
 |_=>none
def ah2:Option MV->Option Int
 |some (.ew _ [.i .i64 v])=>some v
 |_=>none
def B5 (bl:List MV):Option (List Bool):=match td bl with
 |some bs=>if bs.length<2^32 then some bs else none
 |none=>none
structure CK where
 cl:Nat
 ld:Nat
 is:Nat
 f1:Nat
 en:Nat
 de:Nat
 le:Nat
 sz:Nat
section
variable (g:Nat->List MV->Option MV)(k:CK)
def OL (s:CS)(v:Int):Option Int:=match g k.ld [.agg [.i .i64 s.F,.i .i64 s.T],.i .i64 v] with
 |some (.i .i64 l)=>some l
 |_=>none
def xe (s:CS)(v:Int):Option (Sum Int Int):=match OL g k s v with
 |some l=>(match g k.is [.agg s.ls,.i .i64 l,.b false] with
  |some (.b b)=>some (if b then .inr v else .inl (adf .i64 (v+1)))
  |_=>none)
 |none=>none
def Ji (s:CS)(i:Nat)(v:Int):Option Int:=ah2 (g k.f1 [.i .i64 i,.cell (.func 0 [.i .i64 v]),.rp s.ls])
def Jj (v:Int)(i:Nat)(s:CS):Option CS:=OJ (g k.en [.cell (.func 0 s.ls),.i .i64 i,.i .i64 v])
def Fz (m:MV)(i:Nat)(s:CS):Option CS:=OJ (g k.de [.cell (.func 0 s.ls),.i .i64 i,m])
def Jk (v:Int)(p:Int×CS):Option (Sum (Int×CS) CS):=if p.1<(p.2.pl.length:Int) then
  (match Sz p.2.pl p.1,B5 p.2.bl with
  |some m,some bs=>bif Wg m&&abG m.w k.sz then (match iO (Fz g k m) bs 0 p.2 with
   |some s=>(match OL g k s v with
    |some l=>(match OJ (g k.le [.cell (.func 0 s.ls),.i .i64 l]) with
     |some s=>some (.inl (adf .i64 (p.1+1),s))
     |none=>none)
    |none=>none)
   |none=>none) else none
  |_,_=>none)
 else some (.inr p.2)
def FA (nl:List MV):Option (List MV):=match g k.cl [.list nl] with
 |some (.fresh l)=>some l
 |_=>none
noncomputable def MN (s0:CS):Option CS:=match FA g k s0.nl,B5 s0.bl with
 |some nl,some bs=>bd (iO (Ji g k ⟨s0.F,s0.T,s0.bl,s0.wl,nl,[]⟩) bs 0 0) λv=>
  bd (Loop (xe g k ⟨s0.F,s0.T,s0.bl,s0.wl,nl,[]⟩) v) λv=>
  if 100000<v then some ⟨s0.F,s0.T,s0.bl,s0.wl,nl,[]⟩ else
  bd (iO (Jj g k v) bs 0 ⟨s0.F,s0.T,s0.bl,s0.wl,nl,[]⟩) λs=>Loop (Jk g k v) ((0:Int),s)
 |_,_=>none
noncomputable def VB (ms:List MV):Option MV:=match ms with
 |[.agg ls]=>(match TR ls with
  |some s=>(match MN g k s with|some s=>some (.agg s.ls)|none=>none)
  |none=>none)
 |_=>none
end
theorem OM: ∀{l:List MV} {bs:List Bool},td l=some bs->l=bs.map .b:=by
 intro l;induction l with
 |nil=>intro bs h;simp [td] at h;subst h;rfl
 |cons x r ih=>
  intro bs h;cases x<;>simp only [td] at h<;>try cases h
  cases hr:td r with
  |none=>rw [hr] at h;cases h
  |some l=>rw [hr] at h;simp at h;subst h;rw [ih hr];rfl
theorem QP (bs:List Bool):td (bs.map .b)=some bs:=by
 induction bs with
 |nil=>rfl
 |cons b r ih=>simp [td,ih]
theorem MO {l:List MV}{bs:List Bool}(h:B5 l=some bs):l=bs.map .b/\bs.length<2^32:=by
 unfold B5 at h;cases hb:td l with
 |none=>rw [hb] at h;cases h
 |some q=>
  rw [hb] at h;by_cases hq:q.length<2^32
  ·simp only [hq,if_true,sh] at h;subst h;exact ⟨OM hb,hq⟩
  ·simp [hq] at h
theorem MP {l:List MV}{s:CS}(h:TR l=some s):l=s.ls:=by
 unfold TR at h;split at h
 ·simp at h;subst h;rfl
 ·cases h
theorem FB {x:Option MV}{s:CS}(h:OJ x=some s): ∃r,x=some (.ew r s.ls):=by
 unfold OJ at h;split at h
 ·exact ⟨_,by rw [MP h]⟩
 ·cases h
theorem Xo {x:Option MV}{v:Int}(h:ah2 x=some v): ∃r,x=some (.ew r [.i .i64 v]):=by
 unfold ah2 at h;split at h
 ·simp at h;subst h;exact ⟨_,rfl⟩
 ·cases h
def Jl (r:Nat->Nat)(o:Nat->Oper):Code:= .seq (.region (r 0) #[o 0,o 1] false) (.seq (.region (r 1) #[o 2,o 3] false) (.seq (.region (r 2) #[o 4,o 5,o 6,o 7,o 8,o 9,o 10] false) (.seq (.region (r 3) #[o 11,o 12] false) (.seq (.region (r 4) #[o 13,o 14,o 15] false) (.seq (.block 0 (.loop (.seq (.seq (.region (r 5) #[o 16,o 17,o 18,o 19,o 20,o 21,o 22] true) (.cond (.tmp 21) .skip (.exit 0))) (.block 1 (.region (r 6) #[o 23,o 24,o 25] false))))) (.seq (.seq (.region (r 7) #[o 26,o 27] false) (.cond (.tmp 25) (.seq (.region (r 8) #[o 28,o 29] false) .ret) .skip)) (.seq (.region (r 9) #[o 30,o 31,o 32] false) (.seq (.seq (.region (r 10) #[o 33] false) (.block 2 (.loop (.seq (.seq (.region (r 11) #[o 34,o 35,o 36,o 37,o 38] false) (.cond (.tmp 34) .skip (.exit 2))) (.seq (.block 3 (.seq (.region (r 13) #[o 39,o 40,o 41,o 42,o 43,o 44,o 45] false) (.seq (.region (r 14) #[o 46,o 47,o 48] false) (.region (r 15) #[o 49,o 50,o 51,o 52,o 53,o 54] true)))) (.region (r 12) #[o 55,o 56,o 57] false)))))) (.seq (.region (r 16) #[o 58,o 59] false) .ret)))))))))
structure aes (tS tP ti tN tM tm tZ tB tb tf fCl f1 fEa fLd fIs f2 f3 fLe:Nat) (o:Nat->Oper):Prop where
 h0:az (o 0) 1 (.box tS (.tmp 0))
 h1:az (o 1) 2 (.alloc tS)
 h2:az (o 2) 3 (.alloc tP)
 h3:ul (o 3) (.store tP (.tmp 3) (.tmp 1))
 h4:az (o 4) 7 (.fieldAddr tS (.tmp 1) 3)
 h5:az (o 5) 8 (.load tN (.tmp 7))
 h6:az (o 6) 9 (.call {callee:= .value (.func fCl),args:= #[.tmp 8],argTypes:= #[tN]})
 h7:az (o 7) 10 (.fieldAddr tS (.tmp 1) 4)
 h8:ul (o 8) (.store tM (.tmp 10) (.const (.slice none 0 0)))
 h9:az (o 9) 11 (.fieldAddr tS (.tmp 1) 3)
 Ot:ul (o 10) (.store tN (.tmp 11) (.tmp 9))
 HO:az (o 11) 4 (.alloc ti)
 TH:ul (o 12) (.store ti (.tmp 4) (.const (.int .i64 0)))
 TJ:az (o 13) 12 (.load tP (.tmp 3))
 TM:az (o 14) 13 (.makeFunc (.func f1) #[] #[.tmp 4,.tmp 1])
 TN:az (o 15) 14 (.call {callee:= .value (.func fEa),args:= #[.tmp 12,.tmp 13],argTypes:= #[tP,tf]})
 OB:az (o 16) 15 (.load tS (.tmp 1))
 Vt:az (o 17) 16 (.fieldAddr tS (.tmp 1) 0)
 Vu:az (o 18) 17 (.load tZ (.tmp 16))
 h19:az (o 19) 18 (.load ti (.tmp 4))
 h20:az (o 20) 19 (.call {callee:= .value (.func fLd),args:= #[.tmp 17,.tmp 18],argTypes:= #[tZ,ti]})
 Vv:az (o 21) 20 (.call {callee:= .value (.func fIs),args:= #[.tmp 15,.tmp 19,.const (.bool false)],argTypes:= #[tS,ti,tB]})
 Vw:az (o 22) 21 (.unOp .not tB (.tmp 20))
 h23:az (o 23) 22 (.load ti (.tmp 4))
 h24:az (o 24) 23 (.binOp .add ti (.tmp 22) (.const (.int .i64 1)) ti)
 h25:ul (o 25) (.store ti (.tmp 4) (.tmp 23))
 h26:az (o 26) 24 (.load ti (.tmp 4))
 h27:az (o 27) 25 (.binOp .gtr ti (.tmp 24) (.const (.int .i64 100000)) ti)
 h28:az (o 28) 26 (.load tS (.tmp 1))
 h29:ul (o 29) (.store tS (.tmp 2) (.tmp 26))
 h30:az (o 30) 27 (.load tP (.tmp 3))
 h31:az (o 31) 28 (.makeFunc (.func f2) #[] #[.tmp 3,.tmp 4])
 h32:az (o 32) 29 (.call {callee:= .value (.func fEa),args:= #[.tmp 27,.tmp 28],argTypes:= #[tP,tf]})
 h33:az (o 33) 5 (.assign (.const (.int .i64 0)))
 h34:az (o 34) 30 (.move (.tmp 5))
 h35:az (o 35) 31 (.fieldAddr tS (.tmp 1) 4)
 h36:az (o 36) 32 (.load tM (.tmp 31))
 h37:az (o 37) 33 (.call {callee:= .builtin .len,args:= #[.tmp 32],argTypes:= #[tM]})
 h38:az (o 38) 34 (.binOp .lss ti (.tmp 30) (.tmp 33) ti)
 h39:az (o 39) 37 (.fieldAddr tS (.tmp 1) 4)
 h40:az (o 40) 38 (.load tM (.tmp 37))
 h41:az (o 41) 39 (.move (.tmp 5))
 h42:az (o 42) 40 (.indexAddr tM (.tmp 38) (.tmp 39))
 h43:az (o 43) 41 (.load tm (.tmp 40))
 h44:az (o 44) 6 (.alloc tm)
 h45:ul (o 45) (.store tm (.tmp 6) (.tmp 41))
 h46:az (o 46) 42 (.load tP (.tmp 3))
 h47:az (o 47) 43 (.makeFunc (.func f3) #[] #[.tmp 3,.tmp 6])
 h48:az (o 48) 44 (.call {callee:= .value (.func fEa),args:= #[.tmp 42,.tmp 43],argTypes:= #[tP,tf]})
 h49:az (o 49) 45 (.load tP (.tmp 3))
 h50:az (o 50) 46 (.fieldAddr tS (.tmp 1) 0)
 h51:az (o 51) 47 (.load tZ (.tmp 46))
 h52:az (o 52) 48 (.load ti (.tmp 4))
 h53:az (o 53) 49 (.call {callee:= .value (.func fLd),args:= #[.tmp 47,.tmp 48],argTypes:= #[tZ,ti]})
 h54:az (o 54) 50 (.call {callee:= .value (.func fLe),args:= #[.tmp 45,.tmp 49],argTypes:= #[tP,ti]})
 h55:az (o 55) 35 (.move (.tmp 5))
 h56:az (o 56) 36 (.binOp .add ti (.tmp 35) (.const (.int .i64 1)) ti)
 h57:az (o 57) 5 (.assign (.tmp 36))
 h58:az (o 58) 51 (.load tS (.tmp 1))
 h59:ul (o 59) (.store tS (.tmp 2) (.tmp 51))
end Dn
/-
  The walk's pieces: who leads. Conditions: none.
-/
namespace Dn
open Go
structure CN where
 tS:Nat
 tP:Nat
 ti:Nat
 tN:Nat
 tM:Nat
 tm:Nat
 tZ:Nat
 tB:Nat
 tb:Nat
 tf:Nat
 fCl:Nat
 f1:Nat
 fEa:Nat
 fLd:Nat
 fIs:Nat
 f2:Nat
 f3:Nat
 fLe:Nat
 fEn:Nat
 fDe:Nat
 f:Nat
 iC:Nat
 ty:Nat
 sz:Nat
def CN.k (n:CN):CK:=⟨n.fCl,n.fLd,n.fIs,n.f1,n.fEn,n.fDe,n.fLe,n.sz⟩
structure nO (P:Program) (c:Ctx) (g:Nat->List MV->Option MV) (n:CN) (fn:Func) (r:Nat->Nat) (o:Nat->Oper):Prop where
 pos:P.funcs[n.f]? =some fn
 name:(fn.name== "runtime.NumGoroutine")=false
 tmps:fn.ntmps=52
 res:fn.results= #[.cell 2 n.tS]
 body:fn.body=some (Jl r o)
 ops:aes n.tS n.tP n.ti n.tN n.tM n.tm n.tZ n.tB n.tb n.tf n.fCl n.f1 n.fEa n.fLd n.fIs n.f2 n.f3 n.fLe o
 each: ∃fnE rE oE,aaQ P n.fEa n.tS n.tb n.tB n.ti fnE rE oE
 c2: ∃QQ r2 o2,aaR P n.f2 n.fEn n.tP n.ti QQ r2 o2
 c3: ∃fn3 r3 o3,aaR P n.f3 n.fDe n.tP n.tm fn3 r3 o3
 hT:kq P c.ti
 mix:P.follows .mixedOrders=true
 d5:ub c #[o 16,o 17,o 18,o 19,o 20,o 21,o 22] [0,1,2,3,4,5,6]=true
 d15:ub c #[o 49,o 50,o 51,o 52,o 53,o 54] [0,1,2,3,4,5]=true
 fl:c.fl=[]
 key: ∀f,c.key f=f
 snd: ∀f ms r,g f ms=some r->j8 P c f ms r
 tyS: ∃I,c.tv n.tS=some I/\I.st=true/\I.HW=[0,2,3,4,5]/\I.size=6
 tyP: ∃I,c.tv n.tP=some I/\I.st=false/\I.size=1
 tyi: ∃I,c.tv n.ti=some I/\I.st=false/\I.size=1
 tyN: ∃I,c.tv n.tN=some I/\I.st=false/\I.size=1
 tyM: ∃I,c.tv n.tM=some I/\I.st=false/\I.size=1
 tyB: ∃I,c.tv n.tB=some I/\I.st=false/\I.size=1
 tyb: ∃I,c.tv n.tb=some I/\I.st=false/\I.size=1
 tym: ∃I,c.tv n.tm=some I/\I.st=true/\I.size=n.sz
 tyZ: ∃I,c.tv n.tZ=some I/\I.st=true/\I.size=2
 ah6:P.underlying n.tM=some (.slice n.tm)
 gv:c.fF n.fCl=false/\c.fF n.fLd=false/\c.fF n.fIs=false
 gvF:c.fF n.f=false
 gvC:c.fF n.fEn=true/\c.fF n.fDe=true/\c.fF n.fLe=true/\c.fF n.f1=true
 sig:c.sig n.fEn=some (0,KS n.iC n.ty)/\c.sig n.fDe=some (0,KS n.iC n.ty)/\c.sig n.fLe=some (0,KS n.iC n.ty)
 ah7:c.sig n.f1=some (1,[.k (.i .i64)])
 nT:c.nT n.fCl=n.ty
def amc {α β:Type}:Sum α β->Bool
 | .inl _=>true
 | .inr _=>false
structure Fv (σ:Nat->Value) (bc br bd bv:Nat):Prop where
 h1:σ 1= .pointer (some ⟨bc,0,none⟩)
 h2:σ 2= .pointer (some ⟨br,0,none⟩)
 h3:σ 3= .pointer (some ⟨bd,0,none⟩)
 h4:σ 4= .pointer (some ⟨bv,0,none⟩)
theorem pF {c:Ctx}{o:Oper}(h:c.fl=[]):still c o=false:=by
 unfold still;split
 ·rw [h];rfl
 ·rfl
theorem wOf {w:World}{g off:Nat}{vs:List Value}{arr:List Value}{T:TypeId}(hh:w.heap[g]? =some (.cells arr.toArray T (0,0)))(h: ∀j,j<vs.length->arr[off+j]? =vs[j]?):w.rangeAt g off vs:=by intro j v hj;rw [cell_of hh,agf,h j (abC.1 hj).1];exact hj
theorem ON {P:World->Prop} {φ φ':Ph} {W W':World}(h:Trans (λb=>W.heap.size<=b) φ W φ' W'):dN W W':=⟨h.size,λb hb=>h.heap b (by omega) hb,h.rest⟩
theorem agt {key:Nat->Nat} {φ:Ph}{v:Value}{n:Int}(h:fZ key φ v (.i .i64 n)):v= .int .i64 n:=by obtain ⟨_,h⟩:=h;generalize Bq:[v]=l at h;cases h;simpa using Bq
theorem Au {key:Nat->Nat} {φ:Ph}{n:Int}:fZ key φ (.int .i64 n) (.i .i64 n):=⟨rfl,.i _ _⟩
theorem ah8 {key:Nat->Nat} {φ:Ph}{b:Bool}:fZ key φ (.bool b) (.b b):=⟨rfl,.b _⟩
theorem Av {key:Nat->Nat} {φ:Ph}{vs:List Value}{ms:List MV}(h:jd key φ vs ms):fZ key φ (.agg vs.toArray) (.agg ms):=⟨vs.toArray,rfl,by simpa using h⟩
section
variable {P:Program}{c:Ctx}{g:Nat->List MV->Option MV}{n:CN}{fn:Func}{r:Nat->Nat}{o:Nat->Oper} {φ0 φ1:Ph}{w0 W:World}{bc br bd bv:Nat} {s s':CS} {v v' l:Int}{a:Act} {σ:Nat->Value}{Q:Exit->Act->World->Prop}
abbrev BF (c:Ctx)(n:CN) (φ0:Ph)(w0:World) (φ1:Ph)(bc bv br:Nat)(s:CS)(v:Int)(W:World):Prop:=CI c φ0 w0 φ1 bc bv br n.iC n.ty s v W
theorem MQ (h:OL g n.k s v=some l):g n.fLd [.agg [.i .i64 s.F,.i .i64 s.T],.i .i64 v]=some (.i .i64 l):=by
 unfold OL at h;split at h
 ·rename_i l' hl;simp only [sh] at h;subst h;exact hl
 ·cases h
theorem aeu (H:nO P c g n fn r o)(hI:BF c n φ0 w0 φ1 bc bv br s v W)(aN:Tm a 52 σ)(hF:Fv σ bc br bd bv){x:Sum Int Int}(hx:xe g n.k s v=some x)(hQ: ∀a W' σ',BF c n φ0 w0 φ1 bc bv br s v W'->Tm a 52 σ'->Fv σ' bc br bd bv->σ' 21= .bool (amc x)->Q .normal a W'):(ac7 (r 5) #[o 16,o 17,o 18,o 19,o 20,o 21,o 22] true).wp P Q a W:=by
 unfold xe at hx;cases hl:OL g n.k s v with
 |none=>rw [hl] at hx;cases hx
 |some l=>
 rw [hl] at hx;dsimp only at hx;have ZN:=MQ hl;split at hx;rotate_left
 ·cases hx
 rename_i b hgb;obtain ⟨Z,φ,h⟩:=hI;obtain ⟨u,hu⟩:=h.cell.six;obtain ⟨φt,k1,k2,k3,k4,k5⟩:=hu.still h.kP;obtain ⟨T,hh⟩:=hu.heap;obtain ⟨IS,s1,s2,s3,s4⟩:=H.tyS;obtain ⟨IZ,z1,z2,z3⟩:=H.tyZ;obtain ⟨Ii,i1,i2,i3⟩:=H.tyi;refine QO (c:=c) (φ:=φt) (ord:=[0,1,2,3,4,5,6]) H.mix H.d5 λlisted B1=> ?_;have t0:Trans (λb=>W.heap.size<=b) φt W φt {W with drawn:=W.drawn+1}:=⟨.refl _,λ_ _ _=>rfl,λ_ _ _=>rfl,adb _,⟨rfl,rfl,rfl,λ_=>rfl⟩⟩
 obtain ⟨W0,hW0⟩: ∃W0,W0=({W with drawn:=W.drawn+1}:World):=⟨_,rfl⟩
 rw [<-hW0] at t0⊢;have hh0:W0.heap[bc]? =some (.cells (u.vs s).toArray T (0,0)):=by rw [hW0];exact hh
 have Lr:xd W0 bv v:=by rw [hW0];exact h.hv
 have k20:qy φt W0:=by rw [hW0];exact k2
 have hrS: ∀w',dN W0 w'->w'.rangeAt bc 0 (u.vs s):=λw' hg=>wOf (by rw [hg.qA bc (aZ hh0)];exact hh0) (by simp);have hrZ: ∀w',dN W0 w'->w'.rangeAt bc 0 [.int .i64 s.F,.int .i64 s.T]:=λw' hg=>wOf (arr:=u.vs s) (by rw [hg.qA bc (aZ hh0)];exact hh0) (by intro j hj;match j,hj with|0,_=>rfl|1,_=>rfl);refine B1.read (v:= .agg (u.vs s).toArray) rfl H.ops.OB (by decide) (by simp [kE,H.ops.OB.op]) (by simp [jC,H.ops.OB.op]) (pF H.fl) (by simp [CM,H.ops.OB.op]) aN k20 (λw' hg=>kH H.ops.OB (by show (acX n.tS (σ 1)).run P w'=_;rw [hF.h1];exact oP H.hT s1 s2 (by rw [s4];rfl) (hrS w' (hg (by simp [ni,H.ops.OB.op]))))) (λa aN B1=> ?_);refine B1.read (v:= .pointer (some ⟨bc,0+0,none⟩)) rfl H.ops.Vt (by decide) (by simp [kE,H.ops.Vt.op]) (by simp [jC,H.ops.Vt.op]) (pF H.fl) (by simp [CM,H.ops.Vt.op]) aN k20 (λw' _=>As H.ops.Vt H.hT s1 s2 (by rw [s3];rfl) hF.h1 w') (λa aN B1=> ?_);refine B1.read (v:= .agg #[.int .i64 s.F,.int .i64 s.T]) rfl H.ops.Vu (by decide) (by simp [kE,H.ops.Vu.op]) (by simp [jC,H.ops.Vu.op]) (pF H.fl) (by simp [CM,H.ops.Vu.op]) aN k20 (λw' hg=>kH H.ops.Vu (by exact oP H.hT z1 z2 (vs:=[.int .i64 s.F,.int .i64 s.T]) (by rw [z3];rfl) (hrZ w' (hg (by simp [ni,H.ops.Vu.op]))))) (λa aN B1=> ?_);refine B1.read (v:= .int .i64 v) rfl H.ops.h19 (by decide) (by simp [kE,H.ops.h19.op]) (by simp [jC,H.ops.h19.op]) (pF H.fl) (by simp [CM,H.ops.h19.op]) aN k20 (λw' hg=>kH H.ops.h19 (by show (acX n.ti (σ 4)).run P w'=_;rw [hF.h4];exact eY H.hT i1 i2 i3 ((Lr.same λhl=>(hg (by simp [ni,H.ops.h19.op])).qA bv hl).cell))) (λa aN B1=> ?_);have B3: ∀(d:Nat) (op:Op) (p:Oper),az p d op->(∀t,op≠ .alloc t)->DC p=false:=by intro d op p hp di;unfold DC;rw [hp.op];cases op<;>first|rfl|exact absurd rfl (di _)
 have U4:dQ P n.fLd #[.agg #[.int .i64 s.F,.int .i64 s.T],.int .i64 v] W0 λx W'=> ∃φ',Trans (λb=>W0.heap.size<=b) φt W0 φ' W'/\qy φ' W'/\iG c (λb=>W0.heap.size<=b) φ' W' (c.key n.fLd) x (.i .i64 l):=BE (vs:=[.agg #[.int .i64 s.F,.int .i64 s.T],.int .i64 v]) (by rw [H.key];exact H.gv.2.1) (H.snd _ _ _ ZN) rfl ⟨_,_,rfl,Av (vs:=[.int .i64 s.F,.int .i64 s.T]) (.cons [_] _ _ _ (.i _ _) (.cons [_] _ _ _ (.i _ _) .nil)),_,_,rfl,Au,rfl⟩ k20;refine B1.aen (o:=o 20) rfl (λy hy p hp=> ?_) (by simp [kE,H.ops.h20.op]) (aN.Vx rfl H.ops.h20 (by decide) (BD H.ops.h20 rfl rfl rfl _) U4 ?_)
 ·rcases AT.1 hy with rfl|hy
  ·cases hp;exact B3 _ _ _ H.ops.Vv (by simp)
  ·have:y=6:=by simpa using hy
   subst this;cases hp;exact B3 _ _ _ H.ops.Vw (by simp)
 rintro x1 W1 a ⟨φ2,t1,m1,po⟩ aN;have Fk:x1= .int .i64 l:=agt po;subst Fk;have k21:qy φt W1:=λb o u hu=>m1 b o u (t1.ph b o u hu);refine ⟨⟨λ_ _=>(ON (P:=λ_=>True) t1).for,k21⟩,?_⟩;obtain ⟨_,_,_,aaV,_⟩:=B1.facts (o:=o 20) rfl;have YC:dQ P n.fIs #[.agg (u.vs s).toArray,.int .i64 l,.bool false] W1 λx W'=> ∃φ',Trans (λb=>W1.heap.size<=b) φ2 W1 φ' W'/\qy φ' W'/\iG c (λb=>W1.heap.size<=b) φ' W' (c.key n.fIs) x (.b b):=BE (vs:=[.agg (u.vs s).toArray,.int .i64 l,.bool false]) (by rw [H.key];exact H.gv.2.2) (H.snd _ _ _ hgb) rfl ⟨_,_,rfl,Av (k4.mono t1.ph),_,_,rfl,Au,_,_,rfl,ah8,rfl⟩ m1;refine aaV.aen (o:=o 21) rfl (λy hy p hp=> ?_) (by simp [kE,H.ops.Vv.op]) (aN.Vx rfl H.ops.Vv (by decide) (VA H.ops.Vv rfl rfl rfl rfl _) YC ?_)
 ·have:y=6:=by simpa using hy
  subst this;cases hp;exact B3 _ _ _ H.ops.Vw (by simp)
 rintro x2 W2 a ⟨φ3,t2,m2,amf⟩ aN;have Hm:x2= .bool b:=aaG amf;subst Hm;have k22:qy φt W2:=λb o u hu=>m2 b o u (t2.ph b o u (t1.ph b o u hu));refine ⟨⟨λ_ _=>(ON (P:=λ_=>True) t2).for,k22⟩,?_⟩;obtain ⟨_,_,_,aia,_⟩:=aaV.facts (o:=o 21) rfl;refine aia.read (v:= .bool (!b)) rfl H.ops.Vw (by decide) (by simp [kE,H.ops.Vw.op]) (by simp [jC,H.ops.Vw.op]) (pF H.fl) (by simp [CM,H.ops.Vw.op]) aN k22 (λw' _=>OA H.ops.Vw rfl w') (λa aN B1=> ?_);refine B1.done ?_;have rR:W0.heap.size=W.heap.size:=by rw [hW0]
 have tt:Trans (λb=>W.heap.size<=b) φt W φ3 W2:=(t0.trans (t1.GA λb hb=>by omega)).trans (t2.GA λb hb=>by have:=t1.size;omega);refine hQ a W2 _ ⟨_,φ,h.grow tt⟩ aN ⟨hF.h1,hF.h2,hF.h3,hF.h4⟩ ?_;simp only [sh] at hx;subst hx;cases b<;>rfl
end
end Dn
/-
  The walk's pieces: the search for a leader; each one's step. Conditions: none.
-/
namespace Dn
open Go
theorem GC {key:Nat->Nat} {φ:Ph}{v:Value}{bs:List Bool}(h:jz key φ [v] (.list (bs.map .b))): ∃ad cp,v= .slice ad bs.length cp/\(0<bs.length-> ∃bt off,ad=some ⟨bt,off,none⟩/\ ∀k (h:k<bs.length),φ bt (off+k)=some (.bool bs[k])):=by
 generalize hv:[v]=l at h;generalize hm:bs.map MV.b=xs at h;cases h with
 |list a cap _ bt off Ds f h1 h2 h3 h4 h5=>
  have hl:xs.length=bs.length:=by rw [<-hm];simp
  refine ⟨a,cap,by simpa [hl] using hv,λh0=>⟨bt,off,h2 (by omega),λk hk=> ?_⟩⟩;have PJ:k<xs.length:=by omega
  have hx:xs[k]= .b bs[k]:=by subst hm;simp
  have hr:=h5 k PJ;rw [hx] at hr;have hlen:=h3 k PJ;have h6:=h4 k 0 PJ;generalize hf:f k=fk at hr hlen h6;cases hr;have he:Ds=1:=by rw [<-hlen];rfl
  subst he;have:=h6 (by decide);simpa using this
section
variable {P:Program}{c:Ctx}{g:Nat->List MV->Option MV}{n:CN}{fn:Func}{r:Nat->Nat}{o:Nat->Oper} {φ0 φ1:Ph} {w0 W W':World}{bc br bd bv:Nat} {s s':CS} {v v' l:Int}{a:Act} {σ:Nat->Value}{Q:Exit->Act->World->Prop}
theorem aew {I:TI}(h:xd W bv v)(hs:I.size=1)(T:TypeId)(hT:W.heap[bv]? =some (.cells #[.int .i64 v] T (0,0))): xd (W.setRow bv ((#[.int .i64 v]:Array Value).toList.take 0++(ahn .i64 v').cells.toList++(#[.int .i64 v]:Array Value).toList.drop (0+I.size)).toArray) bv v':=by refine ⟨T,?_⟩;rw [qQ _ hT,hs];rfl
theorem aex (H:nO P c g n fn r o)(hI:BF c n φ0 w0 φ1 bc bv br s v W)(aN:Tm a 52 σ)(hF:Fv σ bc br bd bv)(hQ: ∀a W' σ',BF c n φ0 w0 φ1 bc bv br s (adf .i64 (v+1)) W'->Tm a 52 σ'->Fv σ' bc br bd bv->Q .normal a W'):(ac7 (r 6) #[o 23,o 24,o 25] false).wp P Q a W:=by obtain ⟨Z,φ,h⟩:=hI;obtain ⟨Ii,i1,i2,i3⟩:=H.tyi;obtain ⟨nV,hc⟩:=bG i1;obtain ⟨T,hT⟩:=h.hv;refine wp_region ?_;rw [show BY (#[o 23,o 24,o 25]:Array Oper).size=[0,1,2] from rfl];refine aN.step (v:= .int .i64 v) rfl H.ops.h23 (by decide) (kH H.ops.h23 (by show (acX n.ti (σ 4)).run P W=_;rw [hF.h4];exact eY H.hT i1 i2 i3 h.hv.cell)) (λa aN=> ?_);refine aN.step rfl H.ops.h24 (by decide) (Vz (p:=v) (q:=1) H.ops.h24 rfl rfl _) (λa aN=> ?_);refine aN.Jg rfl H.ops.h25 (yh (v:= .int .i64 (adf .i64 (v+1))) (g:=bv) (off:=0) H.ops.h25 (H.hT _ _ nV) hc hF.h4 rfl (by simp [aek,i3]) (by simp [aek,ahW]) hT (by rw [i3];simp)) ?_;refine hQ a _ _ ⟨_,φ,h.same (by rw [setRow_size];exact adb _) (Rest.setRow _ _ _) (λb _ di=>setRow_other _ _ _ _ di) (aew h.hv i3 T hT)⟩ aN ⟨hF.h1,hF.h2,hF.h3,hF.h4⟩
abbrev Jm (r:Nat->Nat)(o:Nat->Oper):Code:= .seq (.seq (.region (r 5) #[o 16,o 17,o 18,o 19,o 20,o 21,o 22] true) (.cond (.tmp 21) .skip (.exit 0))) (.block 1 (.region (r 6) #[o 23,o 24,o 25] false))
theorem QR (H:nO P c g n fn r o)(hQ: ∀a W' σ',BF c n φ0 w0 φ1 bc bv br s v' W'->Tm a 52 σ'->Fv σ' bc br bd bv->Q .normal a W'): ∀(m:Nat) (v:Int) (W:World) (a:Act) (σ:Nat->Value),iter (xe g n.k s) m v=some v'->BF c n φ0 w0 φ1 bc bv br s v W->Tm a 52 σ->Fv σ bc br bd bv->aiv P (Jm r o) (ahk 0 Q) m a W:=by
 intro m;induction m with
 |zero=>intro v W a σ h;simp [iter] at h
 |succ m ih=>
  intro v W a σ h hI aN hF;rw [rounds_succ];simp only [iter] at h;cases hx:xe g n.k s v with
  |none=>rw [hx] at h;cases h
  |some x=>
  rw [hx] at h;refine wp_seq (wp_seq (aeu H hI aN hF hx ?_));intro a W2 σ2 Ac QS Ft Vv;cases x with
  |inl v2=>
   simp only at h;refine QS.cond (b:=true) Vv ?_;simp only [if_true];refine wp_skip (wp_block (aex H Ac QS Ft ?_));intro a W3 σ3 hI3 QT hF3;have Gg:v2=adf .i64 (v+1):=by
    unfold xe at hx;split at hx
    ·split at hx
     ·rename_i b _;simp only [sh] at hx;cases b
      ·simpa using hx.symm
      ·simp at hx
     ·cases hx
    ·cases hx
   rw [<-Gg] at hI3;exact ih v2 W3 a σ3 h hI3 QT hF3
  |inr v2=>
   simp only [sh] at h;refine QS.cond (b:=false) Vv ?_;simp only [OF,if_false];refine wp_exit ?_;have Gg:v2=v:=by
    unfold xe at hx;split at hx
    ·split at hx
     ·rename_i b _;simp only [sh] at hx;cases b
      ·simp at hx
      ·simpa using hx.symm
     ·cases hx
    ·cases hx
   rw [<-h,Gg] at hQ;exact hQ a W2 σ2 Ac QS Ft
theorem Xp (H:nO P c g n fn r o)(hl:Loop (xe g n.k s) v=some v')(hI:BF c n φ0 w0 φ1 bc bv br s v W)(aN:Tm a 52 σ)(hF:Fv σ bc br bd bv)(hQ: ∀a W' σ',BF c n φ0 w0 φ1 bc bv br s v' W'->Tm a 52 σ'->Fv σ' bc br bd bv->Q .normal a W'): (Code.block 0 (.loop (Jm r o))).wp P Q a W:=by
 obtain ⟨m,hm⟩: ∃m,iter (xe g n.k s) m v=some v':=by
  unfold Loop at hl;split at hl
  ·rename_i hex;have:=Classical.choose_spec hex;simp only [sh] at hl;rw [hl] at this;exact this
  ·cases hl
 exact wp_block (wp_loop_rounds m (QR H hQ m v W a σ hm hI aN hF))
theorem agu (H:nO P c g n fn r o){step:Nat->CS->Option CS}{gf:Nat}{lb:Array Value}{bs:List Bool}(hI:BF c n φ0 w0 φ1 bc bv br s v W)(hb:B5 s.bl=some bs)(hd:iO step bs 0 s=some s')(Ai: ∀φ2,lS φ1 φ2-> ∀(s s':CS)(W:World)(i:Nat),i<bs.length->BF c n φ0 w0 φ2 bc bv br s v W->step i s=some s'->dQ P gf (#[.int .i64 (i:Int)]++lb) W λ_ W'=>BF c n φ0 w0 φ2 bc bv br s' v W'): dQ P n.fEa #[.pointer (some ⟨bc,0,none⟩),.func (.func gf) #[] lb] W λ_ W'=>BF c n φ0 w0 φ1 bc bv br s' v W':=by
 obtain ⟨Z,φ,h⟩:=hI;obtain ⟨u,hu⟩:=h.cell.six;obtain ⟨T,hh⟩:=hu.heap;obtain ⟨It,hlen⟩:=MO hb;have hrb:=hu.b;rw [It] at hrb;obtain ⟨ad,cp,hub,cc⟩:=GC hrb;obtain ⟨fnE,rE,oE,hE⟩:=H.each;obtain ⟨IS,s1,s2,s3,s4⟩:=H.tyS;obtain ⟨IB,b1,b2,b3⟩:=H.tyB;obtain ⟨Ib,c1,c2,c3⟩:=H.tyb;have hI':BF c n φ0 w0 φ bc bv br s v W:=⟨Z,φ,{h with base:= .refl φ}⟩
 refine (ML hE H.hT s1 s2 (by rw [s3];rfl) c1 c2 c3 b1 b2 b3 (Inv:=λs W=>BF c n φ0 w0 φ bc bv br s v W) (step:=step) (bl:=bs) (ad:=ad) (cp:=cp) (Ai φ h.base) ?_ ?_ (by omega) hI' hd).imp λ_ W' hW'=>hW'.adS h.base
 ·rw [cell_of hh];show some u.b=_;rw [hub]
 ·intro h0;obtain ⟨bt,off,e1,e2⟩:=cc h0;refine ⟨bt,off,e1,?_⟩;rintro s2 W2 ⟨Z2,φ2,h2⟩ k hk;exact h2.kP _ _ _ (h2.base _ _ _ (e2 k hk))
theorem TS (H:nO P c g n fn r o){bs:List Bool}(hI:BF c n φ0 w0 φ1 bc bv br s v W)(VC:φ1 bd 0=some (.pointer (some ⟨bc,0,none⟩)))(hb:B5 s.bl=some bs)(hd:iO (Jj g n.k v) bs 0 s=some s'): dQ P n.fEa #[.pointer (some ⟨bc,0,none⟩),.func (.func n.f2) #[] #[.pointer (some ⟨bd,0,none⟩),.pointer (some ⟨bv,0,none⟩)]] W λ_ W'=>BF c n φ0 w0 φ1 bc bv br s' v W':=by refine agu H hI hb hd ?_;intro φ2 hp s s' W i hi hI iF;obtain ⟨QQ,r2,o2,hC⟩:=H.c2;obtain ⟨IP,p1,p2,p3⟩:=H.tyP;obtain ⟨Ii,i1,i2,i3⟩:=H.tyi;obtain ⟨rr,hr⟩:=FB iF;have Sx:=hI;obtain ⟨Z,φ,h⟩:=hI;refine aaS hC H.hT p1 p2 p3 (h.kP _ _ _ (h.base _ _ _ (hp _ _ _ VC))) (eY H.hT i1 i2 i3 h.hv.cell) ?_;exact Sx.call (by rw [H.key];exact H.gvC.1) (by rw [H.key];exact H.sig.1) (H.snd _ _ _ hr) (vs:=[.int .i64 i,.int .i64 v]) λφ _ _=>⟨_,_,rfl,Au,_,_,rfl,Au,rfl⟩
theorem OO (H:nO P c g n fn r o){bs:List Bool}{m:MV}{vm:List Value}{bm:Nat}(hI:BF c n φ0 w0 φ1 bc bv br s v W)(VC:φ1 bd 0=some (.pointer (some ⟨bc,0,none⟩)))(TT: ∀j,j<vm.length->φ1 bm j=vm[j]?)(hlm:vm.length=n.sz)(hm: ∃ms,m= .agg ms/\jd c.key φ1 vm ms)(hb:B5 s.bl=some bs)(hd:iO (Fz g n.k m) bs 0 s=some s'): dQ P n.fEa #[.pointer (some ⟨bc,0,none⟩),.func (.func n.f3) #[] #[.pointer (some ⟨bd,0,none⟩),.pointer (some ⟨bm,0,none⟩)]] W λ_ W'=>BF c n φ0 w0 φ1 bc bv br s' v W':=by
 refine agu H hI hb hd ?_;intro φ2 hp s s' W i hi hI iF;obtain ⟨fn3,r3,o3,hC⟩:=H.c3;obtain ⟨IP,p1,p2,p3⟩:=H.tyP;obtain ⟨Im,m1,m2,m3⟩:=H.tym;obtain ⟨rr,hr⟩:=FB iF;obtain ⟨ms,rfl,Lq⟩:=hm;have Sx:=hI;obtain ⟨Z,φ,h⟩:=hI;have aid:W.rangeAt bm 0 vm:=by intro j u hj;rw [ads];have Gi:=(abC.1 hj).1;exact h.kP _ _ _ (h.base _ _ _ (hp _ _ _ (by rw [TT j Gi];exact hj)))
 refine aaS hC H.hT p1 p2 p3 (h.kP _ _ _ (h.base _ _ _ (hp _ _ _ VC))) (oP H.hT m1 m2 (by rw [hlm,m3]) aid) ?_;exact Sx.call (by rw [H.key];exact H.gvC.2.1) (by rw [H.key];exact H.sig.2.1) (H.snd _ _ _ hr) (vs:=[.int .i64 i,.agg vm.toArray]) λφ Mk _=>⟨_,_,rfl,Au,_,_,rfl,Av (Lq.mono (hp.trans Mk)),rfl⟩
theorem VD {v:Int}:Iv [.k (.i .i64)] [.i .i64 v]=some ([.p (.i .i64 v)],[]):=by simp [Iv,dh,kZ,kn,gC,gI,gN]
theorem aaW {Z:Nat->Prop} {φ:Ph}(h:gz c Z φ W bv [.k (.i .i64)] [.i .i64 v]):xd W bv v:=by obtain ⟨cs,m,E,arr,T,h1,h2,h3,h4,h5,h6,h7⟩:=h;rw [VD] at h1;simp only [sh,adW] at h1;obtain ⟨rfl,rfl⟩:=h1;obtain ⟨v0,r0,e0,⟨_,l0⟩,h5⟩:=h5;have h5:r0=[]:=h5;subst h5;have l0:jz c.key φ v0 (.i .i64 v):=l0;cases l0;refine ⟨T,?_⟩;have:arr= #[.int .i64 v]:=afT.1 (by rw [e0];rfl);rw [<-this];exact h2
theorem aaX {Z:Nat->Prop} {φ:Ph}(h:xd W bv v)(hz:Z bv)(hf: ∀o,φ bv o=none):gz c Z φ W bv [.k (.i .i64)] [.i .i64 v]:=by obtain ⟨T,hT⟩:=h;exact ⟨_,_,λ_=>undef,_,T,VD,hT,hz,hf,⟨[_],[],rfl,⟨rfl,.i _ _⟩,rfl⟩,λf o ho=>by simp [aQ] at ho,λf f' o o' k ho=>by simp [aQ] at ho⟩
theorem Xq (H:nO P c g n fn r o){bs:List Bool}(hI:BF c n φ0 w0 φ1 bc bv br s v W)(hb:B5 s.bl=some bs)(hd:iO (Ji g n.k s) bs 0 v=some v'): dQ P n.fEa #[.pointer (some ⟨bc,0,none⟩),.func (.func n.f1) #[] #[.pointer (some ⟨bv,0,none⟩),.pointer (some ⟨bc,0,none⟩)]] W λ_ W'=>BF c n φ0 w0 φ1 bc bv br s v' W':=by
 obtain ⟨Z,φ,h⟩:=hI;obtain ⟨u,hu⟩:=h.cell.six;obtain ⟨T,hh⟩:=hu.heap;obtain ⟨φt,k1,k2,k3,k4,k5⟩:=hu.still h.kP;obtain ⟨It,hlen⟩:=MO hb;have hrb:=hu.b.mono k1;rw [It] at hrb;obtain ⟨ad,cp,hub,cc⟩:=GC hrb;obtain ⟨fnE,rE,oE,hE⟩:=H.each;obtain ⟨IS,s1,s2,s3,s4⟩:=H.tyS;obtain ⟨IB,b1,b2,b3⟩:=H.tyB;obtain ⟨Ib,c1,c2,c3⟩:=H.tyb;have tF:bv<W.heap.size:=by obtain ⟨T,hT⟩:=h.hv;exact aZ hT
 have hft: ∀o,φt bv o=none:=λo=>by rw [k3 bv o h.zv];exact h.fv o
 let Zv:Nat->Prop:=λb=>b=bv\/W.heap.size<=b;refine (ML hE H.hT s1 s2 (by rw [s3];rfl) c1 c2 c3 b1 b2 b3 (Inv:=λv W'=> ∃φ',lS φt φ'/\qy φ' W'/\gz c Zv φ' W' bv [.k (.i .i64)] [.i .i64 v]/\Trans Zv φt W φ' W') (step:=Ji g n.k s) (bl:=bs) (ad:=ad) (cp:=cp) ?_ ?_ ?_ (by omega) ⟨φt,.refl _,k2,aaX h.hv (.inl rfl) hft,.refl _ _ _⟩ hd).imp ?_
 ·rintro v1 v2 W1 i hi ⟨φ',q1,q2,q3,q4⟩ iF;obtain ⟨rr,hr⟩:=Xo iF;have gl:fJ c Zv φ' W1 (c.key n.f1) [.int .i64 i,.pointer (some ⟨bv,0,none⟩),.pointer (some ⟨bc,0,none⟩)] [.i .i64 i,.cell (.func 0 [.i .i64 v1]),.rp s.ls]:=by simp only [fJ,H.key,H.gvC.2.2.2,if_true];refine .inr (.inr ⟨1,[.k (.i .i64)],0,[.i .i64 v1],bv,H.ah7,rfl,rfl,?_,q3⟩);refine ⟨_,_,rfl,Au,_,_,rfl,⟨rfl,.rp bv 0 [] [] .nil (by simp)⟩,_,_,rfl,⟨rfl,.rp bc 0 (u.vs s) s.ls (k4.mono q1) λj hj=> ?_⟩,rfl⟩;rw [ads];exact q1.Bn (k5 j hj) hj
  have hz: ∀b,W1.heap.size<=b->Zv b:=λb hb=> .inr (ac6 q4.size hb);refine (H.snd _ _ _ hr φ' W1 Zv _ hz gl q2).imp ?_;rintro x W2 ⟨φ2,t1,t2,po,pos',K9,aqH,SH,zb,Sq,hc⟩;rw [H.key,show c.sig n.k.f1=_ from H.ah7] at zb;simp only [sh,adW] at zb;obtain ⟨rfl,rfl⟩:=zb;simp only [List.getElem?_cons_succ,afW,sh,aeO,agI] at Sq;obtain ⟨rfl,_⟩:=Sq;exact ⟨φ2,q1.trans t1.ph,t2,hc,q4.trans t1⟩
 ·rw [cell_of hh];show some u.b=_;rw [hub]
 ·intro h0;obtain ⟨bt,off,e1,e2⟩:=cc h0;refine ⟨bt,off,e1,?_⟩;rintro s2 W2 ⟨φ',q1,q2,q3,q4⟩ k hk;exact q2 _ _ _ (q1 _ _ _ (e2 k hk))
 ·rintro _ W2 ⟨φ',q1,q2,q3,q4⟩;exact ⟨_,φ,h.same q4.size q4.rest (λb hb di=>q4.heap b (λhz=>hz.elim di (by omega)) hb) (aaW q3)⟩
end
end Dn
/-
  The walk's pieces: a turn, and the end. Conditions: none.
-/
namespace Dn
open Go
section
variable {P:Program}{c:Ctx}{g:Nat->List MV->Option MV}{n:CN}{fn:Func}{r:Nat->Nat}{o:Nat->Oper} {φ0 φ1:Ph} {w0 W W':World}{bc br bd bv:Nat} {s s':CS} {v v' l:Int}{a:Act} {σ:Nat->Value}{Q:Exit->Act->World->Prop}
theorem CI0.new {Z:Nat->Prop} {φ:Ph}{vs:List Value}{T:TypeId}(h:CI0 c φ0 w0 φ1 bc bv br n.iC n.ty s v W Z φ)(hh:W'.heap[W.heap.size]? =some (.cells vs.toArray T (0,0)))(hs:W.heap.size<=W'.heap.size)(hold: ∀b,b<W.heap.size->W'.heap[b]? =W.heap[b]?)(hr:Rest W W'): BF c n φ0 w0 (OG φ W.heap.size vs) bc bv br s v W':=by
 have qC: ∀o,φ W.heap.size o=none:=by
  intro o;cases hq:φ W.heap.size o with
  |none=>rfl
  |some u=>exact absurd (abz W _ (h.kP _ _ _ hq)) (aib _)
 have hle:=OH (vs:=vs) qC;have je:=h.same (v':=v) hs hr (λb hb _=>hold b hb) (h.hv.same λhl=>hold bv hl);have tF:bv<W.heap.size:=by obtain ⟨T,hT⟩:=h.hv;exact aZ hT
 have YB:br<W.heap.size:=by obtain ⟨arr,T,hT,_⟩:=h.hr;exact aZ hT
 have di: ∀b o,b<W.heap.size->OG φ W.heap.size vs b o=φ b o:=λb o hb=>by unfold OG;rw [if_neg (Nat.ne_of_lt hb)]
 refine ⟨_,_,je.cell.more hle λb o hb=>di b o hb.2,OI je.kP hh,⟨je.tr.ph.trans hle,je.tr.heap,λb o hb=> ?_,je.tr.size,je.tr.rest⟩,.refl _,je.sub,je.hv,je.zv,λo=>by rw [di _ _ tF];exact h.fv o,h.nv,je.hr,je.zr,λo=>by rw [di _ _ YB];exact h.fr o,h.nr,h.ne⟩;have:b<W.heap.size:=by have:=h.tr.size;omega
 rw [di _ _ this];exact h.tr.free b o hb
theorem GD {key:Nat->Nat} {φ:Ph}{x:Value}{xs:List MV}(h:jz key φ [x] (.list xs)): ∃ad cp,x= .slice ad xs.length cp/\ ∀k (hk:k<xs.length),∃bt off Ds vm,ad=some ⟨bt,off,none⟩/\vm.length=Ds/\jz key φ vm xs[k]/\ ∀j,j<Ds->φ bt (off+k *Ds+j)=vm[j]? :=by
 generalize hv:[x]=l at h;generalize hm:MV.list xs=m at h;cases h with
 |list a cap ys bt off Ds f h1 h2 h3 h4 h5=>cases hm;refine ⟨a,cap,by simpa using hv,λk hk=>⟨bt,off,Ds,f k,h2 (by omega),h3 k hk,h5 k hk,λj hj=>h4 k j hk hj⟩⟩
 |_=>cases hm
theorem Xr {m:MV}(h:Wg m=true): ∃ms,m= .agg ms:=by cases m<;>simp [Wg] at h;exact ⟨_,rfl⟩
theorem aaY {key:Nat->Nat} {φ:Ph}{vs:List Value}{ms:List MV}(h:jz key φ vs (.agg ms)):jd key φ vs ms:=by
 cases h with
 |agg _ _ h=>exact h
theorem aey {d:Nat}{op:Op}{p:Oper}(hp:az p d op)(di: ∀t,op≠ .alloc t):DC p=false:=by unfold DC;rw [hp.op];cases op<;>first|rfl|exact absurd rfl (di _)
theorem aez (H:nO P c g n fn r o)(hI:BF c n φ0 w0 φ1 bc bv br s v W)(VC:φ1 bd 0=some (.pointer (some ⟨bc,0,none⟩)))(aN:Tm a 52 σ)(hF:Fv σ bc br bd bv){l:Int}(hl:OL g n.k s v=some l)(hle:OJ (g n.fLe [.cell (.func 0 s.ls),.i .i64 l])=some s')(hQ: ∀a W' σ',BF c n φ0 w0 φ1 bc bv br s' v W'->Tm a 52 σ'->Fv σ' bc br bd bv->σ' 5=σ 5->Q .normal a W'):(ac7 (r 15) #[o 49,o 50,o 51,o 52,o 53,o 54] true).wp P Q a W:=by
 have ZN:=MQ hl;obtain ⟨rr,hr⟩:=FB hle;obtain ⟨Z,φ,h⟩:=hI;obtain ⟨u,hu⟩:=h.cell.six;obtain ⟨T,hh⟩:=hu.heap;obtain ⟨IS,s1,s2,s3,s4⟩:=H.tyS;obtain ⟨IZ,z1,z2,z3⟩:=H.tyZ;obtain ⟨Ii,i1,i2,i3⟩:=H.tyi;obtain ⟨IP,p1,p2,p3⟩:=H.tyP;refine QO (c:=c) (φ:=λ_ _=>none) (ord:=[0,1,2,3,4,5]) H.mix H.d15 λlisted B1=> ?_;have hIm: ∀W:World,qy (λ_ _=>none) W:=λW b o u hu=>by cases hu
 obtain ⟨W0,hW0⟩: ∃W0,W0=({W with drawn:=W.drawn+1}:World):=⟨_,rfl⟩
 rw [<-hW0];have t0:Trans (λb=>W.heap.size<=b) φ W φ W0:=by rw [hW0];exact ⟨.refl _,λ_ _ _=>rfl,λ_ _ _=>rfl,adb _,⟨rfl,rfl,rfl,λ_=>rfl⟩⟩
 have h0:=h.grow t0;have hh0:W0.heap[bc]? =some (.cells (u.vs s).toArray T (0,0)):=by rw [hW0];exact hh
 have hpd: ∀w',dN W0 w'->w'.cell? ⟨bd,0,none⟩=some (.pointer (some ⟨bc,0,none⟩)):=λw' hg=>tH (h0.kP _ _ _ (h0.base _ _ _ VC)) λhl=>hg.qA bd hl;have hrZ: ∀w',dN W0 w'->w'.rangeAt bc 0 [.int .i64 s.F,.int .i64 s.T]:=λw' hg=>wOf (arr:=u.vs s) (by rw [hg.qA bc (aZ hh0)];exact hh0) (by intro j hj;match j,hj with|0,_=>rfl|1,_=>rfl);refine B1.read (v:= .pointer (some ⟨bc,0,none⟩)) rfl H.ops.h49 (by decide) (by simp [kE,H.ops.h49.op]) (by simp [jC,H.ops.h49.op]) (pF H.fl) (by simp [CM,H.ops.h49.op]) aN (hIm _) (λw' hg=>kH H.ops.h49 (by show (acX n.tP (σ 3)).run P w'=_;rw [hF.h3];exact eY H.hT p1 p2 p3 (hpd w' (hg (by simp [ni,H.ops.h49.op]))))) (λa aN B1=> ?_);refine B1.read (v:= .pointer (some ⟨bc,0+0,none⟩)) rfl H.ops.h50 (by decide) (by simp [kE,H.ops.h50.op]) (by simp [jC,H.ops.h50.op]) (pF H.fl) (by simp [CM,H.ops.h50.op]) aN (hIm _) (λw' _=>As H.ops.h50 H.hT s1 s2 (by rw [s3];rfl) hF.h1 w') (λa aN B1=> ?_);refine B1.read (v:= .agg #[.int .i64 s.F,.int .i64 s.T]) rfl H.ops.h51 (by decide) (by simp [kE,H.ops.h51.op]) (by simp [jC,H.ops.h51.op]) (pF H.fl) (by simp [CM,H.ops.h51.op]) aN (hIm _) (λw' hg=>kH H.ops.h51 (by exact oP H.hT z1 z2 (vs:=[.int .i64 s.F,.int .i64 s.T]) (by rw [z3];rfl) (hrZ w' (hg (by simp [ni,H.ops.h51.op]))))) (λa aN B1=> ?_);refine B1.read (v:= .int .i64 v) rfl H.ops.h52 (by decide) (by simp [kE,H.ops.h52.op]) (by simp [jC,H.ops.h52.op]) (pF H.fl) (by simp [CM,H.ops.h52.op]) aN (hIm _) (λw' hg=>kH H.ops.h52 (by show (acX n.ti (σ 4)).run P w'=_;rw [hF.h4];exact eY H.hT i1 i2 i3 ((h0.hv.same λhl=>(hg (by simp [ni,H.ops.h52.op])).qA bv hl).cell))) (λa aN B1=> ?_);have U4:dQ P n.fLd #[.agg #[.int .i64 s.F,.int .i64 s.T],.int .i64 v] W0 λx W'=> ∃φ',Trans (λb=>W0.heap.size<=b) φ W0 φ' W'/\qy φ' W'/\iG c (λb=>W0.heap.size<=b) φ' W' (c.key n.fLd) x (.i .i64 l):=BE (vs:=[.agg #[.int .i64 s.F,.int .i64 s.T],.int .i64 v]) (by rw [H.key];exact H.gv.2.1) (H.snd _ _ _ ZN) rfl ⟨_,_,rfl,Av (vs:=[.int .i64 s.F,.int .i64 s.T]) (.cons [_] _ _ _ (.i _ _) (.cons [_] _ _ _ (.i _ _) .nil)),_,_,rfl,Au,rfl⟩ h0.kP;refine B1.aen (o:=o 53) rfl (λy hy p hp=> ?_) (by simp [kE,H.ops.h53.op]) (aN.Vx rfl H.ops.h53 (by decide) (BD H.ops.h53 rfl rfl rfl _) U4 ?_)
 ·have:y=5:=by simpa using hy
  subst this;cases hp;exact aey H.ops.h54 (by simp)
 rintro x1 W1 a ⟨φ2,t1,m1,po⟩ aN;have Fk:x1= .int .i64 l:=agt po;subst Fk;refine ⟨⟨λ_ _=>(ON (P:=λ_=>True) t1).for,hIm _⟩,?_⟩;obtain ⟨_,_,_,aaV,_⟩:=B1.facts (o:=o 53) rfl;have PE:BF c n φ0 w0 φ1 bc bv br s v W1:=⟨_,φ,h0.grow t1⟩
 have YC:dQ P n.fLe #[.pointer (some ⟨bc,0,none⟩),.int .i64 l] W1 λ_ W'=>BF c n φ0 w0 φ1 bc bv br s' v W':=PE.call (by rw [H.key];exact H.gvC.2.2.1) (by rw [H.key];exact H.sig.2.2) (H.snd _ _ _ hr) (vs:=[.int .i64 l]) λφ _ _=>⟨_,_,rfl,Au,rfl⟩
 refine aaV.aen (o:=o 54) rfl (λy hy p hp=>by cases hy) (by simp [kE,H.ops.h54.op]) (aN.Vx rfl H.ops.h54 (by decide) (BD H.ops.h54 rfl rfl rfl _) YC ?_);rintro x2 W2 a Ac aN;refine ⟨⟨λoi hg=> ?_,hIm _⟩,?_⟩
 ·exfalso;have PG:sE c oi #[o 49,o 50,o 51,o 52,o 53,o 54] 5=(PX c (o 54)||wQ oi (o 54)):=rfl;rw [PG] at hg;have h1:PX c (o 54)=false:=by simp [PX,kE,DB,H.ops.h54.op,H.key,H.gvC.2.2.1]
  have h2:wQ oi (o 54)=false:=by unfold wQ;simp [Y4,H.ops.h54.op]
  rw [h1,h2] at hg;cases hg
 ·obtain ⟨_,_,_,aia,_⟩:=aaV.facts (o:=o 54) rfl;refine aia.done ?_;exact hQ a W2 _ Ac aN ⟨hF.h1,hF.h2,hF.h3,hF.h4⟩ rfl
theorem aeA (H:nO P c g n fn r o)(hI:BF c n φ0 w0 φ1 bc bv br s v W)(VC:φ1 bd 0=some (.pointer (some ⟨bc,0,none⟩)))(aN:Tm a 52 σ)(hF:Fv σ bc br bd bv){k:Nat}(hk:k<s.pl.length)(h5:σ 5= .int .i64 (k:Int))(hag:Wg s.pl[k]=true)(hw:s.pl[k].w=n.sz)(rR:0<n.sz){bs:List Bool}(hb:B5 s.bl=some bs)(hd:iO (Fz g n.k s.pl[k]) bs 0 s=some s')(hQ: ∀a W' σ',BF c n φ0 w0 φ1 bc bv br s' v W'->Tm a 52 σ'->Fv σ' bc br bd bv->σ' 5= .int .i64 (k:Int)->Q .normal a W'): (ac7 (r 13) #[o 39,o 40,o 41,o 42,o 43,o 44,o 45] false).wp P (Exit.then (λa W=>(ac7 (r 14) #[o 46,o 47,o 48] false).wp P Q a W) Q) a W:=by
 obtain ⟨Z,φ,h⟩:=hI;obtain ⟨u,hu⟩:=h.cell.six;obtain ⟨T,hh⟩:=hu.heap;obtain ⟨IS,s1,s2,s3,s4⟩:=H.tyS;obtain ⟨IM,m1,m2,m3⟩:=H.tyM;obtain ⟨Im,e1,e2,e3⟩:=H.tym;obtain ⟨IP,p1,p2,p3⟩:=H.tyP;obtain ⟨hei,hec⟩:=bG e1;obtain ⟨im,z,him,hsm,TT,hz0,S1⟩:=lJ (H.hT _ Im hei) hec;obtain ⟨ad,cp,hup,HN⟩:=GD hu.p;obtain ⟨bt,off,Ds,vm,S0,hlm,hrm,K6⟩:=HN k hk;obtain ⟨ms,Lq⟩:=Xr hag;have U3:Ds=n.sz:=by rw [<-hlm,hrm.width,hw]
 subst U3;have Lj:W.cell? ⟨bc,5,none⟩=some (.slice (some ⟨bt,off,none⟩) s.pl.length cp):=by rw [cell_of hh];show some u.p=_;rw [hup,S0]
 have aid:W.rangeAt bt (off+k *n.sz) vm:=by intro j x hj;have Gi:=(abC.1 hj).1;exact h.kP _ _ _ (by rw [K6 j (by omega)];exact hj)
 have ml: ∀x∈vm,x.oneCell'=true:=hrm.cells;refine wp_region ?_;rw [show BY (#[o 39,o 40,o 41,o 42,o 43,o 44,o 45]:Array Oper).size=[0,1,2,3,4,5,6] from rfl];refine aN.step rfl H.ops.h39 (by decide) (As H.ops.h39 H.hT s1 s2 (q:=5) (by rw [s3];rfl) hF.h1 _) (λa aN=> ?_);refine aN.step (v:= .slice (some ⟨bt,off,none⟩) s.pl.length cp) rfl H.ops.h40 (by decide) (kH H.ops.h40 (eY H.hT m1 m2 m3 (by simpa using Lj))) (λa aN=> ?_);refine aN.step (v:= .int .i64 (k:Int)) rfl H.ops.h41 (by decide) ((bF H.ops.h41 _).trans (by show afV (afH (σ 5)) W=_;rw [h5])) (λa aN=> ?_);refine aN.step rfl H.ops.h42 (by decide) (Vy (size:=n.sz) H.ops.h42 H.ah6 him (by rw [hsm,e3]) rfl rfl hk _) (λa aN=> ?_);refine aN.step (v:= .agg vm.toArray) rfl H.ops.h43 (by decide) (kH H.ops.h43 (oP H.hT e1 e2 (by rw [hlm,e3]) aid)) (λa aN=> ?_);refine aN.step rfl H.ops.h44 (by decide) (HQ H.ops.h44 him hz0 _) (λa aN=> ?_);have agv:(W.alloc (.cells z.cells n.tm)).heap[W.heap.size]? =some (.cells z.cells n.tm (0,0)):=iD W _;have hsc:(Value.agg vm.toArray).cells.toList=vm:=by simp [aek]
 refine aN.Jg rfl H.ops.h45 (yh (v:= .agg vm.toArray) (off:=0) H.ops.h45 (H.hT _ Im hei) hec rfl rfl (by rw [hsc,hlm,e3]) (by rw [hsc];exact ml) agv (by rw [S1];omega)) ?_;rw [hsc];obtain ⟨W2,Lb⟩: ∃W2,W2=(W.alloc (.cells z.cells n.tm)).setRow W.heap.size (z.cells.toList.take 0++vm++z.cells.toList.drop (0+Im.size)).toArray:=⟨_,rfl⟩
 rw [<-Lb];have Qb:W2.heap.size=W.heap.size+1:=by rw [Lb,setRow_size];simp
 have hold: ∀b,b<W.heap.size->W2.heap[b]? =W.heap[b]? :=λb hb=>by rw [Lb,setRow_other _ _ _ _ (by omega)];exact (dN.alloc W z.cells n.tm).qA b hb
 have PF:W2.heap[W.heap.size]? =some (.cells vm.toArray n.tm (0,0)):=by
  rw [Lb,qQ _ agv];congr 3;have:z.cells.toList.drop (0+Im.size)=[]:=by rw [ads,af7];rw [abJ,S1];exact adb _
  rw [this];simp
 have TP:Rest W W2:=by rw [Lb];exact (Rest.alloc W z.cells n.tm).trans (.setRow _ _ _)
 have Ac:=h.new PF (by omega) hold TP;have hlφ:lS φ (OG φ W.heap.size vm):=OH λo=>by
  cases hq:φ W.heap.size o with
  |none=>rfl
  |some u=>exact absurd (abz W _ (h.kP _ _ _ hq)) (aib _)
 have amh:OG φ W.heap.size vm bd 0=some (.pointer (some ⟨bc,0,none⟩)):=hlφ _ _ _ (h.base _ _ _ VC);have DV:=OO H (m:=s.pl[k]) (vm:=vm) (bm:=W.heap.size) Ac amh (λj hj=>by simp [OG]) hlm ⟨ms,Lq,by rw [Lq] at hrm;exact (aaY hrm).mono hlφ⟩ hb hd;show (ac7 (r 14) #[o 46,o 47,o 48] false).wp P Q a W2;refine wp_region ?_;rw [show BY (#[o 46,o 47,o 48]:Array Oper).size=[0,1,2] from rfl];have hpd:W2.cell? ⟨bd,0,none⟩=some (.pointer (some ⟨bc,0,none⟩)):=by obtain ⟨Z3,φ3,h3⟩:=Ac;exact h3.kP _ _ _ (h3.base _ _ _ amh)
 refine aN.step (v:= .pointer (some ⟨bc,0,none⟩)) rfl H.ops.h46 (by decide) (kH H.ops.h46 (by show (acX n.tP (σ 3)).run P W2=_;rw [hF.h3];exact eY H.hT p1 p2 p3 hpd)) (λa aN=> ?_);refine aN.step (v:= .func (.func n.f3) #[] #[.pointer (some ⟨bd,0,none⟩),.pointer (some ⟨W.heap.size,0,none⟩)]) rfl H.ops.h47 (by decide) ((TQ H.ops.h47 _).trans (by show afV (afH (.func (.func n.f3) #[] #[σ 3,_])) W2=_;rw [hF.h3];rfl)) (λa aN=> ?_);refine aN.call rfl H.ops.h48 (by decide) (BD H.ops.h48 rfl rfl rfl _) DV ?_;rintro x W3 a hI3 aN;exact hQ a W3 _ (hI3.adS (h.base.trans hlφ)) aN ⟨hF.h1,hF.h2,hF.h3,hF.h4⟩ h5
abbrev QU (r:Nat->Nat)(o:Nat->Oper):Code:= .seq (.seq (.region (r 11) #[o 34,o 35,o 36,o 37,o 38] false) (.cond (.tmp 34) .skip (.exit 2))) (.seq (.block 3 (.seq (.region (r 13) #[o 39,o 40,o 41,o 42,o 43,o 44,o 45] false) (.seq (.region (r 14) #[o 46,o 47,o 48] false) (.region (r 15) #[o 49,o 50,o 51,o 52,o 53,o 54] true)))) (.region (r 12) #[o 55,o 56,o 57] false))
theorem QV (H:nO P c g n fn r o)(rR:0<n.sz)(VC:φ1 bd 0=some (.pointer (some ⟨bc,0,none⟩)))(hQ: ∀a W' σ',BF c n φ0 w0 φ1 bc bv br s' v W'->Tm a 52 σ'->Fv σ' bc br bd bv->Q .normal a W'): ∀(m:Nat) (p:Int×CS) (W:World) (a:Act) (σ:Nat->Value),iter (Jk g n.k v) m p=some s'->BF c n φ0 w0 φ1 bc bv br p.2 v W->Tm a 52 σ->Fv σ bc br bd bv->σ 5= .int .i64 p.1->aiv P (QU r o) (ahk 2 Q) m a W:=by
 intro m;induction m with
 |zero=>intro p W a σ h;simp [iter] at h
 |succ m ih=>
  rintro ⟨at_,s⟩ W a σ h hI aN hF h5;rw [rounds_succ];simp only [iter] at h;dsimp only at hI h5;have Sx:=hI;obtain ⟨Z,φ,hc⟩:=hI;obtain ⟨u,hu⟩:=hc.cell.six;obtain ⟨T,hh⟩:=hu.heap;obtain ⟨IS,s1,s2,s3,s4⟩:=H.tyS;obtain ⟨IM,m1,m2,m3⟩:=H.tyM;obtain ⟨ad,cp,hup,HN⟩:=GD hu.p;have Lj:W.cell? ⟨bc,5,none⟩=some (.slice ad s.pl.length cp):=by rw [cell_of hh];show some u.p=_;rw [hup]
  refine wp_seq (wp_seq (wp_region ?_));rw [show BY (#[o 34,o 35,o 36,o 37,o 38]:Array Oper).size=[0,1,2,3,4] from rfl];refine aN.step (v:= .int .i64 at_) rfl H.ops.h34 (by decide) ((bF H.ops.h34 _).trans (by show afV (afH (σ 5)) W=_;rw [h5])) (λa aN=> ?_);refine aN.step rfl H.ops.h35 (by decide) (As H.ops.h35 H.hT s1 s2 (q:=5) (by rw [s3];rfl) hF.h1 _) (λa aN=> ?_);refine aN.step (v:= .slice ad s.pl.length cp) rfl H.ops.h36 (by decide) (kH H.ops.h36 (eY H.hT m1 m2 m3 (by simpa using Lj))) (λa aN=> ?_);refine aN.step (v:= .int .i64 ((s.pl.length:Nat):Int)) rfl H.ops.h37 (by decide) (vG H.ops.h37 H.ah6 rfl _) (λa aN=> ?_);refine aN.step (v:= .bool (decide (at_<(s.pl.length:Int)))) rfl H.ops.h38 (by decide) (QN H.ops.h38 rfl rfl _) (λa aN=> ?_);unfold Jk at h;dsimp only at h;by_cases cJ:at_<(s.pl.length:Int)
  ·rw [if_pos cJ] at h;refine aN.cond (b:=true) (by show acW (decide (at_<(s.pl.length:Int)))=_;rw [decide_eq_true cJ]) ?_;simp only [if_true];refine wp_skip ?_;cases MC:Sz s.pl at_ with
   |none=>rw [MC] at h;simp at h
   |some mm=>
   cases hb:B5 s.bl with
   |none=>rw [MC,hb] at h;simp at h
   |some bs=>
   rw [MC,hb] at h;dsimp only at h;cases hag:Wg mm&&abG mm.w n.k.sz with
   |false=>rw [hag] at h;simp at h
   |true=>
   rw [hag] at h;simp only [cond_true] at h;simp only [cV] at hag;obtain ⟨aqR,aif⟩:=hag;have aif:mm.w=n.sz:=AI aif;cases hd:iO (Fz g n.k mm) bs 0 s with
   |none=>rw [hd] at h;simp at h
   |some s1'=>
   rw [hd] at h;dsimp only at h;cases hl:OL g n.k s1' v with
   |none=>rw [hl] at h;simp at h
   |some l=>
   rw [hl] at h;dsimp only at h;cases hle:OJ (g n.k.le [.cell (.func 0 s1'.ls),.i .i64 l]) with
   |none=>rw [hle] at h;simp at h
   |some s2'=>
   rw [hle] at h;simp only at h;unfold Sz at MC;split at MC;rotate_left
   ·cases MC
   rename_i h0;obtain ⟨hk,Wq⟩:=abC.1 MC;obtain ⟨k,rfl⟩: ∃k:Nat,at_=(k:Int):=⟨at_.toNat,by omega⟩
   simp only [Int.toNat_natCast] at hk Wq;subst Wq;refine wp_seq (wp_block (wp_seq (aed ?_ (aeA (s':=s1') (Q:=λx a W=>match x with| .normal=> ∃σ',BF c n φ0 w0 φ1 bc bv br s1' v W/\Tm a 52 σ'/\Fv σ' bc br bd bv/\σ' 5= .int .i64 (k:Int)|_=>False) H Sx VC aN ⟨hF.h1,hF.h2,hF.h3,hF.h4⟩ hk h5 aqR aif rR hb hd ?_))));rotate_left
   ·intro a W' σ' q1 q2 q3 q4;exact ⟨σ',q1,q2,q3,q4⟩
   intro x a1 W1 hx;cases x<;>try exact hx.elim
   refine wp_seq (aed ?_ hx);intro x a2 W2 Hm;cases x<;>try exact Hm.elim
   obtain ⟨σ2,Ac,QS,Ft,h52⟩:=Hm;refine aez H Ac VC QS Ft hl hle ?_;intro a3 W3 σ3 hI3 QT hF3 h53;rw [h52] at h53;show (ac7 (r 12) #[o 55,o 56,o 57] false).wp P _ a3 W3;refine wp_region ?_;rw [show BY (#[o 55,o 56,o 57]:Array Oper).size=[0,1,2] from rfl];refine QT.step (v:= .int .i64 (k:Int)) rfl H.ops.h55 (by decide) ((bF H.ops.h55 _).trans (by show afV (afH (σ3 5)) W3=_;rw [h53])) (λa aN=> ?_);refine aN.step rfl H.ops.h56 (by decide) (Vz (p:=(k:Int)) (q:=1) H.ops.h56 rfl rfl _) (λa aN=> ?_);refine aN.step (v:= .int .i64 (adf .i64 ((k:Int)+1))) rfl H.ops.h57 (by decide) (jt H.ops.h57 _) (λa aN=> ?_);exact ih (adf .i64 ((k:Int)+1),s2') W3 a _ h hI3 aN ⟨hF3.h1,hF3.h2,hF3.h3,hF3.h4⟩ rfl
  ·rw [if_neg cJ] at h;simp only [sh] at h;refine aN.cond (b:=false) (by show acW (decide (at_<(s.pl.length:Int)))=_;rw [decide_eq_false cJ]) ?_;simp only [OF,if_false];refine wp_exit ?_;rw [<-h] at hQ;exact hQ a W _ Sx aN ⟨hF.h1,hF.h2,hF.h3,hF.h4⟩
end
end Dn
