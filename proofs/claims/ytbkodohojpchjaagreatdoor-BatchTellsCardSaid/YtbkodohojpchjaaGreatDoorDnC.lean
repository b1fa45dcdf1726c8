import Derived.Test.YtbkodohojpchjaaGreatDoorDnB
import Derived.Laws.Sem
import Derived.ProofKit
import Derived.OpenShut
import Derived.Laws.CopyRow
import Derived.Lib.AppendZerosOnto
import Derived.Lib.Overlaps
import Derived.Laws.Externs
/-
  Whole functions. Conditions: none.
-/
set_option linter.unusedSimpArgs false
set_option linter.unusedVariables false
set_option linter.constructorNameAsVariable false
open Nat renaming eq_of_beq_eq_true→aQ,beq→By,le_of_ble_eq_true→aab,mul_le_mul_right→aa0,le_refl→abc,ble→abe,min_eq_left→abW,zero_add→ab1,le_trans→acd,zero_le→acF,add_mul→ac6,ble_eq_true_of_le→adU,min_def→ad0,add_comm→aef,succ_mul→aet,sub_mul→aeC
open Bool renaming and_eq_true→sh,not_eq_true'→IT,false_eq_true→No,or_eq_false_iff→aam,and_true→acA,not_true→acB,or_eq_true→ac9,false_or→adG,true_and→adH,eq_iff_iff→adR,not_eq_false'→ad6
open List renaming mem_cons→AI,range→AT,all_eq_true→OF,length_append→aaa,length_cons→aad,getElem?_append_right→aaf,mem_map→aag,getElem?_eq_getElem→aah,length_take→aai,size_toArray→aak,getElem?_eq_some_iff→aan,mem_append→aap,cons_append→aas,forall_mem_cons→aat,take_append_of_le_length→aau,nodup_cons→aaw,take_of_length_le→aaD,take_append_drop→aaO,mem_range'→aaP,nil_append→aaW,drop_drop→aa4,length_drop→aa6,getElem?_cons_succ→aa8,drop_eq_nil_of_le→abg,map_cons→abh,getElem?_eq_none→abn,mem_cons_of_mem→abw,getElem?_append_left→abI,map_append→abU,range'→abZ,mapM_cons→ab0,append_assoc→ab8,flatMap_cons→aca,length_singleton→acv,getElem?_toArray→acx,mem_of_getElem?→acP,append_nil→ac7,nodup_range'→adE,range'_succ→adK,any_eq_true→adN,sublist_cons_self→adQ,range'_append_1→adW,replicate→adX,getElem?_range→ad4,nodup_append→aeb,ext_getElem?→aec,getElem?_map→aed,take_append→aem,range_add→aeq,take_take→aer
open Option.some renaming injEq→AS,inj→aeI
open Array renaming replicate→BY,length_toList→aaj,getD_eq_getD_getElem?→aal,toList_inj→aaL,getElem?_eq_some_iff→aaN,getElem?_append→abr,getElem?_append_left→abC,size_append→ab5,size_replicate→acC,mapM_eq_mapM_toList→adD,setIfInBounds_comm→adI,getElem?_toList→adV,toList_map→aeh
open Go.Region renaming ready→IN,wanted→aae,binds→abH,noSelect→aeo
open Go.Region.linearise renaming go→aac
open Go.Act renaming put_comm→aao
open Go.World renaming block_lt_of_cell?→aav,cell?_of_block→abF,setRow→acj
open Go.Builtin renaming copy_→aaE,append_→abV,zeroCells→adF,firstCells→ad7
open List.cons renaming injEq→aaU
open Prod.mk renaming injEq→aa1
open Classical renaming choose_spec→abj,choose→adL
open Go.Result renaming andThen_ok→abv
open Go.Value renaming ownBlock→abA,pointer→abL,bool→abY,cells→acL,okWide→adb
open Go.Addr renaming add_mid→abG
open Go.Sem renaming run_bind→ab9,run_pure→aeu
open Option renaming map_some→ada
open Go.Oper renaming wp_mono→adu,upon→adM,apart_spec→adS,upon_value→adT,wp→ad2
open Go.Instr renaming sureAddr→adC,loadAt→adO,checkKey→adY,sameNow→ad5,sliceBounds→aeg,sliceBound→aek,sliceAt→aes,slice→aeB
open List.Sublist renaming append_left→adJ
open Go.Op renaming equalIn→adP,equal→aea
open Go renaming binOp→adZ,sizeOf→ad1,part→aep
open Go.ByteArray renaming toList_eq→ad3
open Go.Code renaming wp_mono→aee
open Go.Deferred renaming ofValue→aei
open Go.IntKind renaming wrap_i64→aej
open Go.Extern.SlicesOverlaps renaming overlaps→aen
open Ne renaming symm→aew
open Go.Value.pointer renaming injEq→aeD
namespace Dn
open Go
section
variable {P:Program}{c:Ctx}{Z Zb Zi:aO} {e e' e3:Env}{st bm jm B:St} {a a':Act} {w w':World}{R:Type}{r:R}{Q:Exit->Act->World->Prop}{o:Oper}
theorem r8 {ts:List Nat}: ∀{n:Nat} {vs:List Value} {ms:List MV} {K:Fr->List MV->Option R},aE e.key e.φ vs ms->uX c ts n ms K=some r-> ∃fr rest nT r9,K fr rest=some r/\vs=nT++r9/\nT.length=ts.length/\aE e.key e.φ r9 rest/\ax fr=abZ n ts.length/\ (∀p∈fr,b8 p.2=false/\bP p.2=false/\ ∃v,nT[p.1-n]? =some v/\aa e v p.2):=by
 induction ts with
 |nil=>intro n vs ms K h hK;exact ⟨[],ms,[],vs,hK,rfl,rfl,h,rfl,by simp⟩
 |cons t ts ih=>
  intro n vs ms K h hK;simp only [uX] at hK;cases hI:c.tv t with
  |none=>simp [hI] at hK
  |some I=>
   simp only [hI] at hK;cases ms with
   |nil=>simp [gC] at hK
   |cons m ms=>
    simp only [gC] at hK;obtain ⟨v,u,rfl,h1,h2⟩:=h;obtain ⟨s,g1,g2,hK⟩:=pT h1 hK;obtain ⟨fr,rest,nT,r9,hK,rfl,q1,q2,q3,q4⟩:=ih h2 hK;refine ⟨(n,s)::fr,rest,v::nT,r9,hK,rfl,by simp [q1],q2,?_,?_⟩
    ·simp only [ax,abh,aad] at q3⊢;rw [q3,adK]
    ·intro p hp;rcases AI.1 hp with rfl|hp
     ·refine ⟨?_,?_,v,by simp,g1⟩
      ·cases s<;>simp [uF] at g2<;>rfl
      ·cases s<;>simp [uF] at g2<;>rfl
     ·obtain ⟨k1,k2,v',k3,k4⟩:=q4 p hp;refine ⟨k1,k2,v',?_,k4⟩;have hk:p.1∈ax fr:=aag.2 ⟨p,hp,rfl⟩;rw [q3,aaP] at hk;obtain ⟨i,hi,he⟩:=hk;have:p.1-n=(p.1-(n+1))+1:=by omega
      rw [this];simpa using k3
theorem ES {iB:List (List Kd)}: ∀{n:Nat} {vs:List Value} {ms:List MV} {K:Fr->Option R},aE e.key e.φ vs ms->Kl iB n ms K=some r-> ∃fr,K fr=some r/\vs.length=iB.length/\ax fr=abZ n iB.length/\ (∀p∈fr,b8 p.2=false/\(∀cs,p.2≠ .box cs)/\ ∃v,vs[p.1-n]? =some v/\aa e v p.2):=by
 induction iB with
 |nil=>
  intro n vs ms K h hK;cases ms with
  |nil=>cases h;exact ⟨[],hK,rfl,rfl,by simp⟩
  |cons m ms=>simp [Kl,gN] at hK
 |cons ks iB ih=>
  intro n vs ms K h hK;cases ms with
  |nil=>simp [Kl,gC] at hK
  |cons m ms=>
   simp only [Kl,gC] at hK;obtain ⟨v,u,rfl,h1,h2⟩:=h;unfold gP at hK;split at hK
   ·rename_i cs;obtain ⟨_,h1⟩:=h1;obtain ⟨aA,off,us,hv,hr,hφ⟩: ∃aA off us,v= .pointer (some ⟨aA,off,none⟩)/\dq e.key e.φ us cs/\ ∀j,j<us.length->e.φ aA (off+j)=us[j]? :=by
     generalize oK:[v]=ws at h1;cases h1 with
     |rp aA off us _ hr hφ=>exact ⟨aA,off,us,by simpa using oK,hr,hφ⟩
    obtain ⟨ls,Dr,hK⟩:=lC (e:=e) (vs:=us) hK;obtain ⟨fr,hK,q1,q3,q4⟩:=ih h2 hK;refine ⟨(n,.rq ls)::fr,hK,by simp [q1],?_,?_⟩
    ·simp only [ax,abh,aad] at q3⊢;rw [q3,adK]
    ·intro p hp;rcases AI.1 hp with rfl|hp
     ·refine ⟨rfl,λcs he=>(by cases he),v,by simp,?_⟩;simp only [aa];exact ⟨aA,off,us,hv,Dr.rep hr,Dr.O9,hφ⟩
     ·obtain ⟨k1,k2,v',k3,k4⟩:=q4 p hp;refine ⟨k1,k2,v',?_,k4⟩;have hk:p.1∈ax fr:=aag.2 ⟨p,hp,rfl⟩;rw [q3,aaP] at hk;obtain ⟨i,hi,he⟩:=hk;have:p.1-n=(p.1-(n+1))+1:=by omega
      rw [this];simpa using k3
   ·simp at hK
theorem sa {r:Fr}{t:Nat}(ht:t∈ax r):(t,ah r t)∈r:=by
 induction r with
 |nil=>simp [ax] at ht
 |cons p r ih=>
  obtain ⟨k,x⟩:=p;simp only [ah,cY];by_cases h:k=t
  ·simp [h]
  ·simp only [h,decide_false,cond_false];simp only [ax,abh,AI] at ht;exact abw _ (ih (ht.resolve_left (λe=>h e.symm)))
def dc (tmps:Array Value):ResultVar->Sem Value
 | .tmp t=>pure (tmps.getD t undef)
 | .cell a t=>do loadVar t (<-asAddr (tmps.getD a undef))
theorem NQ {rs:List ResultVar}(hT:dt P c.ti): ∀{e:Env} {st:St} {K:List MV->Option R},bg c Z e st a w->DA c st none rs K=some r-> ∃e' bm ms vs,bg c Z e' bm a w/\Ext Z.In e e'/\(rs.mapM (dc a.tmps)).run P w= .ok vs w/\aE e'.key e'.φ vs ms/\K ms=some r:=by
 induction rs with
 |nil=>intro e st K h hK;exact ⟨e,st,[],[],h,.refl _ _,by simp,rfl,hK⟩
 |cons x rs ih=>
  intro e st K h hK;have go: ∀(s:Slot) (v:Value),aa e v s->(dc a.tmps x).run P w= .ok v w->(gm st s λm st=>DA c st none rs λms=>K (m::ms))=some r-> ∃e' bm ms vs,bg c Z e' bm a w/\Ext Z.In e e'/\((x::rs).mapM (dc a.tmps)).run P w= .ok vs w/\aE e'.key e'.φ vs ms/\K ms=some r:=by
   intro s v hs aV hK;obtain ⟨e1,aT,m,h1,h2,h3,h4,hK⟩:=gu h hs hK;obtain ⟨e2,cK,ms,vs,q1,q2,q3,q4,hK⟩:=ih h1 hK;refine ⟨e2,cK,m::ms,v::vs,q1,h2.trans q2,?_,⟨v,vs,rfl,?_,q4⟩,hK⟩
   ·simp [ab0,aV,q3]
   ·have:=h4.mono q2.on.φ;rw [<-q2.on.key] at this;exact this
  simp only [DA] at hK;cases x with
  |tmp t=>
   simp only at hK;split at hK
   ·obtain ⟨e1,aT,ns,h1,h2,h3,hK,h5⟩:=mc h hK;cases ns with
    |nil=>cases hK
    |cons m ns=>
    simp only [gC] at hK;cases ns with
    |cons=>cases hK
    |nil=>
    simp only [gN] at hK;obtain ⟨e2,cK,ms,vs,q1,q2,q3,q4,hK⟩:=ih h1 hK;refine ⟨e2,cK,m::ms,a.tmps.getD t undef::vs,q1,h2.trans q2,?_,⟨_,vs,rfl,?_,q4⟩,hK⟩
    ·have:(dc a.tmps (.tmp t)).run P w= .ok (a.tmps.getD t undef) w:=rfl;simp [ab0,this,q3]
    ·have hm:=h5 m (by simp);generalize hv:List.map a.eval [.tmp t]=us at h3;cases h3 with
     |cons v1 _ nT _ g1 g2=>
     cases g2;rw [ac7] at hv;have hv:[a.tmps.getD t undef]=v1:=hv;subst hv;have g1:=g1.mono q2.on.φ;rw [<-q2.on.key] at g1;cases m<;>first|exact ⟨rfl,g1⟩|(simp [MV.one] at hm)
   have hs:=h.slot t;by_cases hb: ∃cs,ah st.fr t= .box cs
   ·obtain ⟨cs,hb⟩:=hb;rw [hb] at hK;simp [gm] at hK
   ·refine go (ah st.fr t) (a.tmps.getD t undef) ?_ rfl hK;generalize ah st.fr t=s at hs hb;cases s<;>first|exact hs|exact absurd ⟨_,rfl⟩ hb
  |cell b t=>
   simp only at hK;have hs:=h.slot b;split at hK
   ·rename_i I cs hI hb;obtain ⟨DE,Hw⟩:=aD hI;rw [hb] at hs;obtain ⟨hv,vX⟩:=hs;cases rX:cR cs||ru b with
    |true=>simp [rX] at hK
    |false=>
    obtain ⟨nj,Ym⟩:=aam.1 rX;simp only [rX,cond_false] at hK;have hv:=hv.1 Ym;rw [lY nj] at hv;obtain ⟨arr,T,bH,jX⟩:=vX.cells nj;have hm:w.rangeAt (e.B b) 0 arr.toList:=by intro j v hj;rw [ab1,cell_of bH];simpa using hj
    obtain ⟨v,s,h1,h2,h3,h4⟩:=dZ (P:=P) (st:=st) (s:= .skip) (hT t I DE) Hw jX hm hK;refine go s v h2 ?_ h4;simpa [dc,hv,asAddr,adO,adC] using h1 w hm
   ·simp at hK
theorem ET {rs:List ResultVar}(hT:dt P c.ti)(h:bg c Z e st a w): ∀{K:List MV->Option R},HP c st rs K=some r-> ∃ms vs,(rs.mapM (dc a.tmps)).run P w= .ok vs w/\aE e.key e.φ vs ms/\ms.length=rs.length/\K ms=some r:=by
 induction rs with
 |nil=>intro K hK;exact ⟨[],[],by simp,rfl,rfl,hK⟩
 |cons x rs ih=>
  intro K hK;have go: ∀(s:Slot) (v:Value),aa e v s->(dc a.tmps x).run P w= .ok v w->(match s with
   | .sc (.p m)=>HP c st rs λms=>K (m::ms)
   |_=>none)=some r-> ∃ms vs,((x::rs).mapM (dc a.tmps)).run P w= .ok vs w/\aE e.key e.φ vs ms/\ms.length=(x::rs).length/\K ms=some r:=by
   intro s v hs aV hK;split at hK
   ·rename_i m;obtain ⟨ms,vs,q1,q2,q3,hK⟩:=ih hK;simp only [aa] at hs;obtain ⟨g1,g2⟩:m.one=true/\dI e.key e.φ [v] m:=hs;exact ⟨m::ms,v::vs,by simp [ab0,aV,q1],⟨v,vs,rfl,by cases m<;>simp [MV.one] at g1<;>exact ⟨rfl,g2⟩,q2⟩,by simp [q3],hK⟩
   ·cases hK
  simp only [HP] at hK;cases x with
  |tmp t=>
   simp only at hK;have hs:=h.slot t;by_cases hb: ∃cs,ah st.fr t= .box cs
   ·obtain ⟨cs,hb⟩:=hb;rw [hb] at hK;simp at hK
   ·refine go (ah st.fr t) (a.tmps.getD t undef) ?_ rfl hK;generalize ah st.fr t=s at hs hb;cases s<;>first|exact hs|exact absurd ⟨_,rfl⟩ hb
  |cell b t=>
   simp only at hK;have hs:=h.slot b;split at hK
   ·rename_i I cs hI hb;obtain ⟨DE,Hw⟩:=aD hI;rw [hb] at hs;obtain ⟨hv,vX⟩:=hs;cases rX:cR cs||ru b with
    |true=>simp [rX] at hK
    |false=>
    obtain ⟨nj,Ym⟩:=aam.1 rX;simp only [rX,cond_false] at hK;have hv:=hv.1 Ym;rw [lY nj] at hv;obtain ⟨arr,T,bH,jX⟩:=vX.cells nj;have hm:w.rangeAt (e.B b) 0 arr.toList:=by intro j v hj;rw [ab1,cell_of bH];simpa using hj
    obtain ⟨v,s,h1,h2,h3,h4⟩:=dZ (P:=P) (st:=st) (s:= .skip) (hT t I DE) Hw jX hm hK;refine go s v h2 ?_ h4;simpa [dc,hv,asAddr,adO,adC] using h1 w hm
   ·simp at hK
theorem NR {x:ResultVar}{rs:List ResultVar}{ty:Nat}{I:TI}{K:List MV->Option R}(hI:c.tv ty=some I)(hT:dt P c.ti)(rK:Z.bF=[])(h:bg c Z e st a w)(hK:DA c st (some ty) (x::rs) K=some r): ∃v xs us ms,((x::rs).mapM (dc a.tmps)).run P w= .ok (v::us) w/\bw c Z.nc e w v ⟨ty,false,xs⟩/\aE e.key e.φ us ms/\ms.length=rs.length/\K (.fresh xs::ms)=some r:=by
 obtain ⟨fH,hc⟩:=aD hI;have go: ∀(s:Slot) (v:Value),aa e v s->(dc a.tmps x).run P w= .ok v w->(match s with
  | .sc (.own f)=>(match ar st.az f with|some o=>bif o.cB||!By o.ty ty then none else HP c st rs λms=>K (.fresh o.xs::ms)|none=>none)
  | .sc .nil=>HP c st rs λms=>K (.fresh []::ms)
  |_=>none)=some r-> ∃v xs us ms,((x::rs).mapM (dc a.tmps)).run P w= .ok (v::us) w/\bw c Z.nc e w v ⟨ty,false,xs⟩/\aE e.key e.φ us ms/\ms.length=rs.length/\K (.fresh xs::ms)=some r:=by
  intro s v hs aV hK;have hr: ∀{us:List Value},(rs.mapM (dc a.tmps)).run P w= .ok us w->((x::rs).mapM (dc a.tmps)).run P w= .ok (v::us) w:=λh=>by simp [ab0,aV,h]
  split at hK
  ·rename_i f;cases hf:ar st.az f with
   |none=>simp [hf] at hK
   |some o=>
    simp only [hf] at hK;cases hb:o.cB||!By o.ty ty with
    |true=>simp [hb] at hK
    |false=>simp only [hb,cond_false] at hK;obtain ⟨ms,us,q1,q2,q3,hK⟩:=ET hT h hK;obtain ⟨h1,h2⟩:=aam.1 hb;have dU:o.ty=ty:=aQ (by simpa using h2);obtain ⟨hv,_⟩:=lB h hs hf;obtain ⟨J,cells,k1,k2,k3,k4,k5⟩:=(h.dV f o hf).row;refine ⟨v,o.xs,us,ms,hr q1,⟨J,cells,by rw [<-dU];exact k1,k2,by rw [hv,<-dU];exact k3,k4,λaA hb=> ?_⟩,q2,q3,hK⟩;rw [hv] at hb;obtain ⟨q1,q2,_⟩:=k5 aA hb;refine ⟨Hu q1 (by rw [rK];simp),λoff u hu=> ?_,λhc=>hc.elim⟩;have:=(q2 off u hu).1;rw [h1] at this;cases this
  ·obtain ⟨ms,us,q1,q2,q3,hK⟩:=ET hT h hK;simp only [aa] at hs;have hs:[v]=[Value.slice none 0 0]:=hs;simp at hs;refine ⟨v,[],us,ms,hr q1,⟨I,[],fH,hc,by rw [hs];exact World.ownsRow_nil w 0 ty I.size,rfl,λaA hb=> ?_⟩,q2,q3,hK⟩;rw [hs] at hb;simp [abA] at hb
  ·cases hK
 simp only [DA] at hK;cases x with
 |tmp t=>
  simp only at hK;have hs:=h.slot t;by_cases hb: ∃cs,ah st.fr t= .box cs
  ·obtain ⟨cs,hb⟩:=hb;rw [hb] at hK;simp at hK
  ·refine go (ah st.fr t) (a.tmps.getD t undef) ?_ rfl hK;generalize ah st.fr t=s at hs hb;cases s<;>first|exact hs|exact absurd ⟨_,rfl⟩ hb
 |cell b t=>
  simp only at hK;have hs:=h.slot b;split at hK
  ·rename_i I cs hI hb;obtain ⟨DE,Hw⟩:=aD hI;rw [hb] at hs;obtain ⟨hv,vX⟩:=hs;cases rX:cR cs||ru b with
   |true=>simp [rX] at hK
   |false=>
   obtain ⟨nj,Ym⟩:=aam.1 rX;simp only [rX,cond_false] at hK;have hv:=hv.1 Ym;rw [lY nj] at hv;obtain ⟨arr,T,bH,jX⟩:=vX.cells nj;have hm:w.rangeAt (e.B b) 0 arr.toList:=by intro j v hj;rw [ab1,cell_of bH];simpa using hj
   obtain ⟨v,s,h1,h2,h3,h4⟩:=dZ (P:=P) (st:=st) (s:= .skip) (hT t I DE) Hw jX hm hK;refine go s v h2 ?_ h4;simpa [dc,hv,asAddr,adO,adC] using h1 w hm
  ·simp at hK
theorem Ir {X:Code->St->(Nat->St->Option MV)->Option MV}(hX: ∀(b:Code){r:MV}{Z:aO}{e:Env}{st:St}{a:Act}{w:World}{K:Nat->St->Option MV}{Q:Exit->Act->World->Prop},bg c Z e st a w->X b st K=some r-> (∀n e' bm a' w',bg c Z e' bm a' w'->Trans Z.In e.φ w e'.φ w'->K n bm=some r->Q (rZ n) a' w')->b.wp P Q a w){f:FuncId}{fn:Func}{m:MV}{b:Code}{Z:Nat->Prop} {φ:Ph}{e:Env}{st:St}{a:Act}{w:World}{vs:List Value}(hG:Good P c){fresh:Option Nat}(vM: ∀ty,fresh=some ty->ty=c.ga (c.key f)/\1<=fn.results.toList.length/\ ∃I,c.tv ty=some I)(gx:bg c (aO.plain Z) e st a w) (hφ:e.φ=φ)(hb:X b st (λe st=>bif abe e 1 then DA c st fresh fn.results.toList λms=>(match ms with|[m]=>some m|ms=>some (.cG ms)) else none)=some m): b.wp P (bodyPost P fn λe W=> ∃v,e= .returned v/\ ∃φ',Trans Z φ w φ' W/\iA φ' W/\mf c Z φ' W (c.key f) vs v m) a w:=by
 subst hφ;refine hX b gx hb ?_;intro n e' bm a' w' h' t' hK;cases hle:abe n 1 with
 |false=>simp [hle] at hK
 |true=>
  simp only [hle,cond_true] at hK;have afq: ∃φ' us,Trans Z e'.φ w' φ' w'/\iA φ' w'/\(fn.results.toList.mapM (dc a'.tmps)).run P w'= .ok us w'/\dy c Z φ' w' (c.key f) (if h:us.toArray.size=1 then us.toArray[0] else .tuple us.toArray) m:=by
   cases fresh with
   |some ty=>
    obtain ⟨h1,h2,I,h3⟩:=vM ty rfl;match hrs:fn.results.toList,h2 with
    |x::rs,_=>
     rw [hrs] at hK;obtain ⟨v,xs,us,ms,g1,g2,g4,g5,g3⟩:=NR (P:=P) h3 hG.ti rfl h' hK;have g2':bw c (aO.plain Z) (gf c.key e'.φ) w' v ⟨c.ga (c.key f),false,xs⟩:=by rw [<-h1];exact g2.env (e':=gf c.key e'.φ) h'.key.symm rfl
     rw [h'.key] at g4;refine ⟨e'.φ,v::us,.refl _ _ _,h'.fB,g1,?_⟩;cases ms with
     |nil=>have g3:some (MV.fresh xs)=some m:=g3;cases g3;have:us=[]:=g4;subst this;simp only [aak,acv,dite_true];exact g2'
     |cons m1 ms=>have g3:some (MV.cG (.fresh xs::m1::ms))=some m:=g3;cases g3;obtain ⟨u1,us1,rfl,g6,g7⟩:=g4;rw [dif_neg (by simp)];exact ⟨v,u1::us1,rfl,g2',u1,us1,rfl,g6,g7⟩
   |none=>
   obtain ⟨e2,cK,ns,us,q1,q2,q3,q4,hK⟩:=NQ (P:=P) hG.ti h' hK;refine ⟨e2.φ,us,q2.tr,q1.fB,q3,?_⟩;have LY:e2.key=c.key:=q1.key;rw [LY] at q4;split at hK
   ·rename_i m';cases hK;obtain ⟨v,u,rfl,g1,g2⟩:=q4;have g2:u=[]:=g2;subst g2;simp only [aak,acv,dite_true];cases m<;>first|exact g1|exact absurd g1.1 (by simp [MV.one])
   ·rename_i ns' cg;cases hK;have cg:us.toArray.size≠1:=by
     intro h1;cases us with
     |nil=>simp at h1
     |cons v us=>
      cases us with
      |cons=>simp at h1
      |nil=>
       cases ns with
       |nil=>cases q4
       |cons m1 ns1=>
        obtain ⟨v',u',h2,g1,g2⟩:=q4;simp at h2;obtain ⟨rfl,rfl⟩:=h2;cases ns1 with
        |nil=>exact cg m1 rfl
        |cons=>obtain ⟨_,_,h3,_⟩:=g2;simp at h3
    rw [dif_neg cg];exact AQ.args (by simpa using q4)
  obtain ⟨φ2,us,p1,p2,q3,p4⟩:=afq;have jt:(results fn a'.tmps).run P w'= .ok (if h:us.toArray.size=1 then us.toArray[0] else .tuple us.toArray) w':=by
   have hm:(fn.results.mapM (dc a'.tmps)).run P w'= .ok us.toArray w':=by rw [adD];simp [q3]
   have Kt:results fn a'.tmps=(do let vs<-fn.results.mapM (dc a'.tmps);pure (if h:vs.size=1 then vs[0] else .tuple vs)):=by unfold results;congr 1
   rw [Kt];simp [hm]
  have Is: ∃φ',Trans Z e.φ w φ' w'/\iA φ' w'/\dy c Z φ' w' (c.key f) (if h:us.toArray.size=1 then us.toArray[0] else .tuple us.toArray) m:=⟨φ2,t'.trans p1,p2,p4⟩
  match n,hle with
  |0,_=>exact ⟨h'.defers.1,_,jt,_,rfl,Is.imp λφ' h=>⟨h.1,h.2.1,.plain h.2.2⟩⟩
  |1,_=>exact ⟨h'.defers.1,_,jt,_,rfl,Is.imp λφ' h=>⟨h.1,h.2.1,.plain h.2.2⟩⟩
  |n+2,hle=>simp [abe] at hle
theorem QY {X:Code->St->(Nat->St->Option MV)->Option MV}(hX: ∀(b:Code){r:MV}{Z:aO}{e:Env}{st:St}{a:Act}{w:World}{K:Nat->St->Option MV}{Q:Exit->Act->World->Prop},bg c Z e st a w->X b st K=some r-> (∀n e' bm a' w',bg c Z e' bm a' w'->Trans Z.In e.φ w e'.φ w'->K n bm=some r->Q (rZ n) a' w')->b.wp P Q a w)
 {f:FuncId} {fn:Func} {aS:List (List Kd)} {ms:List MV} {m:MV} (hG:Good P c) (hf:P.funcs[f]? =some fn) (oR:(fn.name== "runtime.NumGoroutine")=false)
 (hn:c.n=fn.ntmps) (jT:fn.params.size+aS.length<=fn.ntmps) (hg:c.bQ (c.key f)=false) {fresh:Option Nat} (vM: ∀ty,fresh=some ty->ty=c.ga (c.key f)/\1<=fn.results.toList.length/\ ∃I,c.tv ty=some I) (hb:PM X c aS fresh fn ms=some m):cq P c f ms m:=by
 intro φ w Z vs hz bZ du;simp only [bO,hg,No,if_false] at bZ;unfold PM at hb;cases b9:fn.body with
 |none=>simp [b9] at hb
 |some b=>
  simp only [b9] at hb;have aV:(callFunc f vs.toArray).run P w= .ok (.enter f vs.toArray) w:=by
   have zC: ¬fn.name= "runtime.NumGoroutine" :=by simpa using oR
   simp [callFunc,hf,zC,b9]
  unfold cn;rw [aV];refine calls_of_wp hf b9 ?_;let e:Env:=gf c.key φ;have bZ:aE e.key e.φ vs ms:=bZ;obtain ⟨fr,rest,nT,r9,hb,rfl,l1,a2,k1,s1⟩:=r8 bZ hb;obtain ⟨j8,hb,l2,k2,s2⟩:=ES a2 hb;simp only [pN] at hb;have htn:(nT++r9).toArray.size=fn.params.size+aS.length:=by simp [l1,l2]
  let a:Act:={tmps:=(nT++r9).toArray++BY (fn.ntmps-(nT++r9).toArray.size) undef,defers:=[]}
  have DI: ∀(t:Nat) (v:Value),(nT++r9)[t]? =some v->a.tmps.getD t undef=v:=by intro t v ht;have cz:t<(nT++r9).length:=(aan.1 ht).1;rw [aal];show (((nT++r9).toArray++BY _ undef)[t]?).getD undef=v;rw [abC (by simpa using cz)];simp only [acx];rw [ht];rfl
  have sb: ∀t,b8 (ah (fr++j8) t)=false/\(∀cs,ah (fr++j8) t≠ .box cs)/\aa e (a.tmps.getD t undef) (ah (fr++j8) t):=by
   intro t;rw [rG];by_cases h1:t∈ax fr
   ·simp only [h1,if_true];obtain ⟨g1,g2,v,g3,g4⟩:=s1 _ (sa h1);refine ⟨g1,?_,?_⟩
    ·intro cs hc;simp only [hc,bP] at g2;cases g2
    ·rw [DI t v ?_];exact g4;have cz:t<nT.length:=(aan.1 g3).1;rw [abI cz];exact g3
   ·simp only [h1,if_false];by_cases h2:t∈ax j8
    ·obtain ⟨g1,g2,v,g3,g4⟩:=s2 _ (sa h2);refine ⟨g1,g2,?_⟩;rw [DI t v ?_];exact g4;have hk:=h2;rw [k2,aaP] at hk;obtain ⟨i,hi,he⟩:=hk;have q9:fn.params.size=nT.length:=by rw [l1];simp
     rw [aaf (by omega),<-q9];exact g3
    ·rw [j9 _ _ h2];exact ⟨rfl,λcs hc=>(by cases hc),by simp [aa]⟩
  have Be: ∀t cs,ah (fr++j8) t= .box cs->False:=λt cs hc=>(sb t).2.1 cs hc;have gx:bg c (aO.plain Z) e ⟨[],[],fr++j8,[]⟩ a w:=by
   refine ⟨⟨rfl,rfl,rfl,λt ht=>by simp [aO.plain] at ht⟩,?_,rfl,rfl,?_,?_,λt=>lN (sb t).1,λf o ho=>by simp [ar] at ho,λt t' cs dj h1=>(Be t cs h1).elim,λt cs f o h1=>(Be t cs h1).elim,λf f' o o' k h1=>by simp [ar] at h1,du,hz⟩
   ·show ((nT++r9).toArray++BY (fn.ntmps-(nT++r9).toArray.size) undef).size=c.n;rw [ab5,acC,htn,hn];omega
   ·show (ax (fr++j8)).Nodup;have:ax (fr++j8)=ax fr++ax j8:=by simp [ax]
    rw [this,k1,k2];have:abZ 0 fn.params.toList.length++abZ fn.params.size aS.length=abZ 0 (fn.params.toList.length+aS.length):=by have:=adW (s:=0) (m:=fn.params.toList.length) (n:=aS.length);simpa using this
    rw [this];exact adE
   ·intro t;obtain ⟨g1,g2,g3⟩:=sb t;show bk _ e w t _ (ah (fr++j8) t);generalize ah (fr++j8) t=s at g1 g2 g3;cases s<;>first|exact g3|exact absurd rfl (g2 _)
  exact Ir hX hG vM gx rfl hb
theorem Uy {f:FuncId}{fn:Func}{aS:List (List Kd)}{ms:List MV}{m:MV}(hG:Good P c)(hD:Iq P c)(hf:P.funcs[f]? =some fn)(oR:(fn.name== "runtime.NumGoroutine")=false)
 (hn:c.n=fn.ntmps) (jT:fn.params.size+aS.length<=fn.ntmps) (hg:c.bQ (c.key f)=false) {fresh:Option Nat} (vM: ∀ty,fresh=some ty->ty=c.ga (c.key f)/\1<=fn.results.toList.length/\ ∃I,c.tv ty=some I) (hb:rE c aS fresh fn ms=some m):cq P c f ms m:=
 QY (λb {r Z e st a w K Q} h hK hQ=>GB hG hD b h hK hQ) hG hf oR hn jT hg vM hb
end
end Dn
/-
  What arguments read as: values of their types. Conditions: none.
-/
namespace Dn
open Go Go.WideShapes
def xO (W:World):Ph:=λb o=>W.cell? ⟨b,o,none⟩
theorem QZ (W:World):iA (xO W) W:=λb o v h=>h
def GC (P:Program):List Field->Nat->Nat->Bool
 |[],o,n=>By o n
 |f::fs,o,n=>By f.offset o&&GC P fs (o+P.cellsOf f.type) n
def WG (P:Program):Nat->TypeId->Bool
 |0,_=>false
 |d+1,t=>match P.underlying t with
  |some .bool=>true
  |some (.int _)=>true
  |some .string=>true
  |some (.slice e)=>WG P d e&&abe 1 (P.cellsOf e)
  |some (.struct fs)=>GC P fs.toList 0 (P.cellsOf t)&&fs.toList.all λf=>WG P d f.type
  |some (.array n e)=>By n 32&&(match P.underlying e with|some (.int .u8)=>true|_=>false)&&By (P.cellsOf e) 1&&By (P.cellsOf t) 32
  |_=>false
def ME (P:Program)(F:TypeId->List MV->Prop)(e:TypeId)(x:MV):Prop:=match P.underlying e with
 |some (.struct _)=> ∃cs,x= .agg cs/\F e cs
 |_=>F e [x]
def FT (F:TypeId->List MV->Prop):List TypeId->List MV->Prop
 |[],ms=>ms=[]
 |t::ts,ms=> ∃a b,ms=a++b/\F t a/\FT F ts b
def MT (P:Program):Nat->TypeId->List MV->Prop
 |0,_,_=>False
 |d+1,t,ms=>match P.underlying t with
  |some .bool=> ∃b,ms=[.b b]
  |some (.int k)=> ∃n,ms=[.i k n]/\(Lit.int k n).wf=true
  |some .string=> ∃l:List UInt8,ms=[.s l]/\l.length<=maxLen
  |some (.slice e)=> ∃xs,ms=[.list xs]/\xs.length<=maxLen/\ ∀x∈xs,ME P (MT P d) e x
  |some (.struct fs)=>FT (MT P d) (fs.toList.map (·.type)) ms
  |some (.array _ _)=> ∃x:List Int,ms=[.h .u8 30 x]/\x.length=32/\ ∀y∈x,0<=y/\y<=255
  |_=>False
section
variable {H:Type}{enc:TypeId×Value->H}{P:Program}{W:World}{base:Nat}{sp:Nat->Bool}{held:Bool}{key:Nat->Nat}
theorem dq.append {key:Nat->Nat} {φ:Ph}{ms ns:List MV}: ∀{vs us:List Value},dq key φ vs ms->dq key φ us ns->dq key φ (vs++us) (ms++ns):=by
 induction ms with
 |nil=>intro vs us h h';cases h;simpa using h'
 |cons m ms ih=>
  intro vs us h h';cases h with
  |cons v _ vs _ h1 h2=>rw [ab8];exact .cons v m _ _ h1 (ih h2 h')
theorem dq.Q0 {key:Nat->Nat} {φ:Ph}{v:Value}{m:MV}(h:dI key φ [v] m):dq key φ [v] [m]:=by have:=dq.cons [v] m [] [] h .nil;simpa using this
theorem dq.single {key:Nat->Nat} {φ:Ph}{vs:List Value}{m:MV}(h:dq key φ vs [m]):dI key φ vs m:=by
 cases h with
 |cons v _ vs _ h1 h2=>cases h2;simpa using h1
theorem xP {a:Addr}{n:Nat}{cs:List Value}(h:W.cells? base a n=some cs):cs.length=n/\ ∀j,j<n->W.cell? (a.add j)=cs[j]? :=by
 unfold World.cells? at h;split at h
 ·have hl:=mapM_some_length h;refine ⟨by simpa using hl,λj hj=> ?_⟩;exact mapM_some_get h j j (by simp [hj])
 ·cases h
theorem It {F:TypeId->List MV->Prop}{fuel:Nat}{cs:List Value}: ∀(fs:List Field) (o n:Nat) (xs:List (DataW H×List MemPlace)),GC P fs o n=true->cs.length=n-> (∀(i:Nat) (f:Field),fs[i]? =some f->DataW.trod enc P W base sp held fuel f.type ((cs.drop f.offset).take (P.cellsOf f.type))=xs[i]?)->xs.length=fs.length-> (∀f∈fs,∀dj x,DataW.trod enc P W base sp held fuel f.type dj=some x-> ∃ms,dq key (xO W) dj ms/\F f.type ms)-> ∃ms,dq key (xO W) (cs.drop o) ms/\FT F (fs.map (·.type)) ms:=by
 intro fs;induction fs with
 |nil=>intro o n xs hc hl _ _ _;have:o=n:=aQ hc;subst this;refine ⟨[],?_,rfl⟩;rw [<-hl,List.drop_length];exact .nil
 |cons f fs ih=>
  intro o n xs hc hl hx Gg hF;simp only [GC,sh] at hc;have ho:=aQ hc.1;cases xs with
  |nil=>simp at Gg
  |cons x xs=>have h0:=hx 0 f rfl;rw [ho] at h0;obtain ⟨m1,r1,t1⟩:=hF f (by simp) _ x (by simpa using h0);obtain ⟨m2,r2,t2⟩:=ih (o+P.cellsOf f.type) n xs hc.2 hl (λi g hg=>by have:=hx (i+1) g (by simpa using hg);simpa using this) (by simpa using Gg) (λg hg=>hF g (by simp [hg]));refine ⟨m1++m2,?_,m1,m2,rfl,t1,t2⟩;have:=r1.append r2;rw [<-aa4,aaO] at this;exact this
theorem Q1: ∀(fuel D:Nat) (t:TypeId) (cs:List Value) (x:DataW H×List MemPlace),WG P D t=true->DataW.trod enc P W base sp held fuel t cs=some x-> ∃ms,dq key (xO W) cs ms/\MT P fuel t ms:=by
 intro fuel;induction fuel with
 |zero=>intro D t cs x _ h;simp [DataW.trod] at h
 |succ fuel ih=>
  intro D t cs x hD h;cases D with
  |zero=>simp [WG] at hD
  |succ D=>
   unfold WG at hD;cases hu:P.underlying t with
   |none=>simp [hu] at hD
   |some d=>
    cases d<;>simp only [hu] at hD<;>try (cases hD;done)
    case bool=>obtain ⟨b,rfl,_⟩:=DataW.trod_bool hu h;exact ⟨[.b b],.Q0 (.b b),by simp only [MT,hu];exact ⟨b,rfl⟩⟩
    case int k=>obtain ⟨n,rfl,_,hw⟩:=DataW.trod_int hu h;exact ⟨[.i k n],.Q0 (.i k n),by simp only [MT,hu];exact ⟨n,rfl,hw⟩⟩
    case string=>obtain ⟨s,rfl,_,hw⟩:=DataW.trod_string hu h;exact ⟨[.s s.data.toList],.Q0 (.s s),by simp only [MT,hu];exact ⟨_,rfl,by simpa using hw⟩⟩
    case struct fs=>
     obtain ⟨xs,n,hn,_,hl,Gg,hx⟩:=DataW.trod_struct hu h;have hn:n=fuel:=by omega
     subst hn;simp only [sh] at hD;obtain ⟨ms,r1,t1⟩:=It (F:=MT P n) (key:=key) fs.toList 0 (P.cellsOf t) xs hD.1 hl (λi f hf=>hx i f (by simpa using hf)) (by simpa using Gg) (λf hf dj x' h'=>ih D f.type dj x' (OF.1 hD.2 f hf) h');exact ⟨ms,by simpa using r1,by simp only [MT,hu];exact t1⟩
    case slice e=>
     simp only [sh] at hD;have cU:1<=P.cellsOf e:=aab hD.2;rcases DataW.trod_slice hu h with ⟨rfl,_⟩|⟨a,len,cap,elems,rest,n,hn,rfl,_,_,hlc,vL,Th,hx,_⟩
     ·refine ⟨[.list []],.Q0 (.list none 0 [] 0 0 0 (λ_=>[]) (by simp) (by simp) (by simp) (by simp) (by simp)),?_⟩;simp only [MT,hu];exact ⟨[],rfl,acF _,by simp⟩
     ·have hn:n=fuel:=by omega
      subst hn;have dS: ∀i,i<len-> ∃dj m,W.cells? base (a.add (i *P.cellsOf e)) (P.cellsOf e)=some dj/\dI key (xO W) dj m/\ME P (MT P n) e m:=by
       intro i hi;have h1:=hx i hi;cases hc:W.cells? base (a.add (i *P.cellsOf e)) (P.cellsOf e) with
       |none=>
        rw [hc] at h1;have:elems[i]? =none:=by simpa using h1.symm
        rw [List.getElem?_eq_none_iff] at this;omega
       |some dj=>
        rw [hc] at h1;have cz:i<elems.length:=by omega
        rw [aah cz] at h1;obtain ⟨ms,r1,t1⟩:=ih D e dj _ hD.1 (by simpa using h1);have X7:=hD.1;by_cases hs: ∃fs,P.underlying e=some (.struct fs)
        ·obtain ⟨fs,hs⟩:=hs;exact ⟨dj,.agg ms,rfl,.agg dj ms r1,by simp only [ME,hs];exact ⟨ms,rfl,t1⟩⟩
        ·have h1m: ∃m,ms=[m]:=by
          cases n with
          |zero=>exact t1.elim
          |succ n=>
           simp only [MT] at t1;cases T7:P.underlying e with
           |none=>simp [T7] at t1
           |some de=>
            cases de<;>simp only [T7] at t1<;>first
             |exact t1.elim
             |(obtain ⟨y,hy,_⟩:=t1;exact ⟨_,hy⟩)
             |(obtain ⟨y,hy⟩:=t1;exact ⟨_,hy⟩)
             |exact absurd ⟨_,T7⟩ hs
         obtain ⟨m,rfl⟩:=h1m;refine ⟨dj,m,rfl,r1.single,?_⟩;unfold ME;cases T7:P.underlying e with
         |none=>exact t1
         |some de=>cases de<;>first|exact t1|exact absurd ⟨_,T7⟩ hs
      let f:Nat->List Value:=λi=>(W.cells? base (a.add (i *P.cellsOf e)) (P.cellsOf e)).getD [];let g:Nat->MV:=λi=>if hi:i<len then adL (abj (dS i hi)) else default
      have HA: ∀i,i<len->W.cells? base (a.add (i *P.cellsOf e)) (P.cellsOf e)=some (f i)/\dI key (xO W) (f i) (g i)/\ME P (MT P n) e (g i):=by
       intro i hi;have hsp:=abj (abj (dS i hi));have hf:f i=adL (dS i hi):=by show (W.cells? base (a.add (i *P.cellsOf e)) (P.cellsOf e)).getD []=_;exact congrArg (λo=>o.getD []) hsp.1
       have hg:g i=adL (abj (dS i hi)):=by show (if hi:i<len then _ else _)=_;rw [dif_pos hi]
       rw [hf,hg];exact hsp
      have WH:0<len->a=⟨a.block,a.off,none⟩:=by
       intro h0;obtain ⟨h1,_,_⟩:=HA 0 h0;obtain ⟨iG,hcg⟩:=xP h1;have:=hcg 0 (by omega);rw [Nat.zero_mul] at this;have hz:(a.add 0).add 0=a:=rfl;rw [hz] at this;have cz:0<(f 0).length:=by omega
       rw [aah cz] at this;unfold World.cell? at this;split at this
       ·cases hsp:a.spot with
        |none=>cases a;simp at hsp;subst hsp;rfl
        |some s=>simp [hsp] at this
       ·cases this
      have abD: ∀i j,i<len->j<P.cellsOf e->xO W a.block (a.off+i *P.cellsOf e+j)=(f i)[j]? :=by intro i j hi hj;obtain ⟨h1,_,_⟩:=HA i hi;obtain ⟨iG,hcg⟩:=xP h1;have:=hcg j hj;rw [<-this];unfold xO;congr 1;have ha:=WH (by omega);rw [ha];rw [abG,abG]
      refine ⟨[.list ((AT len).map g)],.Q0 ?_,?_⟩
      ·have hlen:((AT len).map g).length=len:=by simp
       have:=dI.list (key:=key) (φ:=xO W) (some a) cap ((AT len).map g) a.block a.off (P.cellsOf e) f (by rw [hlen];exact hlc) (λh0=>by rw [hlen] at h0;exact congrArg some (WH h0)) (λi hi=>by rw [hlen] at hi;exact (xP (HA i hi).1).1) (λi j hi hj=>abD i j (by rw [hlen] at hi;exact hi) hj) (λi hi=>by simp at hi;simpa using (HA i hi).2.1);rw [hlen] at this;exact this
      ·simp only [MT,hu];refine ⟨_,rfl,by simp;omega,λy hy=> ?_⟩;obtain ⟨i,hi,rfl⟩:=aag.1 hy;exact (HA i (by simpa using hi)).2.2
    case array n e=>
     simp only [sh] at hD;obtain ⟨⟨⟨h1,h2⟩,h3⟩,h4⟩:=hD;have h1:=aQ h1;have h3:=aQ h3;have h4:=aQ h4;subst h1;obtain ⟨xs,m,hm,_,hl,Gg,hx⟩:=DataW.trod_array hu h;rw [h4] at hl;split at h2
     ·rename_i T7;have jj: ∀i (hi:i<cs.length),∃b:Int,cs[i]= .int .u8 b/\0<=b/\b<=255:=by
       intro i hi;have TY:i<32:=by omega
       have:=hx i TY;rw [h3,Nat.mul_one] at this;have Ey:(cs.drop i).take 1=[cs[i]]:=by rw [List.take_one,List.head?_drop,aah hi];rfl
       rw [Ey,aah (by omega)] at this;obtain ⟨k,hk,_,hw⟩:=DataW.trod_int T7 this;simp only [aaU,and_true] at hk;refine ⟨k,hk,?_⟩;simp only [Lit.wf,sh,decide_eq_true_eq] at hw;have P7:IntKind.u8.min=0:=by decide
       have aft:IntKind.u8.max=255:=by decide
       rw [P7,aft] at hw;exact hw
      have: ∃l:List Int,cs=l.map (Value.int .u8)/\ ∀y∈l,0<=y/\y<=255:=by
       clear hx hl h;induction cs with
       |nil=>exact ⟨[],rfl,by simp⟩
       |cons c cs ihc=>obtain ⟨b,hb,lp⟩:=jj 0 (by simp);obtain ⟨l,hl,om⟩:=ihc (λi hi=>by have:=jj (i+1) (by simpa using hi);simpa using this);exact ⟨b::l,by simp at hb;rw [hb,hl];rfl,aat.2 ⟨lp,om⟩⟩
      obtain ⟨l,rfl,om⟩:=this;have abE:l.length=32:=by simpa using hl
      refine ⟨[.h .u8 30 l],?_,by simp only [MT,hu];exact ⟨_,rfl,abE,om⟩⟩;have:=dq.cons (key:=key) (φ:=xO W) _ (.h .u8 30 l) [] [] (.h _ _ l abE) .nil;simpa using this
     ·cases h2
theorem Q2 {r:Reach}{b0 D:Nat}{t:TypeId}{v:Value}{d:DataW H}{ps:List MemPlace}(hD:WG P D t=true)(hv:adb P W r b0 t v)(h:DataW.Trod enc P W base sp held t v d ps): ∃m n,bN key (xO W) v m/\ME P (MT P n) t m:=by
 obtain ⟨fuel,hf⟩:=h;obtain ⟨ms,r1,t1⟩:=Q1 (key:=key) fuel D t _ _ hD hf;cases fuel with
 |zero=>exact t1.elim
 |succ fuel=>
  have t2:=t1;simp only [MT] at t1;cases hu:P.underlying t with
  |none=>simp [hu] at t1
  |some k=>
   simp only [hu] at t1;cases k<;>simp only at t1<;>try (exact t1.elim)
   case bool=>obtain ⟨b,rfl⟩:=t1;obtain ⟨b',rfl⟩:=okWide_bool hu hv;refine ⟨.b b,fuel+1,⟨rfl,r1.single⟩,by unfold ME;simp only [hu];exact t2⟩
   case int k=>obtain ⟨n,rfl,_⟩:=t1;obtain ⟨n',rfl⟩:=okWide_int hu hv;refine ⟨.i k n,fuel+1,⟨rfl,r1.single⟩,by unfold ME;simp only [hu];exact t2⟩
   case string=>obtain ⟨l,rfl,_⟩:=t1;obtain ⟨s',rfl⟩:=okWide_string hu hv;refine ⟨.s l,fuel+1,⟨rfl,r1.single⟩,by unfold ME;simp only [hu];exact t2⟩
   case slice e=>
    obtain ⟨xs,rfl,_⟩:=t1;have hvc:v.cells.toList=[v]:=by simp only [adb,hu,Cell.okWide] at hv;cases v<;>simp_all [Cell.ok,acL]
    rw [hvc] at r1;refine ⟨.list xs,fuel+1,⟨rfl,r1.single⟩,by unfold ME;simp only [hu];exact t2⟩
   case struct fs=>obtain ⟨arr,rfl,_⟩:=okWide_struct hu hv;refine ⟨.agg ms,fuel+1,⟨arr,rfl,by simpa [acL] using r1⟩,by unfold ME;simp only [hu];exact ⟨ms,rfl,t2⟩⟩
   case array n e=>
    obtain ⟨h,rfl,hh,_⟩:=t1;have: ∃arr,v= .agg arr:=by simp only [adb,hu] at hv;obtain ⟨arr,rfl,_⟩:=hv;exact ⟨arr,rfl⟩
    obtain ⟨arr,rfl⟩:=this;refine ⟨.h .u8 30 h,fuel+1,?_,by unfold ME;simp only [hu];exact t2⟩;have hr:=r1.single;simp only [acL] at hr;generalize oK:arr.toList=vs at hr;cases hr;refine ⟨?_,hh⟩;show Value.agg arr= .agg _;rw [<-oK]
end
end Dn
/-
  A law of plain data, out of its function's contract. Conditions: none.
-/
namespace Dn
open Go Go.WideShapes Go.ChangeShapes Go.RowKit
section
variable {H:Type}{enc:TypeId×Value->H}{P:Program} {W W':World}{c:Ctx}
theorem uL (hl:laidOutB P=true)(hb:Below W.heap.size W W'): ∀{ts:List TypeId} {vs:List Value} {ds:List (DataW H)} {ps:List MemPlace},(∀t∈ts,P.readableRec t=true/\t<P.types.size)-> DataW.TrodAll enc P W 0 (λ_=>true) true ts vs ds ps->(∀x∈ps,x.block<W.heap.size)->DataW.TrodAll enc P W' 0 (λb=>decide (b<W.heap.size)) true ts vs ds ps
 |[],[],[],_,_,h,_=>h
 |t::ts,v::vs,d::ds,_,ht,⟨p,q,h1,h2,e⟩,hs=>⟨p,q,Below.trod hl (ht t (by simp)).1 (ht t (by simp)).2 h1 hb (λx hx=>hs x (by rw [e];exact List.mem_append_left _ hx)),uL hl hb (λu hu=>ht u (by simp [hu])) h2 (λx hx=>hs x (by rw [e];exact List.mem_append_right _ hx)),e⟩
def wg (P:Program):List TypeId->List MV->Prop
 |[],ms=>ms=[]
 |t::ts,ms=> ∃m r,ms=m::r/\(∃n,ME P (MT P n) t m)/\wg P ts r
theorem EU {base:Nat}{sp:Nat->Bool}{held:Bool}{key:Nat->Nat}{r:Reach}{b0:Nat}: ∀{ts:List TypeId} {vs:List Value} {ds:List (DataW H)} {ps:List MemPlace},(∀t∈ts,∃D,WG P D t=true)-> (∀(j:Nat) t v,ts[j]? =some t->vs[j]? =some v->adb P W r b0 t v)->DataW.TrodAll enc P W base sp held ts vs ds ps-> ∃ms,aE key (xO W) vs ms/\wg P ts ms/\ds.length=ts.length
 |[],[],[],_,_,_,_=>⟨[],rfl,rfl,rfl⟩
 |t::ts,v::vs,d::ds,_,ht,hv,⟨p,q,h1,h2,e⟩=>by obtain ⟨D,hD⟩:=ht t (by simp);obtain ⟨m,n,r1,t1⟩:=Q2 (key:=key) hD (hv 0 t v rfl rfl) h1;obtain ⟨ms,r2,t2,hl⟩:=EU (key:=key) (λu hu=>ht u (by simp [hu])) (λj u x hu hx=>hv (j+1) u x (by simpa using hu) (by simpa using hx)) h2;exact ⟨m::ms,⟨v,vs,rfl,r1,r2⟩,⟨m,ms,rfl,⟨n,t1⟩,t2⟩,by simp [hl]⟩
theorem NS {fn:Func}{f:FuncId}{s:ChangeSpec}{args:Array Value}{ds gs:List (DataW H)}{before:List MemPlace}{tb:TypeId}{base:Nat}(hf:P.funcs[f]? =some fn)(b9:fn.body.isSome=true)(oR:(fn.name== "runtime.NumGoroutine")=false)
 (hl:laidOutB P=true) (Yn: ∀t∈fn.params.toList,(∃D,WG P D t=true)/\P.readableRec t=true/\t<P.types.size) (jt:fn.resultTypes= #[tb]) (QJ:P.underlying tb=some .bool) (hv:s.vars=[])
 (Z5: ∀ds:List (DataW H),ds.length=fn.params.toList.length->s.fn H ds={results:=[.lit (.bool true)],args:=ds})
 (Gr: ∀(j:Nat) t v,fn.params[j]? =some t->args[j]? =some v->adb P W .any base t v)
 (hW:DataW.Whole enc P fn.params.toList s.vars false W args.toList ds gs before) (hg:c.bQ (c.key f)=false)
 (qI: ∀ms,wg P fn.params.toList ms->cq P c f ms (.b true)):
 Calls P f args W λe W'=> ∃v,e= .returned v/\s.post enc P fn false true false false W args v W':=by
 have hW':=hW;obtain ⟨p,q,hA,hV,rfl,ZY,hnd⟩:=hW;rw [hv] at hV;obtain ⟨rfl,rfl⟩:=trodVars_none hV;have cz: ∀x∈p,x.block<W.heap.size:=λx hx=>by simpa using hW'.lt x (by simp [hx])
 obtain ⟨ms,r1,t1,JY⟩:=EU (key:=c.key) (λt ht=>(Yn t ht).1) (λj t v h1 h2=>Gr j t v (by simpa using h1) (by simpa using h2)) hA;have hc:=qI ms t1 (xO W) W (λb=>W.heap.size<=b) args.toList (λb hb=>hb) (by simp only [bO,hg,No,if_false];exact r1) (QZ W);have aV:(callFunc f args).run P W= .ok (.enter f args) W:=by
  have zC: ¬fn.name= "runtime.NumGoroutine" :=by simpa using oR
  cases hb:fn.body with
  |none=>rw [hb] at b9;cases b9
  |some b=>simp [callFunc,hf,zC,hb]
 unfold cn at hc;rw [Array.toArray_toList,aV] at hc;refine hc.mono ?_;rintro x W' ⟨v,rfl,φ',ht,du,hr⟩;have hvb:v= .bool true:=by obtain ⟨_,hr⟩:=hr;generalize oK:[v]=vs at hr;cases hr;simpa using oK
 subst hvb;have Q3:Below W.heap.size W W':=⟨ht.rest.1,ht.rest.2.1,ht.rest.2.2,ht.size,λk hk=>ht.heap k (by omega) hk⟩
 have Yo:=Z5 (ds++[]) (by simpa using JY);refine ⟨_,rfl,ds,[],_,[],p,[],hW',?_,?_,?_,Q3.frame _,λh=>by cases h⟩
 ·rw [Yo,jt];exact trodAll_mk1 (shut_bool QJ _)
 ·rw [Yo];simpa using uL hl Q3 (λt ht=>(Yn t ht).2) hA cz
 ·rw [Yo,hv];rfl
end
theorem Uz {α:Type}{f:α->MV}{Q:α->Prop}{R:MV->Prop}{xs:List MV}(h: ∀x,R x-> ∃y,x=f y/\Q y)(hx: ∀x∈xs,R x): ∃L:List α,xs=L.map f/\ ∀y∈L,Q y:=by
 induction xs with
 |nil=>exact ⟨[],rfl,by simp⟩
 |cons x xs ih=>obtain ⟨y,rfl,hq⟩:=h x (hx x (by simp));obtain ⟨L,rfl,hL⟩:=ih λz hz=>hx z (by simp [hz]);exact ⟨y::L,rfl,by simp only [AI];rintro z (rfl|hz);exact hq;exact hL z hz⟩
theorem Q4 {n:Int}(h:(Lit.int .i64 n).wf=true): -9223372036854775808<=n/\n<=9223372036854775807:=by simp only [Lit.wf,sh,decide_eq_true_eq] at h;exact h
end Dn
/-
  A program's type table, looked through. Conditions: none.
-/
namespace Dn
open Go
theorem Q5 {a b:Kd}(h:Wg a b=true):a=b:=by cases a<;>cases b<;>simp [Wg,kB] at h<;>first|rfl|(subst h;rfl)|(obtain ⟨rfl,rfl⟩:=h;rfl)
def jd:List Kd->Kd->Bool
 |[k],k'=>Wg k k'
 |_,_=>false
theorem df {l:List Kd}{k:Kd}(h:jd l k=true):l=[k]:=by
 cases l with
 |nil=>simp [jd] at h
 |cons a l=>cases l with
  |nil=>simp only [jd] at h;rw [Q5 h]
  |cons=>simp [jd] at h
def yP:List Nat->List Nat->Bool
 |[],[]=>true
 |a::l,b::m=>By a b&&yP l m
 |_,_=>false
theorem Bf {l m:List Nat}(h:yP l m=true):l=m:=by
 induction l generalizing m with
 |nil=>cases m<;>simp [yP] at h;rfl
 |cons a l ih=>
  cases m with
  |nil=>simp [yP] at h
  |cons b m=>simp only [yP,sh] at h;rw [aQ h.1,ih h.2]
def pZ {α:Type}:List α->Bool
 |[]=>true
 |_=>false
theorem kE {α:Type}{l:List α}(h:pZ l=true):l=[]:=by cases l<;>simp [pZ] at h;rfl
def GD (ti:Nat->Option TI)(t:Nat):Bool:=match ti t with|some J=>pZ J.bB&&abe 1 J.size|none=>false
theorem EV {ti:Nat->Option TI}{t:Nat}(h:GD ti t=true): ∃J,ti t=some J/\J.bB=[]/\0<J.size:=by
 unfold GD at h;cases hJ:ti t with
 |none=>simp [hJ] at h
 |some J=>simp only [hJ,sh] at h;exact ⟨J,rfl,kE h.1,aab h.2⟩
def Bg (k:IntKind):List Value->Nat->Bool
 |[],n=>By n 0
 | .int k' v::r,n+1=>kB k' k&&(decide (v=0)&&Bg k r n)
 |_,_=>false
theorem Iu {k:IntKind}{l:List Value}{n:Nat}(h:Bg k l n=true):l=adX n (.int k 0):=by
 induction l generalizing n with
 |nil=>have:=aQ h;subst this;rfl
 |cons v l ih=>
  cases n with
  |zero=>cases v<;>simp [Bg] at h
  |succ n=>
   unfold Bg at h;split at h
   ·rename_i h1;simp at h1
   ·rename_i k _ _ _ h1 h2;simp only [aaU] at h1;obtain ⟨rfl,rfl⟩:=h1;cases h2;simp only [kB,sh,decide_eq_true_eq] at h;rw [h.1,h.2.1,ih h.2.2];rfl
   ·cases h
def xQ:List ak->ak->Bool
 |[.nil],.nil=>true
 |[.p (.b false)],.p (.b false)=>true
 |[.p (.i k n)],.p (.i k' m)=>kB k k'&&decide (n=m)
 |[.p (.s [])],.p (.s [])=>true
 |_,_=>false
theorem tA {l:List ak}{x:ak}(h:xQ l x=true):l=[x]:=by
 unfold xQ at h;split at h<;>first|rfl|skip
 ·simp [kB] at h;rw [h.1,h.2]
 ·cases h
def Q6 (k:IntKind)(m:Nat):List ak->Bool
 |[.hs k' m' x]=>kB k' k&&(By m' m&&decide (x=zA m))
 |_=>false
theorem Q7 {k:IntKind}{m:Nat}{l:List ak}(h:Q6 k m l=true):l=[.hs k m (zA m)]:=by
 unfold Q6 at h;split at h
 ·simp only [kB,sh,decide_eq_true_eq] at h;rw [h.1,aQ h.2.1,h.2.2]
 ·cases h
def Q8 (ti:Nat->Option TI)(P:Program)(I:TI)(z:Option Value):TypeDesc->Bool
 | .struct fs=>I.st&&pZ I.bB&&abe 1 I.size&&By (zy I.lay) I.size&&yP (fs.toList.map (·.offset)) I.zq&&yP (fs.toList.map (·.type)) I.M9&& (fs.toList.all λf=>GD ti f.type)&&(match z with|some (.agg cs)=>ng I.zero cs.toList&&By cs.size I.size|_=>false)
 | .tuple ts=>yP I.bB ts.toList&&!pZ I.bB&&pZ I.lay&&!I.st
 | .slice el=>!I.st&&pZ I.bB&&By I.size 1&&By I.elem el&&GD ti el&&(match z with|some (.slice none 0 0)=>true|_=>false)&&xQ I.zero .nil&&jd I.lay .l
 | .array n el=>!I.st&&pZ I.bB&&By I.size n&&By I.elem el&&(match I.lay with
  |[.h k m]=>By n (m+2)&&(match P.underlying el with|some (.int k')=>kB k' k|_=>false)&&(match P.info? el with|some i=>By i.size 1|none=>false)&& Q6 k m I.zero&&(match z with|some (.agg cs)=>Bg k cs.toList (m+2)|_=>false)
  |_=>false)
 | .bool=>!I.st&&pZ I.bB&&By I.size 1&&jd I.lay .b&&xQ I.zero (.p (.b false))&&(match z with|some (.bool false)=>true|_=>false)
 | .int k=>!I.st&&pZ I.bB&&By I.size 1&&jd I.lay (.i k)&&xQ I.zero (.p (.i k 0))&&(match z with|some (.int k' n)=>kB k' k&&decide (n=0)|_=>false)
 | .string=>!I.st&&pZ I.bB&&By I.size 1&&jd I.lay .s&&xQ I.zero (.p (.s []))&&(match z with|some (.string b)=>pZ b.data.toList|_=>false)
 |_=>!I.st&&pZ I.bB&&By I.size 1&&jd I.lay .raw&&(match z with|some v=>v.oneCell'&&ng I.zero [v]|none=>false)
theorem Q9 {ti:Nat->Option TI}{P:Program}{I:TI}{z:Option Value}{d:TypeDesc}(h:Q8 ti P I z d=true):kM ti P I z d:=by
 cases d<;>simp only [Q8,sh,IT] at h<;>simp only [kM];case struct fs=>
  obtain ⟨⟨⟨⟨⟨⟨⟨h1,h2⟩,h3⟩,h4⟩,h5⟩,h6⟩,h7⟩,h8⟩:=h;refine ⟨h1,kE h2,⟨aab h3,aQ h4⟩,Bf h5,Bf h6,λk f hk=> ?_,?_⟩
  ·exact EV (OF.1 h7 f (by
    have:fs.toList[k]? =some f:=by simpa using hk
    exact acP this))
  ·split at h8
   ·rename_i cs;simp only [sh] at h8;exact ⟨cs,rfl,h8.1,aQ h8.2⟩
   ·cases h8
 case tuple ts=>obtain ⟨⟨⟨h1,h2⟩,h3⟩,h4⟩:=h;exact ⟨Bf h1,λhe=>(by rw [he] at h2;simp [pZ] at h2),kE h3,h4⟩
 case slice el=>
  obtain ⟨⟨⟨⟨⟨⟨⟨h1,h2⟩,h3⟩,h4⟩,h5⟩,h6⟩,h7⟩,h8⟩:=h;refine ⟨h1,kE h2,aQ h3,aQ h4,EV h5,?_,tA h7,.l,df h8,rfl⟩;split at h6
  ·rfl
  ·cases h6
 case array n el=>
  obtain ⟨⟨⟨⟨h1,h2⟩,h3⟩,h5⟩,h⟩:=h;split at h;case h_2=>cases h
  rename_i k m hl;simp only [sh] at h;obtain ⟨⟨⟨⟨h4,h6⟩,h7⟩,h9⟩,rb⟩:=h;refine ⟨h1,kE h2,aQ h3,aQ h5,k,m,aQ h4,?_,hl,Q7 h9,?_⟩
  ·split at h6
   ·rename_i k' hu;simp only [kB,decide_eq_true_eq] at h6;subst h6;split at h7
    ·rename_i i hi;exact ⟨i,hu,hi,aQ h7⟩
    ·cases h7
   ·cases h6
  ·split at rb
   ·rename_i cs;have:=Iu rb;congr 1;congr 1;apply aaL.1;rw [this];simp [aX]
   ·cases rb
 case bool=>
  obtain ⟨⟨⟨⟨⟨h1,h2⟩,h3⟩,h4⟩,h5⟩,h6⟩:=h;refine ⟨h1,kE h2,aQ h3,df h4,tA h5,?_⟩;split at h6
  ·rfl
  ·cases h6
 case int k=>
  obtain ⟨⟨⟨⟨⟨h1,h2⟩,h3⟩,h4⟩,h5⟩,h6⟩:=h;refine ⟨h1,kE h2,aQ h3,df h4,tA h5,?_⟩;split at h6
  ·simp only [kB,sh,decide_eq_true_eq] at h6;rw [h6.1,h6.2]
  ·cases h6
 case string=>
  obtain ⟨⟨⟨⟨⟨h1,h2⟩,h3⟩,h4⟩,h5⟩,h6⟩:=h;refine ⟨h1,kE h2,aQ h3,df h4,tA h5,?_⟩;split at h6
  ·rename_i b;exact ⟨b,rfl,kE h6⟩
  ·cases h6
 all_goals
  obtain ⟨⟨⟨⟨h1,h2⟩,h3⟩,h4⟩,h5⟩:=h;refine ⟨h1,kE h2,aQ h3,df h4,?_⟩;split at h5
  ·rename_i v;simp only [sh] at h5;exact ⟨v,rfl,h5.1,h5.2⟩
  ·cases h5
def Yp (ti:Nat->Option TI)(P:Program)(t:Nat)(I:TI):Bool:=match P.underlying t,P.info? t with
 |some d,some i=>(!pZ I.bB||(By i.size I.size&&By i.bytes I.bytes))&&Q8 ti P I i.zero d
 |_,_=>false
theorem UA {ti:Nat->Option TI}{P:Program}{t:Nat}{I:TI}(h:Yp ti P t I=true):ji ti P t I:=by
 unfold Yp at h;split at h
 ·rename_i d i hu hi;simp only [sh,ac9,IT] at h;refine ⟨d,i,hu,hi,λhc=> ?_,Q9 h.2⟩;rcases h.1 with h1|h1
  ·rw [hc] at h1;simp [pZ] at h1
  ·exact ⟨aQ h1.1,aQ h1.2⟩
 ·cases h
def mj:List (Nat×TI)->Nat->Option TI
 |[],_=>none
 |(k,s)::r,t=>bif By k t then some s else mj r t
def Iv (P:Program)(Tu:List (Nat×TI)):Bool:=Tu.all λp=>Yp (mj Tu) P p.1 p.2
theorem xR {l:List (Nat×TI)}{t:Nat}{I:TI}(h:mj l t=some I):(t,I)∈l:=by
 induction l with
 |nil=>simp [mj] at h
 |cons p l ih=>
  obtain ⟨k,s⟩:=p;simp only [mj,cY] at h;by_cases hk:k=t
  ·subst hk;simp at h;subst h;simp
  ·simp only [hk,decide_false,cond_false] at h;exact abw _ (ih h)
theorem GF {P:Program}{Tu:List (Nat×TI)}(h:Iv P Tu=true):dt P (mj Tu):=λt I hI=>UA (OF.1 h (t,I) (xR hI))
end Dn
/-
  Comparing values of plain types. Conditions: none.
-/
namespace Dn
open Go
def UB:List Kd->List Kd
 |[]=>[]
 | .h k n::r=>adX (n+2) (.i k)++UB r
 |k::r=>k::UB r
def GG:Kd->Value->Bool
 | .b,.bool _=>true
 | .i k,.int k' _=>decide (k'=k)
 | .s,.string _=>true
 |_,_=>false
def eW:List Kd->List Value->Prop
 |[],vs=>vs=[]
 |k::ks,vs=> ∃v r,vs=v::r/\GG k v=true/\eW ks r
def Ra:Value->Value->Bool
 | .bool a,.bool b=>decide (a=b)
 | .int _ a,.int _ b=>decide (a=b)
 | .string a,.string b=>decide (a.data.toList=b.data.toList)
 |_,_=>false
def gh:List Value->List Value->Bool
 |[],[]=>true
 |x::xs,y::ys=>Ra x y&&gh xs ys
 |_,_=>false
theorem nA {xs ys us vs:List Value}(h:xs.length=ys.length):gh (xs++us) (ys++vs)=(gh xs ys&&gh us vs):=by
 induction xs generalizing ys with
 |nil=>cases ys with|nil=>simp [gh]|cons=>simp at h
 |cons x xs ih=>cases ys with|nil=>simp at h|cons y ys=>simp only [aas,gh,ih (by simpa using h),Bool.and_assoc]
theorem eW.length {ks:List Kd}: ∀{vs:List Value},eW ks vs->vs.length=ks.length:=by
 induction ks with
 |nil=>intro vs h;cases h;rfl
 |cons k ks ih=>intro vs h;obtain ⟨v,r,rfl,_,h2⟩:=h;simp [ih h2]
theorem eW.append {ks js:List Kd}: ∀{vs us:List Value},eW ks vs->eW js us->eW (ks++js) (vs++us):=by
 induction ks with
 |nil=>intro vs us h h';cases h;simpa using h'
 |cons k ks ih=>intro vs us h h';obtain ⟨v,r,rfl,h1,h2⟩:=h;exact ⟨v,r++us,rfl,h1,ih h2 h'⟩
theorem eW.split {ks js:List Kd}: ∀{vs:List Value},eW (ks++js) vs->eW ks (vs.take ks.length)/\eW js (vs.drop ks.length):=by
 induction ks with
 |nil=>intro vs h;exact ⟨by simp [eW],by simpa using h⟩
 |cons k ks ih=>intro vs h;obtain ⟨v,r,rfl,h1,h2⟩:=h;obtain ⟨h3,h4⟩:=ih h2;exact ⟨⟨v,_,rfl,h1,h3⟩,by simpa using h4⟩
theorem Bh (k:IntKind)(x:List Int):eW (adX x.length (.i k)) (aX k x):=by
 induction x with
 |nil=>rfl
 |cons b l ih=>exact ⟨_,_,rfl,by simp [GG],ih⟩
theorem EW (k:IntKind): ∀(l m:List Int),l.length=m.length->gh (aX k l) (aX k m)=decide (l=m):=by
 intro l;induction l with
 |nil=>intro m h;cases m with|nil=>rfl|cons=>simp at h
 |cons b l ih=>
  intro m h;cases m with
  |nil=>simp at h
  |cons b' m=>have h2:=ih m (by simpa using h);simp only [aX] at h2;simp [aX,gh,Ra,h2]
section
variable {e:Env}
theorem EX {lay:List Kd}: ∀{ls:List ak} {vs:List Value},ai e vs ls->cV lay ls=true->eW (UB lay) vs:=by
 induction lay with
 |nil=>
  intro ls vs h hf;cases ls with
  |nil=>cases h;rfl
  |cons=>simp [cV] at hf
 |cons k lay ih=>
  intro ls vs h hf;cases ls with
  |nil=>simp [cV] at hf
  |cons l ls=>
   simp only [cV] at hf;cases h1:jc k l with
   |false=>simp [h1] at hf
   |true=>
    simp only [h1,cond_true] at hf;obtain ⟨v,u,rfl,g1,g2⟩:=h;have hr:=ih g2 hf;have one: ∀m:MV,∀kd:Kd,l= .p m->(∀w:List Value,dI e.key e.φ w m-> ∃x,w=[x]/\GG kd x=true)->eW (kd::UB lay) (v++u):=by intro m kd hl hm;subst hl;obtain ⟨x,rfl,hx⟩:=hm v g1.2;exact ⟨x,u,rfl,hx,hr⟩
    cases k<;>cases l<;>simp only [jc] at h1<;>try (cases h1;done)
    ·rename_i m;cases m<;>simp only [jc] at h1<;>try (cases h1;done)
     exact one _ _ rfl (λw hw=>by cases hw;exact ⟨_,rfl,rfl⟩)
    ·rename_i k m;cases m<;>simp only [jc] at h1<;>try (cases h1;done)
     exact one _ _ rfl (λw hw=>by cases hw;exact ⟨_,rfl,h1⟩)
    ·rename_i m;cases m<;>simp only [jc] at h1<;>try (cases h1;done)
     exact one _ _ rfl (λw hw=>by cases hw;exact ⟨_,rfl,rfl⟩)
    ·rename_i k n k' n' x;simp only [sh,decide_eq_true_eq] at h1;obtain ⟨rfl,h1⟩:=h1;have h1:=aQ h1;subst h1;obtain ⟨rfl,hx⟩:=g1;have:=(Bh k' x).append hr;rw [hx] at this;exact this
theorem DO {l l':ak} {v v':List Value}{b:Bool}(h:aw e v l) (h':aw e v' l')(hb:xC l l'=some b):gh v v'=b/\v.length=v'.length:=by
 unfold xC at hb;split at hb
 ·obtain ⟨_,h⟩:=h;obtain ⟨_,h'⟩:=h';cases h;cases h';simp at hb;exact ⟨by simp [gh,Ra,<-hb],rfl⟩
 ·obtain ⟨_,h⟩:=h;obtain ⟨_,h'⟩:=h';cases h;cases h';rename_i k x k' y _ _;cases hk:decide (k=k') with
  |false=>simp [hk] at hb
  |true=>simp [hk] at hb;exact ⟨by simp [gh,Ra,<-hb],rfl⟩
 ·obtain ⟨_,h⟩:=h;obtain ⟨_,h'⟩:=h';cases h;cases h';simp at hb;exact ⟨by simp [gh,Ra,<-hb],rfl⟩
 ·rename_i k n x k' n' y;obtain ⟨rfl,hx⟩:=h;obtain ⟨rfl,hy⟩:=h';cases hq:decide (k=k')&&By n n' with
  |false=>simp [hq] at hb
  |true=>simp only [hq,cond_true,AS] at hb;simp only [sh,decide_eq_true_eq] at hq;obtain ⟨rfl,hq⟩:=hq;have hq:=aQ hq;subst hq;exact ⟨by rw [EW k x y (by omega),<-hb],by rw [bC,bC];omega⟩
 ·cases hb
theorem Rb {ls:List ak}: ∀{qL:List ak} {vs DF:List Value} {b:Bool},ai e vs ls->ai e DF qL->eD ls qL=some b->gh vs DF=b:=by
 induction ls with
 |nil=>
  intro qL vs DF b h h' hb;cases qL with
  |nil=>cases h;cases h';simp [eD] at hb;subst hb;rfl
  |cons l' qL=>simp [eD] at hb
 |cons l ls ih=>
  intro qL vs DF b h h' hb;cases qL with
  |nil=>simp [eD] at hb
  |cons l' qL=>
   obtain ⟨v,u,rfl,h1,h2⟩:=h;obtain ⟨v',u',rfl,vK,z6⟩:=h';have two: ∀x y,xC l l'=some x->eD ls qL=some y->b=(x&&y)->gh (v++u) (v'++u')=b:=by intro x y hx hy Qx;obtain ⟨g1,g2⟩:=DO h1 vK hx;rw [nA g2,g1,ih h2 z6 hy,Qx]
   cases ls with
   |nil=>
    cases qL with
    |nil=>have hb:xC l l'=some b:=hb;exact two b true hb rfl (by simp)
    |cons p q=>
     simp only [eD] at hb;split at hb
     ·rename_i x y hx hy;exact two x y hx hy (by simpa using hb.symm)
     ·cases hb
   |cons p q=>
    simp only [eD] at hb;split at hb
    ·rename_i x y hx hy;exact two x y hx hy (by simpa using hb.symm)
    ·cases hb
end
def nY (F:TypeId->Option (List Kd))(P:Program):List Field->Nat->Nat->Option (List Kd)
 |[],o,n=>bif By o n then some [] else none
 |f::fs,o,n=>match F f.type with
  |some ks=>bif By f.offset o&&By ks.length (P.cellsOf f.type)&&!(f.name== "_") then (match nY F P fs (o+ks.length) n with|some r=>some (ks++r)|none=>none) else none
  |none=>none
def Iw:Nat->List Kd->List Kd
 |0,_=>[]
 |n+1,ks=>ks++Iw n ks
def iU (P:Program):Nat->TypeId->Option (List Kd)
 |0,_=>none
 |d+1,t=>match P.underlying t with
  |some .bool=>some [.b]
  |some (.int k)=>some [.i k]
  |some .string=>some [.s]
  |some (.array n e)=>match iU P d e with
   |some ks=>bif By ks.length (P.cellsOf e)&&(match P.info? e with|some _=>true|none=>false) then some (Iw n ks) else none
   |none=>none
  |some (.struct fs)=>bif P.stoodInHeld t then none else nY (iU P d) P fs.toList 0 (P.cellsOf t)
  |_=>none
def DP:TypeDesc->Bool
 | .struct _=>true
 | .array _ _=>true
 |_=>false
theorem Bi {F:TypeId->Option (List Kd)}{P:Program}: ∀(fs:List Field) (o n:Nat) (ks:List Kd),nY F P fs o n=some ks->o+ks.length=n:=by
 intro fs;induction fs with
 |nil=>
  intro o n ks hk;simp only [nY] at hk;cases hb:By o n with
  |false=>simp [hb] at hk
  |true=>simp [hb] at hk;subst hk;simpa using aQ hb
 |cons f fs ihf=>
  intro o n ks hk;simp only [nY] at hk;cases hf:F f.type with
  |none=>simp [hf] at hk
  |some js=>
   simp only [hf] at hk
   cases hc:By f.offset o&&By js.length (P.cellsOf f.type)&&!(f.name== "_") with
   |false=>simp [hc] at hk
   |true=>
    simp only [hc,cond_true] at hk;cases hr:nY F P fs (o+js.length) n with
    |none=>simp [hr] at hk
    |some rs=>simp only [hr,AS] at hk;subst hk;have:=ihf _ _ _ hr;simp only [aaa];omega
def mV (P:Program)(t:TypeId)(v:Value)(cs:List Value):Prop:=match P.underlying t with
 |some (.struct _)|some (.array _ _)=>v= .agg cs.toArray
 |_=>cs=[v]
theorem Ix (n:Nat)(ks:List Kd):(Iw n ks).length=n *ks.length:=by
 induction n with
 |zero=>simp [Iw]
 |succ n ih=>simp only [Iw,aaa,ih,aet];omega
section
variable {P:Program}{w:World}
theorem tC {t:TypeId}{xs:Array Value}{off:Nat}{n:Nat}{d:TypeDesc}(hu:P.underlying t=some d)(hn:P.cellsOf t=n)(dS:DP d=false->n=1)(hl:off+n<=xs.size): ∃v,(aep t xs off).run P w= .ok v w/\mV P t v ((xs.toList.drop off).take n):=by
 obtain ⟨i,hi⟩:=info_of_underlying hu;have jT:i.size=n:=by rw [<-hn];simp [Program.cellsOf,hi]
 cases hd:DP d with
 |true=>
  refine ⟨.agg (xs.extract off (off+n)),?_,?_⟩
  ·cases d<;>simp [DP] at hd<;>simp [aep,isAgg,run_underlying hu,ad1,typeInfo,hi,jT]
  ·have he:(xs.extract off (off+n))=((xs.toList.drop off).take n).toArray:=by apply aaL.1;rw [Array.toList_extract];simp [List.extract]
   unfold mV;cases d<;>simp [DP] at hd<;>simp only [hu]<;>rw [he]
 |false=>
  have Ex:=dS hd;subst Ex;have cz:off<xs.size:=by omega
  refine ⟨xs[off],?_,?_⟩
  ·cases d<;>simp [DP] at hd<;>simp [aep,isAgg,run_underlying hu,cz]
  ·have he:(xs.toList.drop off).take 1=[xs[off]]:=by rw [List.take_one,List.head?_drop];simp [cz]
   unfold mV;cases d<;>simp [DP] at hd<;>simp only [hu]<;>exact he
theorem NT {F:TypeId->Option (List Kd)}{dd:Nat}{xs ys:Array Value}: ∀(fs:List Field) (o n:Nat) (ks:List Kd),nY F P fs o n=some ks->xs.size=n->ys.size=n->eW ks (xs.toList.drop o)->eW ks (ys.toList.drop o)-> (∀f∈fs,∀js,F f.type=some js->(∃d,P.underlying f.type=some d/\(DP d=false->js.length=1))/\ ∀(x y:Value) (us vs:List Value),mV P f.type x us->mV P f.type y vs->eW js us->eW js vs->(adP dd f.type x y).run P w= .ok (gh us vs) w)-> (Op.eqFields dd xs ys fs).run P w= .ok (gh (xs.toList.drop o) (ys.toList.drop o)) w:=by
 intro fs;induction fs with
 |nil=>
  intro o n ks hk hx hy _ _ _;simp only [nY] at hk;cases hb:By o n with
  |false=>simp [hb] at hk
  |true=>have hb:=aQ hb;have h1:xs.toList.drop o=[]:=abg (by simp [hx,hb]);have h2:ys.toList.drop o=[]:=abg (by simp [hy,hb]);rw [h1,h2];simp [Op.eqFields,gh]
 |cons f fs ih=>
  intro o n ks hk hx hy fx fy hF;simp only [nY] at hk;cases hf:F f.type with
  |none=>simp [hf] at hk
  |some js=>
   simp only [hf] at hk
   cases hc:By f.offset o&&By js.length (P.cellsOf f.type)&&!(f.name== "_") with
   |false=>simp [hc] at hk
   |true=>
    simp only [hc,cond_true] at hk;simp only [sh,IT] at hc;obtain ⟨⟨h1,h2⟩,h3⟩:=hc;have h1:=aQ h1;have h2:=aQ h2
    have h3:f.name≠ "_" :=by intro he;rw [he] at h3;simp at h3
    cases hr:nY F P fs (o+js.length) n with
    |none=>simp [hr] at hk
    |some rs=>
     simp only [hr,AS] at hk;subst hk;obtain ⟨fx1,fx2⟩:=fx.split;obtain ⟨fy1,fy2⟩:=fy.split;rw [aa4] at fx2 fy2;have lx:=fx.length;have ly:=fy.length;simp only [aa6,aaa,aaj] at lx ly;obtain ⟨⟨d,hu,dS⟩,ek⟩:=hF f (by simp) js hf;by_cases hz:o+js.length<=xs.size/\o+js.length<=ys.size
     ·obtain ⟨x,px,wx⟩:=tC (w:=w) (xs:=xs) (off:=f.offset) hu h2.symm dS (by rw [h1];exact hz.1);obtain ⟨y,py,wy⟩:=tC (w:=w) (xs:=ys) (off:=f.offset) hu h2.symm dS (by rw [h1];exact hz.2);rw [h1] at wx wy;have he:=ek x y _ _ wx wy fx1 fy1;have jY:=ih (o+js.length) n rs hr hx hy fx2 fy2 (λg hg=>hF g (by simp [hg]));simp only [Op.eqFields,h3,ne_eq,not_false_eq_true,if_true,ab9,px,py,he,abv];have A7:gh (xs.toList.drop o) (ys.toList.drop o)=(gh ((xs.toList.drop o).take js.length) ((ys.toList.drop o).take js.length)&&gh (xs.toList.drop (o+js.length)) (ys.toList.drop (o+js.length))):=by rw [<-aa4,<-aa4,<-nA (by rw [fx1.length,fy1.length]),aaO,aaO]
      rw [A7];cases gh ((xs.toList.drop o).take js.length) ((ys.toList.drop o).take js.length)
      ·simp
      ·simpa using jY
     ·exfalso;have:=Bi _ _ _ _ hr;omega
theorem Rc {e:TypeId}{dd:Nat}{xs ys:Array Value}{js:List Kd}(DG:js.length=P.cellsOf e)(hd: ∃d,P.underlying e=some d/\(DP d=false->js.length=1))(ek: ∀(x y:Value)(us vs:List Value),mV P e x us->mV P e y vs->eW js us->eW js vs->(adP dd e x y).run P w= .ok (gh us vs) w): ∀(m i:Nat),xs.size=(i+m) *js.length->ys.size=(i+m) *js.length->eW (Iw m js) (xs.toList.drop (i *js.length))->eW (Iw m js) (ys.toList.drop (i *js.length))-> (Op.eqItems dd e (P.cellsOf e) xs ys (abZ i m)).run P w= .ok (gh (xs.toList.drop (i *js.length)) (ys.toList.drop (i *js.length))) w:=by
 intro m;induction m with
 |zero=>intro i hx hy _ _;have h1:xs.toList.drop (i *js.length)=[]:=abg (by simp [hx]);have h2:ys.toList.drop (i *js.length)=[]:=abg (by simp [hy]);rw [h1,h2];simp [Op.eqItems,gh]
 |succ m ih=>
  intro i hx hy fx fy;simp only [Iw] at fx fy;obtain ⟨fx1,fx2⟩:=fx.split;obtain ⟨fy1,fy2⟩:=fy.split;have hmul:i *js.length+js.length=(i+1) *js.length:=by rw [aet]
  rw [aa4,hmul] at fx2 fy2;obtain ⟨d,hu,dS⟩:=hd;have hle:(i+1) *js.length<=(i+(m+1)) *js.length:=aa0 _ (by omega);obtain ⟨x,px,wx⟩:=tC (w:=w) (xs:=xs) (off:=i *js.length) hu DG.symm dS (by omega);obtain ⟨y,py,wy⟩:=tC (w:=w) (xs:=ys) (off:=i *js.length) hu DG.symm dS (by omega);have he:=ek x y _ _ wx wy fx1 fy1;have jY:=ih (i+1) (by rw [hx];congr 1;omega) (by rw [hy];congr 1;omega) fx2 fy2;rw [adK];simp only [Op.eqItems,ab9,<-DG,px,py,he,abv];have A7:gh (xs.toList.drop (i *js.length)) (ys.toList.drop (i *js.length))=(gh ((xs.toList.drop (i *js.length)).take js.length) ((ys.toList.drop (i *js.length)).take js.length)&&gh (xs.toList.drop ((i+1) *js.length)) (ys.toList.drop ((i+1) *js.length))):=by rw [<-hmul,<-aa4,<-aa4,<-nA (by rw [fx1.length,fy1.length]),aaO,aaO]
  rw [A7];cases gh ((xs.toList.drop (i *js.length)).take js.length) ((ys.toList.drop (i *js.length)).take js.length)
  ·simp
  ·rw [<-DG] at jY;simpa using jY
theorem EY: ∀(d:Nat) (t:TypeId) (ks:List Kd),iU P d t=some ks-> ∃k,P.underlying t=some k/\(DP k=false->ks.length=1):=by
 intro d t ks h;cases d with
 |zero=>simp [iU] at h
 |succ d=>
  simp only [iU] at h;cases hu:P.underlying t with
  |none=>simp [hu] at h
  |some k=>
   refine ⟨k,rfl,λha=> ?_⟩;cases k<;>simp only [hu] at h<;>first
    |(simp only [AS] at h;subst h;rfl)
    |(cases h;done)
    |(simp [DP] at ha;done)
theorem yR: ∀(d:Nat) (t:TypeId) (ks:List Kd),iU P d t=some ks-> ∀(m:Nat) (x y:Value) (us vs:List Value),mV P t x us->mV P t y vs->eW ks us->eW ks vs-> (adP (m+d) t x y).run P w= .ok (gh us vs) w:=by
 intro d;induction d with
 |zero=>intro t ks h;simp [iU] at h
 |succ d ih=>
  intro t ks h m x y us vs hx hy fx fy;simp only [iU] at h;have hmd:m+(d+1)=(m+d)+1:=rfl;rw [hmd];cases hu:P.underlying t with
  |none=>simp [hu] at h
  |some k=>
   cases k<;>simp only [hu] at h<;>try (cases h;done)
   case bool=>simp only [AS] at h;subst h;simp only [mV,hu] at hx hy;subst hx;subst hy;obtain ⟨v,r,h1,h2,h3⟩:=fx;obtain ⟨v',r',vK,z6,LS⟩:=fy;simp at h1 vK;obtain ⟨rfl,_⟩:=h1;obtain ⟨rfl,_⟩:=vK;cases x<;>simp [GG] at h2;cases y<;>simp [GG] at z6;rename_i a b;rw [run_equalIn_bool' w _ t a b hu];simp [gh,Ra];cases a<;>cases b<;>rfl
   case int k=>simp only [AS] at h;subst h;simp only [mV,hu] at hx hy;subst hx;subst hy;obtain ⟨v,r,h1,h2,h3⟩:=fx;obtain ⟨v',r',vK,z6,LS⟩:=fy;simp at h1 vK;obtain ⟨rfl,_⟩:=h1;obtain ⟨rfl,_⟩:=vK;cases x<;>simp [GG] at h2;cases y<;>simp [GG] at z6;subst h2;subst z6;rw [run_equalIn_int w _ t _ _ _ _ hu];simp only [gh,Ra,acA];congr 1
   case string=>simp only [AS] at h;subst h;simp only [mV,hu] at hx hy;subst hx;subst hy;obtain ⟨v,r,h1,h2,h3⟩:=fx;obtain ⟨v',r',vK,z6,LS⟩:=fy;simp at h1 vK;obtain ⟨rfl,_⟩:=h1;obtain ⟨rfl,_⟩:=vK;cases x<;>simp [GG] at h2;cases y<;>simp [GG] at z6;rw [run_equalIn_string w _ t _ _ hu];simp only [gh,Ra,acA,toList_data];congr 1;exact Bool.beq_eq_decide_eq _ _
   case array n e=>
    cases hke:iU P d e with
    |none=>simp [hke] at h
    |some js=>
     simp only [hke] at h;cases hc:By js.length (P.cellsOf e)&&(match P.info? e with|some _=>true|none=>false) with
     |false=>simp [hc] at h
     |true=>
      simp only [hc,cond_true,AS] at h;subst h;simp only [sh] at hc;have DG:=aQ hc.1;obtain ⟨i,hi⟩: ∃i,P.info? e=some i:=by
       cases hi:P.info? e with
       |none=>rw [hi] at hc;simp at hc
       |some i=>exact ⟨i,rfl⟩
      simp only [mV,hu] at hx hy;subst hx;subst hy;rw [run_equalIn_array w (m+d) us.toArray vs.toArray hu hi,List.range_eq_range'];have l1:=fx.length;have l2:=fy.length;rw [Ix] at l1 l2;have:=Rc (w:=w) (xs:=us.toArray) (ys:=vs.toArray) (js:=js) (dd:=m+d) DG (EY d e js hke) (λx y us vs a b c d'=>ih e js hke m x y us vs a b c d') n 0 (by simpa using l1) (by simpa using l2) (by simpa using fx) (by simpa using fy);simpa using this
   case struct fs=>
    cases cu:P.stoodInHeld t with
    |true=>simp [cu] at h
    |false=>
     simp only [cu,cond_false] at h;simp only [mV,hu] at hx hy;subst hx;subst hy;have QN:P.fieldsOf t=fs:=by simp [Program.fieldsOf,hu]
     rw [run_equalIn_struct w (m+d) t us.toArray vs.toArray (by rw [QN];exact hu) cu,QN];have hl:=Bi _ _ _ _ h;have:=NT (w:=w) (dd:=m+d) (xs:=us.toArray) (ys:=vs.toArray) fs.toList 0 (P.cellsOf t) ks h (by simp [fx.length];omega) (by simp [fy.length];omega) (by simpa using fx) (by simpa using fy) (λf hf js hjs=>⟨EY d f.type js hjs,λx y us vs a b c d'=>ih f.type js hjs m x y us vs a b c d'⟩);simpa using this
end
theorem Mc {l m:List Kd}(h:zt l m=true):l=m:=by
 induction l generalizing m with
 |nil=>cases m<;>simp [zt] at h;rfl
 |cons a l ih=>
  cases m with
  |nil=>simp [zt] at h
  |cons b m=>simp only [zt,sh] at h;rw [Q5 h.1,ih h.2]
def KT:List Kd->Bool
 |[]=>true
 | .l::_=>false
 | .raw::_=>false
 |_::r=>KT r
def eqB (P:Program)(t:Nat)(I:TI):Bool:=!KT I.lay||!pZ I.bB||((match iU P 20 t with|some ks=>zt ks (UB I.lay)|none=>false)&&!P.eqGuardType P.depth t&& (match P.underlying t with|some (.struct _)=>I.st|some (.array _ _)=>!I.st&&(match I.lay with|[.h _ _]=>true|_=>false)|some .bool=>!I.st&&jd I.lay .b|some (.int k)=>!I.st&&jd I.lay (.i k)|some .string=>!I.st&&jd I.lay .s|_=>false))
def Yq (P:Program)(Tu:List (Nat×TI)):Bool:=Tu.all λp=>eqB P p.1 p.2&&(!J7 p.2.zero||(match P.underlying p.1 with|some (.pointer _)=>true|_=>false))
theorem NU {lay:List Kd}: ∀{ls:List ak},cV lay ls=true->KT lay=true:=by
 induction lay with
 |nil=>intro ls _;rfl
 |cons k lay ih=>
  intro ls h;cases ls with
  |nil=>simp [cV] at h
  |cons l ls=>
   simp only [cV] at h;cases h1:jc k l with
   |false=>simp [h1] at h
   |true=>simp only [h1,cond_true] at h;have:=ih h;cases k<;>first|exact this|(cases l<;>simp [jc] at h1)
theorem NV {t:TypeId}{x y:Value}(h:(∃b,x= .bool b)\/ ∃cs,x= .agg cs)(op:BinOp): (op= .eql->binOp op t x y=(do pure (.bool (<-aea t x y))))/\(op= .neq->binOp op t x y=(do pure (.bool (!(<-aea t x y))))):=by rcases h with ⟨b,rfl⟩|⟨cs,rfl⟩<;>refine ⟨?_,?_⟩<;>rintro rfl<;>cases y<;>rfl
theorem NW {P:Program}{Tu:List (Nat×TI)}(h:Yq P Tu=true):HV P (mj Tu):=by
 refine ⟨λt I hI hz=> ?_,?_⟩
 ·have hr:=OF.1 h (t,I) (xR hI);simp only [hz,acB,adG,sh] at hr;have hr:=hr.2;split at hr
  ·rename_i el hu;exact ⟨el,hu⟩
  ·cases hr
 intro t I hI hc e w vx vy sx sy b rx ry fx fy Yr Ys hb n1 n2;have hr:=OF.1 h (t,I) (xR hI);simp only [sh] at hr;replace hr:=hr.1;simp only [eqB,NU fx,acB,adG] at hr;rw [hc] at hr;simp only [pZ,acB,adG,sh,IT] at hr;obtain ⟨⟨hk,hg⟩,hd⟩:=hr;cases Nt:iU P 20 t with
 |none=>simp [Nt] at hk
 |some ks=>
  simp only [Nt] at hk;have hk:=Mc hk;subst hk;have cells: ∀(v:Value) (s:Slot),aa e v s->cV I.lay (av s)=true->iu I.st s=true->(∃us,mV P t v us/\ai e us (av s))/\((∃b,v= .bool b)\/(∃cs,v= .agg cs)\/(∃k n,s= .sc (.p (.i k n)))\/ ∃l,s= .sc (.p (.s l))):=by
   intro v s hv hf hs;cases s<;>simp only [iu] at hs<;>try (cases hs;done)
   ·rename_i l;have cu:I.st=false:=by simpa using hs
    cases hu:P.underlying t with
    |none=>simp [hu] at hd
    |some d=>
     simp only [hu] at hd;cases d<;>simp only [cu,Bool.not_false,adH] at hd<;>try (cases hd;done)
     ·have hl:=df hd;rw [hl] at hf;simp only [av,cV] at hf;cases l<;>simp [jc] at hf;rename_i m;cases m<;>simp [jc] at hf;have:=yz hv;exact ⟨⟨[v],by simp [mV,hu],[v],[],rfl,hv,rfl⟩,.inl ⟨_,this⟩⟩
     ·have hl:=df hd;rw [hl] at hf;simp only [av,cV] at hf;cases l<;>simp [jc] at hf;rename_i m;cases m<;>simp [jc] at hf;exact ⟨⟨[v],by simp [mV,hu],[v],[],rfl,hv,rfl⟩,.inr (.inr (.inl ⟨_,_,rfl⟩))⟩
     ·have hl:=df hd;rw [hl] at hf;simp only [av,cV] at hf;cases l<;>simp [jc] at hf;rename_i m;cases m<;>simp [jc] at hf;exact ⟨⟨[v],by simp [mV,hu],[v],[],rfl,hv,rfl⟩,.inr (.inr (.inr ⟨_,rfl⟩))⟩
     ·split at hd;case h_2=>cases hd
      rename_i kk n hl;rw [hl] at hf;simp only [av,cV] at hf;cases l<;>simp [jc] at hf;rename_i k' n' x;obtain ⟨hv,hx⟩:=hv;exact ⟨⟨aX k' x,by simp [mV,hu,hv],aX k' x,[],by simp,⟨rfl,hx⟩,rfl⟩,.inr (.inl ⟨_,hv⟩)⟩
   ·rename_i cs;cases hu:P.underlying t with
    |none=>simp [hu] at hd
    |some d=>
     simp only [hu] at hd;cases d<;>simp only [hs,acB,Bool.false_and] at hd<;>try (cases hd;done)
     obtain ⟨arr,hv,jX⟩:=hv;exact ⟨⟨arr.toList,by simp [mV,hu,hv],jX⟩,.inr (.inl ⟨_,hv⟩)⟩
  obtain ⟨⟨us,wx,lx⟩,kx⟩:=cells vx sx rx fx Yr;obtain ⟨⟨vs,wy,ly⟩,ky⟩:=cells vy sy ry fy Ys;have ek:(aea t vx vy).run P w= .ok b w:=by have:=yR (P:=P) (w:=w) 20 t _ Nt 9980 vx vy us vs wx wy (EX lx fx) (EX ly fy);rw [Rb lx ly hb] at this;exact this
  refine ⟨ek,λx y op=> ?_⟩;have hxk:(∃b,vx= .bool b)\/ ∃cs,vx= .agg cs:=by
   rcases kx with h1|h1|⟨k,n,h1⟩|⟨l,h1⟩
   ·exact .inl h1
   ·exact .inr h1
   ·exfalso;subst h1;cases hu:P.underlying t with
    |none=>simp [hu] at hd
    |some d=>
     simp only [av] at fx fy hb;cases oJ:I.lay with
     |nil=>rw [oJ] at fx;simp [cV] at fx
     |cons k0 r0=>
      rw [oJ] at fx fy;simp only [cV] at fx;cases k0<;>simp [jc] at fx;obtain ⟨hk0,KJ⟩:=fx;have KJ:r0=[]:=by cases r0<;>simp [cV] at KJ;rfl
      subst KJ;cases sy<;>simp only [iu] at Yr Ys<;>try (cases Ys;done)
      ·rename_i l;simp only [av,cV] at fy;cases l<;>simp [jc] at fy;rename_i m;cases m<;>simp [jc] at fy;exact n1 _ _ _ _ rfl rfl
      ·rw [Ys] at Yr;cases Yr
   ·exfalso;subst h1;simp only [av] at fx fy hb;cases oJ:I.lay with
    |nil=>rw [oJ] at fx;simp [cV] at fx
    |cons k0 r0=>
     rw [oJ] at fx fy;simp only [cV] at fx;cases k0<;>simp [jc] at fx;have KJ:r0=[]:=by cases r0<;>simp [cV] at fx;rfl
     subst KJ;cases sy<;>simp only [iu] at Yr Ys<;>try (cases Ys;done)
     ·rename_i l;simp only [av,cV] at fy;cases l<;>simp [jc] at fy;rename_i m;cases m<;>simp [jc] at fy;exact n2 _ _ rfl rfl
     ·rw [Ys] at Yr;cases Yr
  refine ⟨?_,NV hxk op⟩;have XM:P.eqGuardType P.depth t=false:=hg;rcases hxk with ⟨bb,rfl⟩|⟨cs,rfl⟩
  ·cases op<;>rfl
  ·cases vy<;>cases op<;>first|rfl|(simp [eqGuard,XM])
end Dn
/-
  A program's types of maps, looked through. Conditions: none.
-/
namespace Dn
open Go
theorem GH {lay:List Kd}: ∀{ks:List MV},cf lay ks=true->eW (UB lay) (ks.flatMap xu):=by
 induction lay with
 |nil=>intro ks h;cases ks with|nil=>rfl|cons=>simp [cf] at h
 |cons k lay ih=>
  intro ks h;cases ks with
  |nil=>simp [cf] at h
  |cons m ks=>
   simp only [cf,sh] at h;have h2:=ih h.2;have h1:=h.1;cases k<;>cases m<;>simp only [vT] at h1<;>try (cases h1;done)
   ·exact ⟨_,_,rfl,rfl,h2⟩
   ·exact ⟨_,_,rfl,h1,h2⟩
   ·exact ⟨_,_,rfl,rfl,h2⟩
   ·rename_i k n k' n' x;simp only [sh,decide_eq_true_eq] at h1;obtain ⟨rfl,_,h1⟩:=h1;have:=(Bh k' x).append h2;rw [aQ h1] at this;exact this
theorem UC {lay:List Kd}: ∀{a b:List MV},cf lay a=true->cf lay b=true->gh (a.flatMap xu) (b.flatMap xu)=ei b a:=by
 induction lay with
 |nil=>intro a b ha hb;cases a<;>cases b<;>simp [cf] at ha hb;rfl
 |cons k lay ih=>
  intro a b ha hb;cases a with
  |nil=>simp [cf] at ha
  |cons x a=>
   cases b with
   |nil=>simp [cf] at hb
   |cons y b=>
    simp only [cf,sh] at ha hb;have ih:=ih ha.2 hb.2;have h1:=ha.1;have h2:=hb.1;cases k<;>cases x<;>simp only [vT] at h1<;>try (cases h1;done)
    all_goals cases y<;>simp only [vT] at h2<;>try (cases h2;done)
    ·rename_i p q;simp only [aca,xu,aas,aaW,gh,Ra,ei,Dv,ih];congr 1;rw [decide_eq_decide];exact eq_comm
    ·rename_i k1 p k2 q;have e1:=of_decide_eq_true h1;have e2:=of_decide_eq_true h2;subst e1;subst e2;simp only [aca,xu,aas,aaW,gh,Ra,ei,Dv,ih,decide_true,adH];congr 1;rw [decide_eq_decide];exact eq_comm
    ·rename_i p q;simp only [aca,xu,aas,aaW,gh,Ra,ei,Dv,ih];congr 1;rw [decide_eq_decide];simp [eq_comm]
    ·rename_i k n k1 n1 p k2 n2 q;simp only [sh,decide_eq_true_eq] at h1 h2;obtain ⟨rfl,e1,e2⟩:=h1;obtain ⟨rfl,e3,e4⟩:=h2;have e1:=aQ e1;have e2:=aQ e2;have e3:=aQ e3;have e4:=aQ e4;subst e1;subst e3;simp only [aca,xu,ei,Dv,decide_true,Nat.beq_refl,adH];rw [nA (by rw [bC,bC];omega),EW _ _ _ (by omega),ih];congr 1;rw [decide_eq_decide];exact eq_comm
def xS:TypeDesc->Bool
 | .bool| .int _| .string=>true
 |_=>false
def abJ (P:Program)(n:Nat)(fs:List Field):Bool:=fs.all λf=>(match P.underlying f.type with|some d=>xS d|none=>false)&&abe (f.offset+1) n
def WI (P:Program)(kt:Nat)(I:TI):Bool:=match P.underlying kt with
 |some .bool=>!I.st&&jd I.lay .b
 |some (.int k)=>!I.st&&jd I.lay (.i k)
 |some .string=>!I.st&&jd I.lay .s
 |some (.struct fs)=>I.st&&(match iU P 20 kt with|some ks=>zt ks (UB I.lay)|none=>false)&&abJ P (UB I.lay).length fs.toList
 |_=>false
def WJ (b:Bool):Option Value->Bool
 |some (.bool false)=>b
 |some (.int .i64 n)=>!b&&decide (n=0)
 |_=>false
def abK (P:Program)(ti:Nat->Option TI)(t kt:Nat)(b:Bool):Bool:=match P.underlying t with
 |some (.map kt' el)=>By kt' kt&&(match P.info? el with|some i=>WJ b i.zero|none=>false)&&(match ti kt with|some I=>pZ I.bB&&WI P kt I|none=>false)
 |_=>false
def uM:List (Nat×(Nat×Bool))->Nat->Option (Nat×Bool)
 |[],_=>none
 |(k,s)::r,t=>bif By k t then some s else uM r t
theorem NX {l:List (Nat×(Nat×Bool))}{t:Nat}{I:Nat×Bool}(h:uM l t=some I):(t,I)∈l:=by
 induction l with
 |nil=>simp [uM] at h
 |cons p l ih=>
  obtain ⟨k,s⟩:=p;simp only [uM,cY] at h;by_cases hk:k=t
  ·subst hk;simp at h;subst h;simp
  ·simp only [hk,decide_false,cond_false] at h;exact abw _ (ih h)
def UD (P:Program)(ti:Nat->Option TI)(l:List (Nat×(Nat×Bool))):Bool:=l.all λp=>abK P ti p.1 p.2.1 p.2.2
theorem tD {k:Kd}{ks:List MV}(h:cf [k] ks=true): ∃m,ks=[m]/\vT k m=true:=by
 cases ks with
 |nil=>simp [cf] at h
 |cons m r=>
  cases r with
  |cons=>simp [cf] at h
  |nil=>exact ⟨m,rfl,by simpa [cf] using h⟩
theorem fb {P:Program}{t:TypeId}{d:TypeDesc}(hu:P.underlying t=some d)(hd:xS d=true)(em:Bool)(n:Nat)(v:Value)(w:World):(adY em (n+1) t v).run P w= .ok () w:=by rw [adY];simp only [ab9,run_underlying hu,Result.andThen];cases d<;>simp [xS] at hd<;>cases v<;>rfl
theorem Bj {P:Program}{t:TypeId}{d:TypeDesc}(hu:P.underlying t=some d)(hd:xS d=true){xs:Array Value}{off:Nat}(h:off<xs.size)(w:World):(aep t xs off).run P w= .ok xs[off] w:=by cases d<;>simp [xS] at hd<;>simp [aep,isAgg,run_underlying hu,h]
theorem Bk {P:Program}{c:Ctx}{l:List (Nat×(Nat×Bool))}(h:UD P c.ti l=true)(hm: ∀t p,c.mt t=some p->uM l t=some p):rR P c:=by
 intro t s hs;unfold oz at hs;cases JX:c.mt t with
 |none=>simp [JX] at hs
 |some p=>
  obtain ⟨kt,b⟩:=p;simp only [JX] at hs;cases hI:c.tv kt with
  |none=>simp [hI] at hs
  |some I=>
   simp only [hI] at hs;cases hit:zp ⟨I.st,I.lay,b⟩ with
   |true=>simp [hit] at hs
   |false=>
   simp only [hit,cond_false,AS] at hs;subst hs;obtain ⟨DE,Hw⟩:=aD hI;have hb:=OF.1 h _ (NX (hm t _ JX));simp only [abK] at hb;split at hb
   ·rename_i kt' el hu;simp only [sh] at hb;obtain ⟨⟨np,lp⟩,Ud⟩:=hb;have np:=aQ np;subst np;split at lp
    ·rename_i inf afu;rw [DE] at Ud;simp only [sh] at Ud;have hk:=Ud.2;have hz: ∀w:World,(zeroValue el).run P w= .ok (uh b (ej b)) w:=by
      intro w;have:inf.zero=some (uh b (ej b)):=by
       generalize inf.zero=z at lp;unfold WJ at lp;split at lp
       ·subst lp;rfl
       ·simp only [sh,IT] at lp;obtain ⟨h1,h2⟩:=lp;subst h1;rw [of_decide_eq_true h2];rfl
       ·cases lp
      simp [zeroValue,typeInfo,afu,this]
     unfold WI at hk;refine ⟨kt',el,hu,hz,?_⟩;split at hk
     ·rename_i hd;simp only [sh,IT] at hk;have hl:=df hk.2;refine ⟨λem ks w hf=>fb hd rfl em 9999 _ w,_,hd,.inl λa b' ha zB=> ?_⟩;rw [hl] at ha zB;obtain ⟨x,rfl,hx⟩:=tD ha;obtain ⟨y,rfl,hy⟩:=tD zB;cases x<;>simp [vT] at hx;cases y<;>simp [vT] at hy;rename_i p q;simp only [hk.1,dk,ad5,ei,Dv,acA];congr 1;rw [adR];simp only [beq_iff_eq,decide_eq_true_eq];exact eq_comm
     ·rename_i k hd;simp only [sh,IT] at hk;have hl:=df hk.2;refine ⟨λem ks w hf=>fb hd rfl em 9999 _ w,_,hd,.inl λa b' ha zB=> ?_⟩;rw [hl] at ha zB;obtain ⟨x,rfl,hx⟩:=tD ha;obtain ⟨y,rfl,hy⟩:=tD zB;cases x<;>simp [vT] at hx;cases y<;>simp [vT] at hy;subst hx;subst hy;rename_i p q;simp only [hk.1,dk,ad5,ei,Dv,acA,if_true,decide_true,adH];congr 1;rw [adR];simp only [beq_iff_eq,decide_eq_true_eq];exact eq_comm
     ·rename_i hd;simp only [sh,IT] at hk;have hl:=df hk.2;refine ⟨λem ks w hf=>fb hd rfl em 9999 _ w,_,hd,.inl λa b' ha zB=> ?_⟩;rw [hl] at ha zB;obtain ⟨x,rfl,hx⟩:=tD ha;obtain ⟨y,rfl,hy⟩:=tD zB;cases x<;>simp [vT] at hx;cases y<;>simp [vT] at hy;rename_i p q;simp only [hk.1,dk,ad5,ei,Dv,acA];congr 1;rw [beq_toListBytes,ad3,ad3,adR];simp only [beq_iff_eq,decide_eq_true_eq,List.toList_toArray];exact eq_comm
     ·rename_i fs hd;simp only [sh] at hk;obtain ⟨⟨cu,WD⟩,QN⟩:=hk;split at WD
      ·rename_i ks Nt;have WD:=Mc WD;subst WD;have hkv: ∀q,dk true q= .agg (q.flatMap xu).toArray:=by intro q;rfl
       refine ⟨λem q w hf=> ?_,_,hd,.inr λx y hx hy=>⟨?_,λw=> ?_⟩⟩
       ·have hlen:(q.flatMap xu).length=(UB I.lay).length:=(GH hf).length;rw [cu,hkv,show (10000:Nat)=9999+1 from rfl,adY];simp only [ab9,run_underlying hd,abv];rw [<-Array.forIn_toList];have each: ∀f∈fs.toList,(∃d,P.underlying f.type=some d/\xS d=true)/\f.offset<(q.flatMap xu).toArray.size:=by
         intro f hf;have:=OF.1 QN f hf;simp only [sh] at this;obtain ⟨h1,h2⟩:=this;split at h1
         ·rename_i d hd;exact ⟨⟨d,hd,h1⟩,by have:=aab h2;simp only [aak];omega⟩
         ·cases h1
        clear QN;generalize fs.toList=L at each;generalize (q.flatMap xu).toArray=xs at each;induction L with
        |nil=>simp
        |cons f L ih=>
         obtain ⟨⟨d,h1,h2⟩,h3⟩:=each f (by simp);have np:=fb h1 h2 em 9998 xs[f.offset] w;have lp:=Bj (P:=P) h1 h2 h3 w
         by_cases hn:f.name= "_"
         ·simp only [List.forIn_cons,ab9,hn,ne_eq,not_true_eq_false,if_false,abv,aeu];exact ih (λy hy=>each y (by simp [hy]))
         ·simp only [List.forIn_cons,ab9,hn,ne_eq,not_false_eq_true,if_true,abv,np,lp,aeu];exact ih (λy hy=>each y (by simp [hy]))
       ·rw [cu,hkv,hkv];rfl
       ·rw [cu,hkv,hkv];have:=yR (P:=P) (w:=w) 20 kt' _ Nt 9980 (.agg (x.flatMap xu).toArray) (.agg (y.flatMap xu).toArray) (x.flatMap xu) (y.flatMap xu) (by simp [mV,hd]) (by simp [mV,hd]) (GH hx) (GH hy);rw [UC hx hy] at this;exact this
      ·cases WD
     ·cases hk
    ·cases lp
   ·cases hb
end Dn
/-
  Functions that are handed a variable do what their abstract run says. Conditions: none.
-/
namespace Dn
open Go
section
variable {P:Program}{c:Ctx}{Z:aO} {e e':Env}{st bm:St} {a a':Act} {w w':World}{R:Type}{r:R}
theorem NY {rs:List ResultVar}(hT:dt P c.ti): ∀{e:Env} {st:St} {K:List MV->St->Option R},bg c Z e st a w->Nd c st rs K=some r-> ∃e' bm ms vs,bg c Z e' bm a w/\Ext Z.In e e'/\(rs.mapM (dc a.tmps)).run P w= .ok vs w/\aE e'.key e'.φ vs ms/\K ms bm=some r:=by
 induction rs with
 |nil=>intro e st K h hK;exact ⟨e,st,[],[],h,.refl _ _,by simp,rfl,hK⟩
 |cons x rs ih=>
  intro e st K h hK;have go: ∀(s:Slot) (v:Value),aa e v s->(dc a.tmps x).run P w= .ok v w->(gm st s λm st=>Nd c st rs λms st=>K (m::ms) st)=some r-> ∃e' bm ms vs,bg c Z e' bm a w/\Ext Z.In e e'/\((x::rs).mapM (dc a.tmps)).run P w= .ok vs w/\aE e'.key e'.φ vs ms/\K ms bm=some r:=by
   intro s v hs aV hK;obtain ⟨e1,aT,m,h1,h2,h3,h4,hK⟩:=gu h hs hK;obtain ⟨e2,cK,ms,vs,q1,q2,q3,q4,hK⟩:=ih h1 hK;refine ⟨e2,cK,m::ms,v::vs,q1,h2.trans q2,?_,⟨v,vs,rfl,?_,q4⟩,hK⟩
   ·simp [ab0,aV,q3]
   ·have:=h4.mono q2.on.φ;rw [<-q2.on.key] at this;exact this
  simp only [Nd] at hK;cases x with
  |tmp t=>
   simp only at hK;have hs:=h.slot t;by_cases hb: ∃cs,ah st.fr t= .box cs
   ·obtain ⟨cs,hb⟩:=hb;rw [hb] at hK;simp [gm] at hK
   ·refine go (ah st.fr t) (a.tmps.getD t undef) ?_ rfl hK;generalize ah st.fr t=s at hs hb;cases s<;>first|exact hs|exact absurd ⟨_,rfl⟩ hb
  |cell b t=>
   simp only at hK;have hs:=h.slot b;split at hK
   ·rename_i I cs hI hb;obtain ⟨DE,Hw⟩:=aD hI;rw [hb] at hs;obtain ⟨hv,vX⟩:=hs;cases rX:cR cs||ru b with
    |true=>simp [rX] at hK
    |false=>
    obtain ⟨nj,Ym⟩:=aam.1 rX;simp only [rX,cond_false] at hK;have hv:=hv.1 Ym;rw [lY nj] at hv;obtain ⟨arr,T,bH,jX⟩:=vX.cells nj;have hm:w.rangeAt (e.B b) 0 arr.toList:=by intro j v hj;rw [ab1,cell_of bH];simpa using hj
    obtain ⟨v,s,h1,h2,h3,h4⟩:=dZ (P:=P) (st:=st) (s:= .skip) (hT t I DE) Hw jX hm hK;refine go s v h2 ?_ h4;simpa [dc,hv,asAddr,adO,adC] using h1 w hm
   ·simp at hK
theorem Bl {key:Nat->Nat} {φ:Ph}{v:Value}{m:MV}(h:bN key φ v (.cell m)):False:=by have:=h.1;simp [MV.one] at this
theorem abM (off pos:Nat):ru (1000000+off *1000+pos)=true:=adU (by omega)
theorem Re {f pos:Nat}{ks ko:List LK}{fn:Func}{aS:List (List Kd)}{ms:List MV}{m:MV}(hG:Good P c)(hD:Iq P c)(hf:P.funcs[f]? =some fn)(oR:(fn.name== "runtime.NumGoroutine")=false)
 (hn:c.n=fn.ntmps) (hnp:fn.ntmps<=1000000) (jT:fn.params.size+aS.length<=fn.ntmps) (hg:c.bQ (c.key f)=true) (nX:c.sig (c.key f)=some (pos,ks,ko)) (hb:AA c aS pos ks ko fn ms=some m):cq P c f ms m:=by
 intro φ w Z vs hz bZ du;unfold AA at hb;cases b9:fn.body with
 |none=>simp [b9] at hb
 |some b=>
 simp only [b9] at hb;split at hb;rotate_left
 ·simp at hb
 rename_i b' off ls zB rX;cases zB;cases im:!dE c ks||!dE c ko||!abe pos 999 with
 |true=>simp [im] at hb
 |false=>
 simp only [im,cond_false] at hb;simp only [aam,ad6] at im;obtain ⟨⟨_,dU⟩,cU⟩:=im;have cU:=aab cU;simp only [bO,hg,if_true] at bZ;have hC:Wy c Z φ w (c.key f) vs ms:=by
  rcases bZ with ⟨v0,v1,v2,xs,m1,ys,_,rfl,_,h4,_⟩|⟨v0,v1,v2,xs,m1,m2,_,rfl,_,_,h4,h5⟩|h
  ·exfalso;rcases pos with _|_|_|pos<;>simp at rX;subst rX;exact Bl h4
  ·exfalso;rcases pos with _|_|_|pos<;>simp at rX
   ·subst rX;exact Bl h4
   ·subst rX;exact Bl h5
  ·exact h
 obtain ⟨pos',ks',ko',HM,qL,aA,oq,Z7,Yt,oS,jj⟩:=hC;rw [nX] at oq;simp only [AS,aa1] at oq;obtain ⟨rfl,rfl,rfl⟩:=oq;rw [rX] at Yt;simp only [AS,MV.cell.injEq,MV.func.injEq] at Yt;obtain ⟨rfl,rfl⟩:=Yt;obtain ⟨cs,mm,E,arr,T,rW,bH,hzb,jn,jX,db,cS⟩:=jj;let e:Env:=⟨c.key,φ,E,λ_=>aA,mm⟩
 have aV:(callFunc f vs.toArray).run P w= .ok (.enter f vs.toArray) w:=by
  have zC: ¬fn.name= "runtime.NumGoroutine" :=by simpa using oR
  simp [callFunc,hf,zC,b9]
 unfold cn;rw [aV];refine calls_of_wp hf b9 ?_;have oS:aE e.key e.φ vs (ms.set pos (.rp [])):=oS;obtain ⟨fr,rest,nT,r9,hb,rfl,l1,a2,k1,s1⟩:=r8 oS hb;obtain ⟨j8,hb,l2,k2,s2⟩:=ES a2 hb;simp only [pN] at hb;obtain ⟨dj,abN,tj,g1,hb⟩:=eV hb;cases abN with
 |cons=>simp [gN] at hb
 |nil=>
 simp only [gN] at hb;have ek:cs=dj/\mm=tj.az:=by unfold EG at rW;rw [g1] at rW;simp only [gN,AS,aa1] at rW;exact ⟨rW.1.symm,rW.2.symm⟩
 obtain ⟨rfl,ZT⟩:=ek;rw [<-ZT] at hb;have htn:(nT++r9).toArray.size=fn.params.size+aS.length:=by simp [l1,l2]
 let a:Act:={tmps:=(nT++r9).toArray++BY (fn.ntmps-(nT++r9).toArray.size) undef,defers:=[]}
 have DI: ∀(t:Nat) (v:Value),(nT++r9)[t]? =some v->a.tmps.getD t undef=v:=by intro t v ht;have cz:t<(nT++r9).length:=(aan.1 ht).1;rw [aal];show (((nT++r9).toArray++BY _ undef)[t]?).getD undef=v;rw [abC (by simpa using cz)];simp only [acx];rw [ht];rfl
 have sb: ∀t,b8 (ah (fr++j8) t)=false/\(∀cs,ah (fr++j8) t≠ .box cs)/\aa e (a.tmps.getD t undef) (ah (fr++j8) t):=by
  intro t;rw [rG];by_cases h1:t∈ax fr
  ·simp only [h1,if_true];obtain ⟨g1,g2,v,g3,g4⟩:=s1 _ (sa h1);refine ⟨g1,?_,?_⟩
   ·intro cs hc;simp only [hc,bP] at g2;cases g2
   ·rw [DI t v ?_];exact g4;have cz:t<nT.length:=(aan.1 g3).1;rw [abI cz];exact g3
  ·simp only [h1,if_false];by_cases h2:t∈ax j8
   ·obtain ⟨g1,g2,v,g3,g4⟩:=s2 _ (sa h2);refine ⟨g1,g2,?_⟩;rw [DI t v ?_];exact g4;have hk:=h2;rw [k2,aaP] at hk;obtain ⟨i,hi,he⟩:=hk;have q9:fn.params.size=nT.length:=by rw [l1];simp
    rw [aaf (by omega),<-q9];exact g3
   ·rw [j9 _ _ h2];exact ⟨rfl,λcs hc=>(by cases hc),by simp [aa]⟩
 obtain ⟨q,hq⟩: ∃q,q=1000000+off *1000+pos:=⟨_,rfl⟩
 have KN:ru q=true:=by rw [hq];exact abM off pos
 have hpo:posOf q=pos:=by rw [hq];unfold posOf;omega
 have hof:HF q=off:=by rw [hq];unfold HF;omega
 rw [<-hq] at hb;let Zc:aO:={aO.plain Z with bI:=[pos],T:=λ_=> .pointer (some ⟨aA,off,none⟩)}
 have abO:a.tmps.getD pos undef= .pointer (some ⟨aA,off,none⟩):=DI pos _ Z7;have Ii: ∀t,ah ((q,Slot.box cs)::(fr++j8)) t=if t=q then .box cs else ah (fr++j8) t:=by
  intro t;simp only [ah,cY];by_cases NZ:t=q
  ·subst NZ;simp
  ·have: ¬q=t:=λh=>NZ h.symm;simp [NZ,this]
 have abP:ax (fr++j8)=abZ 0 (fn.params.toList.length+aS.length):=by
  have:ax (fr++j8)=ax fr++ax j8:=by simp [ax]
  rw [this,k1,k2];have:=adW (s:=0) (m:=fn.params.toList.length) (n:=aS.length);simpa using this
 have WK: ∀t ds,ah ((q,Slot.box cs)::(fr++j8)) t= .box ds->t=q:=by
  intro t ds ht;rw [Ii] at ht;by_cases NZ:t=q
  ·exact NZ
  ·rw [if_neg NZ] at ht;exact absurd ht ((sb t).2.1 ds)
 have gx:bg c Zc e ⟨[pos],[],(q,.box cs)::(fr++j8),mm⟩ a w:=by
  refine ⟨⟨rfl,rfl,rfl,λt ht=> ?_⟩,?_,rfl,rfl,?_,?_,?_,λf o ho=> ?_,λt t' cs dj h1 h2 cg=> ?_,λt ds f o h1 ho=> ?_,λf f' o o' k h1 h2 h3 h4=>cS f f' o o' k h1 h2 h3 h4,du,hz⟩
  ·have:t=pos:=by simpa [Zc] using ht
   rw [this];exact abO
  ·show ((nT++r9).toArray++BY (fn.ntmps-(nT++r9).toArray.size) undef).size=c.n;rw [ab5,acC,htn,hn];omega
  ·show (ax ((q,Slot.box cs)::(fr++j8))).Nodup;show (q::ax (fr++j8)).Nodup;rw [abP];refine aaw.2 ⟨λhm=> ?_,adE⟩;rw [aaP] at hm;obtain ⟨i,hi,he⟩:=hm;have:fn.params.toList.length=fn.params.size:=by simp
   omega
  ·intro t;show bk Zc e w t _ (ah ((q,Slot.box cs)::(fr++j8)) t);rw [Ii];by_cases NZ:t=q
   ·rw [if_pos NZ,NZ];exact ⟨⟨λhp=>(by rw [KN] at hp;cases hp),λ_=>⟨by rw [hpo];simp [Zc],by rw [hof]⟩⟩,⟨.inr hzb,⟨_,bH,rfl,jX⟩,jn⟩⟩
   ·rw [if_neg NZ];obtain ⟨g1,g2,g3⟩:=sb t;generalize ah (fr++j8) t=s at g1 g2 g3;cases s<;>first|exact g3|exact absurd rfl (g2 _)
  ·intro t;show bK _ (ah ((q,Slot.box cs)::(fr++j8)) t);rw [Ii];by_cases NZ:t=q
   ·rw [if_pos NZ];trivial
   ·rw [if_neg NZ];exact lN (sb t).1
  ·obtain ⟨I,cells,q1,q2,q3,q4,q5⟩:=(db f o ho).1.row;exact ⟨I,cells,q1,q2,q3,q4,λb hb=>⟨.inr (q5 b hb).1,(q5 b hb).2.1,λhc=>by simp [Zc,aO.fz,aO.plain] at hc⟩⟩
  ·exact absurd ((WK t _ h1).trans (WK t' _ h2).symm) cg
  ·exact (db f o ho).2
 refine GB hG hD b gx hb ?_;intro n e' bm a' w' h' t' hK;cases hle:abe n 1 with
 |false=>simp [hle] at hK
 |true=>
  simp only [hle,cond_true] at hK;obtain ⟨e2,cK,ns,us,q1,q2,q3,q4,hK⟩:=NY (P:=P) hG.ti h' hK;split at hK;rotate_left
  ·simp at hK
  rename_i DB uI;cases Kt:cR DB with
  |true=>simp [Kt] at hK
  |false=>
  simp only [Kt,cond_false] at hK;obtain ⟨outs,ps,ht,hK⟩:=vg hK;simp only [AS] at hK;have jt:(results fn a'.tmps).run P w'= .ok (if h:us.toArray.size=1 then us.toArray[0] else .tuple us.toArray) w':=by
   have hm:(fn.results.mapM (dc a'.tmps)).run P w'= .ok us.toArray w':=by rw [adD];simp [q3]
   have Kt:results fn a'.tmps=(do let vs<-fn.results.mapM (dc a'.tmps);pure (if h:vs.size=1 then vs[0] else .tuple vs)):=by unfold results;congr 1
   rw [Kt];simp [hm]
  have abQ:=q1.slot q;rw [uI] at abQ;obtain ⟨_,hT⟩:=abQ.1.2 KN;have hB:e2.B q=aA:=by have hT:abL (some ⟨aA,off,none⟩)= .pointer (some ⟨e2.B q,HF q,none⟩):=hT;simp only [aeD,AS,Addr.mk.injEq] at hT;exact hT.1.symm
  have abR:aP cK.bI q=false:=by
   rw [q1.defers.2.1];cases hh:aP Zc.bI q with
   |false=>rfl
   |true=>
    have:=(aN _ _).1 hh;have:q=pos:=by simpa [Zc] using this
    omega
  have hco:=(AX q1 uI Kt dU ht).wide (wb q1 uI abR ht);have LY:e2.key=c.key:=q1.key;have Is: ∃φ',Trans Z φ w φ' w'/\iA φ' w'/\mf c Z φ' w' (c.key f) (nT++r9) (if h:us.toArray.size=1 then us.toArray[0] else .tuple us.toArray) m:=by
   refine ⟨e2.φ,t'.trans q2.tr,q1.fB,?_⟩;rw [LY] at q4;subst hK;refine ⟨?_,pos,ks,ko,aA,off,nX,Z7,by rw [<-hB];exact hco⟩;by_cases QC: ∃m',ns=[m']
   ·obtain ⟨m',rfl⟩:=QC;obtain ⟨v,u,rfl,g1,g2⟩:=q4;have g2:u=[]:=g2;subst g2;simp only [aak,acv,dite_true];cases m'<;>first|exact g1|exact absurd g1.1 (by simp [MV.one])
   ·have hm:aaC ns= .cG ns:=by
     cases ns with
     |nil=>rfl
     |cons x l=>
      cases l with
      |nil=>exact absurd ⟨x,rfl⟩ QC
      |cons=>rfl
    have cg:us.toArray.size≠1:=by intro h1;have:=q4.length;rw [aak] at h1;rw [h1] at this;obtain ⟨m1,h2⟩:=List.length_eq_one_iff.1 this.symm;exact QC ⟨m1,h2⟩
    rw [hm,dif_neg cg];exact AQ.args (by simpa using q4)
  match n,hle with
  |0,_=>exact ⟨h'.defers.1,_,jt,_,rfl,Is⟩
  |1,_=>exact ⟨h'.defers.1,_,jt,_,rfl,Is⟩
  |n+2,hle=>simp [abe] at hle
end
end Dn
/-
  Operations whose order is open. Conditions: none.
-/
namespace Dn
open Go
section
variable {P:Program}{c:Ctx}{ops:Array Oper}{N:Act->World->Prop}
def jB (N:Act->World->Prop):Exit->Act->World->Prop
 | .normal,a,w=>N a w
 |_,_,_=>False
def ke (c:Ctx)(oi:Oper)(ops:Array Oper)(i:Nat):Bool:=match ops[i]? with|some o=>Dy c o||lT oi o|none=>true
def rc (P:Program)(c:Ctx)(ops:Array Oper)(N:Act->World->Prop) (φ:Ph):Nat->Array Bool->Act->World->Prop
 |0,listed,a,w=>IN .any ops listed=[]/\N a w
 |fuel+1,listed,a,w=>(IN .any ops listed=[]->N a w)/\ ∀i∈IN .any ops listed,wpOp P ops (jB N) i (λa' w'=>((∀oi,ke c oi ops i=true->cO c oi w w')/\iA φ w')/\rc P c ops N φ fuel (listed.setIfInBounds i true) a' w') a w
theorem N0 {φ φ':Ph}(hp:dJ φ φ'): ∀(fuel:Nat) (listed:Array Bool) (a:Act) (w:World),rc P c ops N φ' fuel listed a w->rc P c ops N φ fuel listed a w:=by
 intro fuel;induction fuel with
 |zero=>intro listed a w h;exact h
 |succ fuel ih=>intro listed a w h;exact ⟨h.1,λi hi=>wpOp_mono (λa w h=>⟨⟨h.1.1,λb o v hv=>h.1.2 b o v (hp b o v hv)⟩,ih _ _ _ h.2⟩) (h.2 i hi)⟩
theorem Iy {φ:Ph}: ∀(fuel:Nat) (listed:Array Bool) (a:Act) (w:World),rc P c ops N φ fuel listed a w->wpAny P .any ops (jB N) fuel listed a w:=by
 intro fuel;induction fuel with
 |zero=>intro listed a w h;exact h
 |succ fuel ih=>intro listed a w h;exact ⟨h.1,λi hi=>wpOp_mono (λa w h=>ih _ _ _ h.2) (h.2 i hi)⟩
theorem KU {oi oj p:Oper} {w w':World}(h1:lT oi p=true)(h2:lT oj p=true)(h:cO c oi w w'):cO c oj w w':=by
 unfold lT at h1 h2;split at h1
 ·rename_i t t' g1 g2;split at h2
  ·rename_i u u' g3 g4;rw [g2] at g4;cases g4;have e1:=aQ h1;have e2:=aQ h2;subst e1;subst e2;simpa [cO,KL,g1,g3] using h
  ·cases h2
 ·cases h1
theorem Yu {j:Nat}{oi oj:Oper}{v:Value}(hj:ops[j]? =some oj)(ou:oi.apart ops oj=true)(hsi: ∀cs b,oi.op≠ .select cs b)(hsj: ∀cs b,oj.op≠ .select cs b){K:Act->World->Prop}{a:Act}{w:World}(h:wpOp P ops (jB N) j K (a.put oi.dst v) w): wpOp P ops (jB N) j (λa' w'=>(execOp a'.eval oi=execOp a.eval oi/\aae oi (yielded ops a'.tmps)=aae oi (yielded ops a.tmps))/\K (a'.put oi.dst v) w') a w:=by
 obtain ⟨h1,h2,h3⟩:=adS ou;have keep: ∀(a:Act) (u:Value),execOp (a.put oj.dst u).eval oi=execOp a.eval oi/\aae oi (yielded ops (a.put oj.dst u).tmps)=aae oi (yielded ops a.tmps):=λa u=>⟨execOp_put oi hsi a oj.dst u h3,wanted_put oi a oj.dst u h3⟩
 unfold wpOp at *;simp only [hj] at *;rw [wanted_put oj a oi.dst v h1] at h;split
 ·rename_i hw;simp only [hw,if_true] at h;rcases h with h|⟨abS,Rf⟩;case inr=>obtain ⟨_,_,hf⟩:=Rf;exact hf.elim
  refine .inl ?_;unfold ad2 at *;rw [execOp_put oj hsj a oi.dst v h1] at h;generalize (execOp a.eval oj).run P w=r at *;cases r with
  |ok n w'=>
   cases n<;>simp only [adM] at h⊢;case value u=>exact ⟨keep a u,by rw [<-aao a v u h2];exact h⟩
   case skip=>exact ⟨keep a _,by rw [<-aao a v undef h2];exact h⟩
   case defer d=>refine ⟨keep _ _,?_⟩;rw [<-aao _ v undef h2,<-Act.put_defers];exact h
   case enter f args=>
    refine Calls.mono h λx tp he=> ?_;cases x with
    |returned u=>exact ⟨keep a u,by rw [<-aao a v u h2];exact he⟩
    |panicked c=>exact he
    |outgrown=>exact he
   case row row args=>exact Rows.mono h λu tp he=>⟨keep a u,by rw [<-aao a v u h2];exact he⟩
  |halt x w'=>cases x<;>simp only [adM] at h⊢;case panic u=>exact h
 ·rename_i hw;simp only [hw] at h;exact ⟨keep a _,by rw [<-aao a v undef h2];exact h⟩
def Md (P:Program)(c:Ctx)(ops:Array Oper) (φ:Ph)(o:Oper)(v:Value)(a:Act)(w:World):Prop:=(aae o (yielded ops a.tmps)=true/\ ∀w',(eE c o=true->(still c o=false->cO c o w w')/\iA φ w')->(execOp a.eval o).run P w'= .ok (.value v) w')\/ (aae o (yielded ops a.tmps)=false/\v=undef)
theorem p0 {φ:Ph}{i:Nat}{oi:Oper}{v:Value}{D:List Nat}(hD: ∀j oj,j∈D->j≠i->ops[j]? =some oj-> ∃e∈oj.after,abH .any e=true/\e.on∈D)(hi:ops[i]? =some oi)(DQ: ∀(j:Nat)(o:Oper) cs b,ops[j]? =some o->o.op≠ .select cs b): ∀(fuel:Nat) (listed:Array Bool) (a:Act) (w:World),(∀j oj,ops[j]? =some oj->j∉D->j≠i->listed.getD j true=false->oi.apart ops oj=true/\(eE c oi=true->still c oi=false->ke c oi ops j=true))->(∀d∈D,listed.getD d false=false)-> i∈IN .any ops listed->Md P c ops φ oi v a w->iA φ w-> rc P c ops N φ fuel (listed.setIfInBounds i true) (a.put oi.dst v) w->rc P c ops N φ (fuel+1) listed a w:=by
 have self: ∀(fuel:Nat) (listed:Array Bool) (a:Act) (w:World),Md P c ops φ oi v a w->iA φ w->rc P c ops N φ fuel (listed.setIfInBounds i true) (a.put oi.dst v) w-> wpOp P ops (jB N) i (λa' w'=>((∀oi,ke c oi ops i=true->cO c oi w w')/\iA φ w')/\rc P c ops N φ fuel (listed.setIfInBounds i true) a' w') a w:=by
  intro fuel listed a w hy hm H;unfold wpOp;simp only [hi];rcases hy with ⟨hw,hv⟩|⟨hw,rfl⟩
  ·simp only [hw,if_true,ad2,hv w (λ_=>⟨λ_=>(bX.refl w).for,hm⟩),adM];exact .inl ⟨⟨λ_ _=>(bX.refl w).for,hm⟩,H⟩
  ·simp only [hw,No,if_false];exact ⟨⟨λ_ _=>(bX.refl w).for,hm⟩,H⟩
 intro fuel;induction fuel with
 |zero=>
  intro listed a w _ _ hr hy hm H;refine ⟨λh=>(by rw [h] at hr;cases hr),λj hj=> ?_⟩;by_cases Rg:j=i
  ·subst Rg;exact self 0 listed a w hy hm H
  ·have:=ready_mono hj Rg;rw [H.1] at this;cases this
 |succ fuel ih=>
  intro listed a w jn zJ hr hy hm H;refine ⟨λh=>(by rw [h] at hr;cases hr),λj hj=> ?_⟩;by_cases Rg:j=i
  ·subst Rg;exact self (fuel+1) listed a w hy hm H
  ·have h1:=H.2 j (ready_mono hj Rg);obtain ⟨Iz,oj,KV,rL⟩:=mem_ready.1 hj;have WL:j∉D:=by intro hjd;obtain ⟨e,he,hb,lu⟩:=hD j oj hjd Rg KV;have h1:=rL e he hb;rw [zJ e.on lu] at h1;cases h1
   obtain ⟨ou,JW⟩:=jn j oj KV WL Rg Iz;have h2:=Yu KV ou (λcs b=>DQ i oi cs b hi) (λcs b=>DQ j oj cs b KV) h1;have abT: ∀d∈D,(listed.setIfInBounds j true).getD d false=false:=by intro d hd;rw [getD_set_ne false (λhe=>WL (by rw [he];exact hd))];exact zJ d hd
   have Yv: ∀k ok,ops[k]? =some ok->k∉D->k≠i->(listed.setIfInBounds j true).getD k true=false->oi.apart ops ok=true/\(eE c oi=true->still c oi=false->ke c oi ops k=true):=λk ok hk hkD hki Ux=>by
    refine jn k ok hk hkD hki ?_;by_cases hjk:j=k
    ·subst hjk;exact Iz
    ·rw [getD_set_ne true hjk] at Ux;exact Ux
   refine wpOp_mono (λa' w' h3=>⟨h3.2.1,ih (listed.setIfInBounds j true) a' w' Yv abT (ready_mono hr (aew Rg)) ?_ h3.2.1.2 ?_⟩) h2
   ·obtain ⟨⟨he,Yw⟩,⟨hg,_⟩,_⟩:=h3;rcases hy with ⟨hw,hv⟩|⟨hw,rfl⟩
    ·refine .inl ⟨by rw [Yw];exact hw,λtp LX=> ?_⟩;rw [he];exact hv tp (λhl=>⟨λhs=>(hg oi (JW hl hs)).trans ((LX hl).1 hs),(LX hl).2⟩)
    ·exact .inr ⟨by rw [Yw];exact hw,rfl⟩
   ·rw [adI _ _ Rg];exact h3.2.2
variable {Z:aO}{R:Type}{K:St->Option R}{r:R}
theorem N1 (op:Op):Kk op=op.operands.toList:=by
 cases op<;>first|rfl|simp [Kk,Op.operands,Call.operands]
 all_goals first|rfl|(rename_i c;cases c.callee<;>simp)
theorem Rh (l:List Operand):HO l=l.filterMap λ| .tmp t=>some t|_=>none:=by
 induction l with
 |nil=>rfl
 |cons x l ih=>cases x<;>simp [HO,ih]
theorem EZ (o:Oper):F5 ops.toList o=o.looksAt ops:=by
 unfold F5 Oper.looksAt;rw [N1,Rh];congr 1;cases o.guard with
 |none=>rfl
 |some g=>obtain ⟨g,wnt⟩:=g;simp only [adV];cases ops[g]? <;>rfl
theorem tF {x y:Oper}(h:Aw ops.toList x y=true):x.apart ops y=true:=by
 unfold Aw at h;unfold Oper.apart;rw [EZ,EZ] at h;have hn: ∀(l:List Nat) (d:Nat),aP l d=l.contains d:=by intro l d;have:=aN l d;cases h1:aP l d<;>cases h2:l.contains d<;>simp_all
 cases hx:x.dst<;>cases hy:y.dst<;>simp_all [bne,cY]
theorem kf (e:Edge):Ax e=abH .any e:=by unfold Ax abH;cases e.ground<;>rfl
structure Pg (ops:Array Oper) (listed:Array Bool) (pre:List Nat):Prop where
 size:listed.size=ops.size
 mem: ∀i,i<ops.size->(listed.getD i true=true↔i∈pre)
theorem Pg.set {listed:Array Bool}{pre:List Nat}{x:Nat}(h:Pg ops listed pre)(hx:x<ops.size):Pg ops (listed.setIfInBounds x true) (x::pre):=by
 refine ⟨by simpa using h.size,λi hi=> ?_⟩;by_cases IA:x=i
 ·subst IA;have:x<listed.size:=by rw [h.size];exact hx
  simp [this]
 ·rw [getD_set_ne true IA,h.mem i hi];simp only [AI];exact ⟨.inr,λhh=>hh.resolve_left (λhe=>IA he.symm)⟩
theorem Pg.jC {listed:Array Bool}{pre:List Nat}{i:Nat}(h:Pg ops listed pre)(hi:i<ops.size):listed.getD i true=false↔i∉pre:=by rw [<-h.mem i hi];cases listed.getD i true<;>simp
theorem Pg.done {listed:Array Bool}{pre:List Nat}{i:Nat}(h:Pg ops listed pre)(hi:i<ops.size):listed.getD i false=true↔i∈pre:=by
 rw [<-h.mem i hi];have hl:i<listed.size:=by rw [h.size];exact hi
 simp [hl]
theorem gy: ∀(rest pre:List Nat),kL c ops.toList pre rest=true-> ∀z∈rest,z∉pre:=by
 intro rest;induction rest with
 |nil=>intro pre _ z hz;cases hz
 |cons y rest ihr=>
  intro pre hd z hz;simp only [kL] at hd;cases hy:ops.toList[y]? with
  |none=>simp [hy] at hd
  |some oy=>
   simp only [hy,sh,IT] at hd;rcases AI.1 hz with rfl|hz
   ·rw [<-aN,hd.1.1.1.2];simp
   ·exact λhzp=>ihr (y::pre) hd.2 z hz (by simp [hzp])
theorem nZ {o:Oper}{x:Nat}: ∀(rest D0:List Nat),kK c ops.toList o D0 rest=true->(∀y,y∈D0->y≠x-> ∃p,ops[y]? =some p/\ ∃e∈p.after,abH .any e=true/\e.on∈D0)-> ∃D:List Nat,(∀y∈D0,y∈D)/\(∀y∈D,y∈D0\/y∈rest)/\(∀j oj,j∈D->j≠x->ops[j]? =some oj-> ∃e∈oj.after,abH .any e=true/\e.on∈D)/\ (∀y∈rest,y∉D-> ∃p,ops[y]? =some p/\o.apart ops p=true/\(eE c o=true->still c o=false->(Dy c p||lT o p)=true)):=by
 intro rest;induction rest with
 |nil=>intro D0 _ h0;refine ⟨D0,λy hy=>hy,λy hy=> .inl hy,λj oj hj cg ho=> ?_,λy hy=>by cases hy⟩;obtain ⟨p,hp,he⟩:=h0 j hj cg;rw [ho] at hp;cases hp;exact he
 |cons y rest ih=>
  intro D0 h h0;simp only [kK] at h;cases hy:ops.toList[y]? with
  |none=>simp [hy] at h
  |some p=>
   simp only [hy] at h;have hy':ops[y]? =some p:=by simpa using hy
   cases he:pM p (aP D0) with
   |true=>
    simp only [he,cond_true] at h;obtain ⟨D,D1,D2,D3,D4⟩:=ih (y::D0) h (by
     intro z hz cg;rcases AI.1 hz with rfl|hz
     ·unfold pM at he;obtain ⟨ed,N2,hb⟩:=adN.1 he;simp only [sh,kf] at hb;exact ⟨p,hy',ed,by simpa using N2,hb.1,by simp [(aN _ _).1 hb.2]⟩
     ·obtain ⟨q,hq,ed,h1,h2,h3⟩:=h0 z hz cg;exact ⟨q,hq,ed,h1,h2,by simp [h3]⟩)
    refine ⟨D,λz hz=>D1 z (by simp [hz]),λz hz=> ?_,D3,λz hz hzD=> ?_⟩
    ·rcases D2 z hz with h1|h1
     ·rcases AI.1 h1 with h1|h1
      ·exact .inr (by simp [h1])
      ·exact .inl h1
     ·exact .inr (by simp [h1])
    ·rcases AI.1 hz with rfl|hz
     ·exact absurd (D1 z (by simp)) hzD
     ·exact D4 z hz hzD
   |false=>
    simp only [he,cond_false,sh,ac9,IT] at h;obtain ⟨⟨h1,h2⟩,h3⟩:=h;obtain ⟨D,D1,D2,D3,D4⟩:=ih D0 h3 h0;refine ⟨D,D1,λz hz=>(D2 z hz).imp id (λh=>by simp [h]),D3,λz hz hzD=> ?_⟩;rcases AI.1 hz with rfl|hz
    ·refine ⟨p,hy',tF h1,λhl hs=> ?_⟩;rcases h2 with ((h2|h2)|h2)|h2
     ·rw [hl] at h2;cases h2
     ·simp [h2]
     ·rw [hs] at h2;cases h2
     ·simp [h2]
    ·exact D4 z hz hzD
def aO.outs (Z:aO)(bs:List Nat):aO:={Z with In:=λb=>Z.In b/\b∉bs,Pr:=λb=>Z.Pr b/\b∉bs}
theorem bg.ml {Z Z':aO}{e:Env}{st:St}{a:Act}{w:World}(h:bg c Z e st a w)(hI: ∀b,Z.In b->Z'.In b)(hP: ∀b,Z.Pr b->Z'.Pr b)(h1:Z'.bI=Z.bI)(h2:Z'.bF=Z.bF)(h3:Z'.T=Z.T)(h4:Z'.cov=Z.cov):bg c Z' e st a w:=by
 refine ⟨by rw [h1,h2,h3];exact h.defers,h.size,h.m,h.key,h.nodup,λt=> ?_,h.root,λf o ho=> ?_,h.bb,h.bf,h.ff,h.fB,λb hb=>hI b (h.bt b hb)⟩
 ·have hs:=h.slot t;generalize ah st.fr t=s at hs;cases s<;>simp only [bk] at hs⊢ <;>first|exact hs|skip
  exact ⟨⟨hs.1.1,λhp=>by rw [h1,h3];exact hs.1.2 hp⟩,⟨by rcases hs.2.bt with ⟨x,y⟩|x;exact .inl ⟨by rw [h1];exact x,hP _ y⟩;exact .inr (hI _ x),hs.2.obj,hs.2.free⟩⟩
 ·obtain ⟨I,cells,g1,g2,g3,g4,g5⟩:=(h.dV f o ho).row;refine ⟨I,cells,g1,g2,g3,g4,λaA hb=> ?_⟩;obtain ⟨k1,k2,k3⟩:=g5 aA hb;refine ⟨?_,k2,λhc hz j hj=>k3 (by have hc:f∈Z'.bF:=hc;rw [h2] at hc;exact hc) hz j hj⟩;rcases k1 with ⟨x,y⟩|x
  ·exact .inl ⟨by rw [h2];exact x,hP _ y⟩
  ·exact .inr (hI _ x)
theorem bg.narrow {e:Env}{st:St}{a:Act} {w w':World}{bs:List Nat}(h:bg c (Z.outs bs) e st a w)(g:bX w w')(hs:w.heap.size<w'.heap.size):bg c (Z.outs (w.heap.size::bs)) e st a w':=by
 have h':=h.grow g;have mb: ∀b,b<w.heap.size->(Z.outs bs).In b->(Z.outs (w.heap.size::bs)).In b:=λb hb hi=>⟨hi.1,by simp only [AI,not_or];exact ⟨by omega,hi.2⟩⟩
 have Pd: ∀b,b<w.heap.size->(Z.outs bs).Pr b->(Z.outs (w.heap.size::bs)).Pr b:=λb hb hi=>⟨hi.1,by simp only [AI,not_or];exact ⟨by omega,hi.2⟩⟩
 refine ⟨h'.defers,h'.size,h'.m,h'.key,h'.nodup,λt=> ?_,h'.root,λf o ho=> ?_,h'.bb,h'.bf,h'.ff,h'.fB,λb hb=> ?_⟩
 ·have hs:=h.slot t;have oq:=h'.slot t;generalize ah st.fr t=s at hs oq;cases s<;>simp only [bk] at hs oq⊢ <;>first|exact oq|skip
  obtain ⟨o2,k1,_⟩:=hs.2.obj;have hl:=aC k1;exact ⟨oq.1,⟨by rcases oq.2.bt with ⟨x,y⟩|x;exact .inl ⟨x,Pd _ hl y⟩;exact .inr (mb _ hl x),oq.2.obj,oq.2.free⟩⟩
 ·obtain ⟨I,cells,g1,g2,g3,g4,g5⟩:=(h'.dV f o ho).row;refine ⟨I,cells,g1,g2,g3,g4,λaA hb=> ?_⟩;obtain ⟨k1,k2,k3⟩:=g5 aA hb;refine ⟨?_,k2,k3⟩;have hl:aA<w.heap.size:=by
   obtain ⟨I',P4,l1,l2,l3,l4,l5⟩:=(h.dV f o ho).row;rcases l3.2 with ⟨hv,_⟩|⟨gg,cap,bU,hv,_,hg,_⟩
   ·rw [hv] at hb;simp [abA] at hb
   ·rw [hv] at hb;simp only [abA,AS] at hb;have:=aC hg;omega
  rcases k1 with ⟨x,y⟩|x
  ·exact .inl ⟨x,Pd _ hl y⟩
  ·exact .inr (mb _ hl x)
 ·refine ⟨(h.bt b (by omega)).1,?_⟩;simp only [AI,not_or];exact ⟨by omega,(h.bt b (by omega)).2⟩
def UE (b:Nat):Value:= .pointer (some ⟨b,0,none⟩)
def oT (ops:Array Oper)(i:Nat):Option Nat:=match ops[i]? with
 |some o=>o.dst
 |none=>none
def n6 (ops:Array Oper):List (Nat×Nat)->Act->Act
 |[],a=>a
 |p::r,a=>(n6 ops r a).put (oT ops p.1) (UE p.2)
structure UF (c:Ctx) (Z:aO) (ops:Array Oper) (e:Env) (w:World) (p:Nat×Nat):Prop where
 row: ∃o t I d arr T,ops[p.1]? =some o/\zw o=true/\o.op= .alloc t/\c.tv t=some I/\o.dst=some d/\w.heap[p.2]? =some (.cells arr T (0,0))/\ ∀e':Env,ai e' arr.toList I.zero
 free: ∀off,e.φ p.2 off=none
 bt:Z.In p.2
theorem tG {o:Oper}(h:zw o=true): ∃t d,o.op= .alloc t/\o.dst=some d/\o.guard=none/\ ∀e∈o.after,abH .any e=false:=by
 unfold zw at h;split at h
 ·rename_i t d h1 h2 h3;refine ⟨t,d,h1,h2,h3,λe he=> ?_⟩;have:=OF.1 h e (by simpa using he);simpa [kf] using this
 ·cases h
theorem vh {t:TypeId}{I:TI}(hI:c.tv t=some I)(hT:dt P c.ti): ∃i z,P.info? t=some i/\i.zero=some z/\ ∀e:Env,ai e z.cells.toList I.zero:=by
 obtain ⟨fH,hc⟩:=aD hI;obtain ⟨d,i,h1,h2,h3,h4⟩:=hT t I fH;suffices hz: ∃z,i.zero=some z/\ ∀e:Env,ai e z.cells.toList I.zero by obtain ⟨z,h5,h6⟩:=hz;exact ⟨i,z,h2,h5,h6⟩
 cases d<;>simp only [kM] at h4;case struct fs=>obtain ⟨_,_,_,_,_,_,cs,hz,hl,_⟩:=h4;exact ⟨_,hz,λe=>by simpa [acL] using gq hl⟩
 case tuple ts=>exact absurd hc h4.2.1
 case slice el=>obtain ⟨_,_,_,_,_,hz,hl,_⟩:=h4;exact ⟨_,hz,λe=>by rw [hl];exact ⟨[.slice none 0 0],[],rfl,rfl,rfl⟩⟩
 case array n el=>obtain ⟨_,_,_,_,k,m,_,_,_,hl,hz⟩:=h4;exact ⟨_,hz,λe=>by rw [hl];exact ⟨aX k (zA m),[],by simp [acL],⟨rfl,by simp⟩,rfl⟩⟩
 case bool=>obtain ⟨_,_,_,_,hl,hz⟩:=h4;exact ⟨_,hz,λe=>by rw [hl];exact ⟨[.bool false],[],rfl,⟨rfl,.b _⟩,rfl⟩⟩
 case int k=>obtain ⟨_,_,_,_,hl,hz⟩:=h4;exact ⟨_,hz,λe=>by rw [hl];exact ⟨[.int k 0],[],rfl,⟨rfl,.i _ _⟩,rfl⟩⟩
 case string=>obtain ⟨_,_,_,_,hl,b,hz,hb⟩:=h4;refine ⟨_,hz,λe=>by rw [hl];refine ⟨[.string b],[],rfl,⟨rfl,?_⟩,rfl⟩;rw [<-hb];exact .s b⟩
 all_goals
  obtain ⟨_,_,_,_,v,hz,hv,hl⟩:=h4;refine ⟨v,hz,λe=> ?_⟩;have:v.cells.toList=[v]:=by cases v<;>simp_all [acL,Value.oneCell']
  rw [this];exact gq hl
theorem yS {o:Oper}(hs: ∀cs b,o.op≠ .select cs b)(a:Act): ∀(pd:List (Nat×Nat)),(∀p∈pd,∀d,oT ops p.1=some d->d∉o.looksAt ops)-> execOp (n6 ops pd a).eval o=execOp a.eval o/\aae o (yielded ops (n6 ops pd a).tmps)=aae o (yielded ops a.tmps)
 |[],_=>⟨rfl,rfl⟩
 |p::r,h=>by obtain ⟨h1,h2⟩:=yS hs a r (λq hq=>h q (by simp [hq]));have hp:=h p (by simp);exact ⟨(execOp_put o hs _ _ _ hp).trans h1,(wanted_put o _ _ _ hp).trans h2⟩
theorem wh (a:Act)(y:Option Nat)(v:Value): ∀(pd:List (Nat×Nat)),(∀p∈pd,∀d,oT ops p.1=some d->y≠some d)->(n6 ops pd a).put y v=n6 ops pd (a.put y v)
 |[],_=>rfl
 |p::r,h=>by simp only [n6];rw [aao _ _ _ (λd hd=>h p (by simp) d hd),wh a y v r (λq hq=>h q (by simp [hq]))]
theorem UG {j:Nat}{oj:Oper}{x:Option Nat}{v:Value}(hj:ops[j]? =some oj)(h1: ∀d,x=some d->d∉oj.looksAt ops)(h2: ∀d,x=some d->oj.dst≠some d)(hsj: ∀cs b,oj.op≠ .select cs b){K:Act->World->Prop}{a:Act}{w:World}(h:wpOp P ops (jB N) j K a w): wpOp P ops (jB N) j (λa' w'=> ∃a'',a'=a''.put x v/\K a'' w') (a.put x v) w:=by
 unfold wpOp at *;simp only [hj] at *;rw [wanted_put oj a x v h1];split
 ·rename_i hw;simp only [hw,if_true] at h;rcases h with h|⟨abS,Rf⟩;case inr=>obtain ⟨_,_,hf⟩:=Rf;exact hf.elim
  refine .inl ?_;unfold ad2 at *;rw [execOp_put oj hsj a x v h1];generalize (execOp a.eval oj).run P w=r at *;cases r with
  |ok n w'=>
   cases n<;>simp only [adM] at h⊢;case value u=>exact ⟨_,aao a v u h2,h⟩
   case skip=>exact ⟨_,aao a v undef h2,h⟩
   case defer d=>refine ⟨{a.put oj.dst undef with defers:=d::(a.put oj.dst undef).defers},?_,by simpa [Act.put_defers] using h⟩;have:=aao a v undef h2;cases x<;>cases hd:oj.dst<;>simp_all [Act.put]
   case enter f args=>
    refine Calls.mono h λy tp he=> ?_;cases y with
    |returned u=>exact ⟨_,aao a v u h2,he⟩
    |panicked c=>exact he
    |outgrown=>exact he
   case row row args=>exact Rows.mono h λu tp he=>⟨_,aao a v u h2,he⟩
  |halt y w'=>cases y<;>simp only [adM] at h⊢;case panic u=>exact h
 ·rename_i hw;simp only [hw] at h;exact ⟨_,aao a v undef h2,h⟩
theorem Me {j:Nat}{oj:Oper}(hj:ops[j]? =some oj)(hsj: ∀cs b,oj.op≠ .select cs b){K:Act->World->Prop}{a:Act}{w:World}(h:wpOp P ops (jB N) j K a w): ∀(pd:List (Nat×Nat)),(∀p∈pd,∀d,oT ops p.1=some d->d∉oj.looksAt ops/\oj.dst≠some d)->wpOp P ops (jB N) j (λa' w'=> ∃a'',a'=n6 ops pd a''/\K a'' w') (n6 ops pd a) w
 |[],_=>wpOp_mono (λa' w' hk=>⟨a',rfl,hk⟩) h
 |p::r,hp=>by have h1:=Me hj hsj h r (λq hq=>hp q (by simp [hq]));have h2:=UG (v:=UE p.2) hj (λd hd=>(hp p (by simp) d hd).1) (λd hd=>(hp p (by simp) d hd).2) hsj h1;refine wpOp_mono ?_ h2;rintro a' w' ⟨a1,rfl,a2,rfl,hk⟩;exact ⟨a2,rfl,hk⟩
theorem xT: ∀{l m:List Nat},l.Nodup->(∀x∈l,x∈m)->l.length<=m.length
 |[],m,_,_=>acF _
 |x::l,m,hn,hs=>by have hn:=aaw.1 hn;have h1:l.length<=(m.erase x).length:=xT hn.2 λy hy=>(List.mem_erase_of_ne (λhe=>hn.1 (by rw [<-he];exact hy))).2 (hs y (by simp [hy]));have h2:=List.length_erase_of_mem (hs x (by simp));have h3:0<m.length:=List.length_pos_of_mem (hs x (by simp));simp only [aad];omega
theorem IC {x b:Nat}{o:Oper}(hdo:oT ops x=o.dst)(a:Act)(pr:List (Nat×Nat)): ∀(pl:List (Nat×Nat)),(∀p∈pl++pr,∀dd,oT ops p.1=some dd->o.dst≠some dd)->n6 ops (pl++(x,b)::pr) a=n6 ops (pl++pr) (a.put o.dst (UE b))
 |[],h=>by simp only [aaW,n6,hdo];exact wh a o.dst (UE b) pr (λp hp=>h p (by simp [hp]))
 |q::pl,h=>by simp only [aas,n6];rw [IC hdo a pr pl (λp hp=>h p (by simp only [aas,AI];exact .inr hp))]
theorem Pg.congr {listed:Array Bool} {l l':List Nat}(h:Pg ops listed l)(he: ∀i,i∈l↔i∈l'):Pg ops listed l':=⟨h.size,λi hi=>by rw [h.mem i hi,he]⟩
theorem ID {o:Oper}: ∀(rest D:List Nat),kK c ops.toList o D rest=true-> ∀y∈rest,∀p,ops[y]? =some p->zw p=true->o.apart ops p=true:=by
 intro rest;induction rest with
 |nil=>intro D _ y hy;cases hy
 |cons z rest ih=>
  intro D h y hy p hp zG;simp only [kK] at h;cases hz:ops.toList[z]? with
  |none=>simp [hz] at h
  |some q=>
   simp only [hz] at h;cases he:pM q (aP D) with
   |true=>
    simp only [he,cond_true] at h;rcases AI.1 hy with rfl|hy
    ·exfalso;have Z4:ops[y]? =some q:=by simpa using hz
     rw [Z4] at hp;cases hp;obtain ⟨_,_,_,_,_,cg⟩:=tG zG;unfold pM at he;obtain ⟨ed,N2,hb⟩:=adN.1 he;simp only [sh,kf] at hb;rw [cg ed (by simpa using N2)] at hb;exact absurd hb.1 (by simp)
    ·exact ih _ h y hy p hp zG
   |false=>
    simp only [he,cond_false,sh] at h;rcases AI.1 hy with rfl|hy
    ·have Z4:ops[y]? =some q:=by simpa using hz
     rw [Z4] at hp;cases hp;exact tF h.1.1
    ·exact ih _ h.2 y hy p hp zG
theorem Bm {o p:Oper}{y:Nat}(hp:ops[y]? =some p)(h:p.apart ops o=true\/o.apart ops p=true): ∀d,oT ops y=some d->d∉o.looksAt ops/\o.dst≠some d:=by
 intro d hd;have hd:p.dst=some d:=by simpa [oT,hp] using hd
 rcases h with h|h
 ·obtain ⟨h1,h2,h3⟩:=adS h;exact ⟨h1 d hd,h2 d hd⟩
 ·obtain ⟨h1,h2,h3⟩:=adS h;exact ⟨h3 d hd,λhe=>h2 d he hd⟩
theorem UF.later {Z:aO}{bs:List Nat} {e e':Env} {w w':World}{p:Nat×Nat}(h:UF c Z ops e w p)(hb:p.2∈bs)(t:Trans (Z.outs bs).In e.φ w e'.φ w'):UF c Z ops e' w' p:=by obtain ⟨o,ty,I,d,arr,T,h1,h2,h3,h4,h5,h6,h7⟩:=h.row;have hn: ¬(Z.outs bs).In p.2:=λhh=>hh.2 hb;exact ⟨⟨o,ty,I,d,arr,T,h1,h2,h3,h4,h5,by rw [t.heap _ hn (aC h6)];exact h6,h7⟩,λoff=>by rw [t.free _ off hn];exact h.free off,h.bt⟩
theorem Trans.wide {Z Z':Nat->Prop} {φ φ':Ph} {w w':World}(t:Trans Z φ w φ' w')(h: ∀b,Z b->Z' b):Trans Z' φ w φ' w':=⟨t.ph,λb hb hl=>t.heap b (λhz=>hb (h b hz)) hl,λb o hb=>t.free b o (λhz=>hb (h b hz)),t.size,t.rest⟩
theorem UH (hG:Good P c)(DQ: ∀(j:Nat)(o:Oper) cs b,ops[j]? =some o->o.op≠ .select cs b) {φ0:Ph}{w0:World}(hN: ∀a' w',Out c Z K r φ0 w0 a' w'->N a' w'): ∀(m:Nat) (rest pre:List Nat) (pd:List (Nat×Nat)) (l:List Oper) (listed:Array Bool) (e:Env) (st:St) (a:Act) (w:World),2 *rest.length-pd.length<=m->bg c (Z.outs (pd.map (·.2))) e st a w->ug c ops.toList l st K=some r->Trans Z.In φ0 w0 e.φ w->kD ops.toList rest=some l-> kL c ops.toList pre rest=true->Pg ops listed (pd.map (·.1)++pre)->(∀i,i<ops.size->i∈pre\/i∈rest)->(∀i∈pre,i<ops.size)->(∀p∈pd,p.1∈rest)->(pd.map (·.1)).Nodup->(pd.map (·.2)).Nodup->(∀p∈pd,UF c Z ops e w p)-> pd.length<=rest.length->rc P c ops N e.φ (rest.length-pd.length) listed (n6 ops pd a) w:=by
 intro m;induction m with
 |zero=>
  intro rest pre pd l listed e st a w hm h hK ht hp hd hL rL Ri Pd Ex zC Pb hle;cases rest with
  |cons x rest=>simp only [aad] at hm hle;omega
  |nil=>
   cases pd with
   |cons p pd=>simp at hle
   |nil=>
    cases hp;have h':bg c Z e st a w:=h.ml (λb hb=>hb.1) (λb hb=>hb.1) rfl rfl rfl rfl;refine ⟨?_,hN a w ⟨e,st,h',ht,hK⟩⟩;cases hr:IN .any ops listed with
    |nil=>rfl
    |cons i is=>
     have hi:i∈IN .any ops listed:=by rw [hr];simp
     obtain ⟨h1,o,ho,_⟩:=mem_ready.1 hi;have cz:i<ops.size:=(aaN.1 ho).1;exact absurd (by simpa using (rL i cz).resolve_right (by simp)) ((hL.jC cz).1 h1)
 |succ m ihm=>
  intro rest pre pd l listed e st a w hm h hK ht hp hd hL rL Ri Pd Ex zC Pb hle;cases rest with
  |nil=>
   cases pd with
   |cons p pd=>simp at hle
   |nil=>exact ihm [] pre [] l listed e st a w (by simp) h hK ht hp hd hL rL Ri Pd Ex zC Pb hle
  |cons x rest=>
   simp only [kD] at hp;cases WM:ops.toList[x]? with
   |none=>simp [WM] at hp
   |some o=>
    cases hpk:kD ops.toList rest with
    |none=>simp [WM,hpk] at hp
    |some l'=>
     simp only [WM,hpk,AS] at hp;subst hp;have hx:ops[x]? =some o:=by simpa using WM
     have KW:x<ops.size:=(aaN.1 hx).1;have hd0:=hd;simp only [kL,WM] at hd;simp only [sh,IT] at hd;obtain ⟨⟨⟨⟨d1,d2⟩,d3⟩,d4⟩,d5⟩:=hd;have sd:x∉pre:=by rw [<-aN,d2];simp
     have Bn:x∉rest:=by rw [<-aN,d3];simp
     have Mf: ∀i,i<ops.size->i∈x::pre\/i∈rest:=by
      intro i hi;rcases rL i hi with h1|h1
      ·exact .inl (by simp [h1])
      ·rcases AI.1 h1 with h1|h1
       ·exact .inl (by simp [h1])
       ·exact .inr h1
     have WN: ∀i∈x::pre,i<ops.size:=by
      intro i hi;rcases AI.1 hi with rfl|hi
      ·exact KW
      ·exact Ri i hi
     have Yx:=hK;simp only [ug] at hK;have Rj: ∀p∈pd,∃q,ops[p.1]? =some q/\zw q=true:=λp hp=>by obtain ⟨q,_,_,_,_,_,h1,h2,_⟩:=(Pb p hp).row;exact ⟨q,h1,h2⟩
     unfold LO at hK;obtain ⟨bm,go,h',hK,hw⟩:=Ik h hK;have WO: ∀cs b,o.op≠ .select cs b:=λcs b=>DQ x o cs b hx;by_cases hxp:x∈pd.map (·.1)
     ·
      obtain ⟨⟨x',b⟩,hpx,hxe⟩:=aag.1 hxp;have hxe:x'=x:=hxe;subst hxe;obtain ⟨o',t,I,d,arr,T,k1,k2,k3,k4,k5,k6,k7⟩:=(Pb _ hpx).row;rw [hx] at k1;cases k1;obtain ⟨_,_,_,_,hgn,cg⟩:=tG k2;have hgo:go=true:=by rw [<-hw];simp [aae,hgn]
      subst hgo;have DC:(dx o&&!c8 c o)=false:=by simp [dx,k3]
      simp only [DC,cond_false] at d4;obtain ⟨pl,pr,rfl⟩:=List.append_of_mem hpx;have hbn:b∉(pl++pr).map (·.2):=by have:((pl++(x',b)::pr).map (·.2)).Nodup:=zC;simp only [abU,abh,aeb,aaw,AI] at this;simp only [abU,aap,not_or];exact ⟨λhm=>this.2.2 b hm b (by simp) rfl,this.2.1.1⟩
      have hxn:x'∉(pl++pr).map (·.1):=by have:((pl++(x',b)::pr).map (·.1)).Nodup:=Ex;simp only [abU,abh,aeb,aaw,AI] at this;simp only [abU,aap,not_or];exact ⟨λhm=>this.2.2 x' hm x' (by simp) rfl,this.2.1.1⟩
      have IF: ∀p∈pl++pr,p∈pl++(x',b)::pr:=λp hp=>by
       simp only [aap,AI] at hp⊢;rcases hp with hp|hp
       ·exact .inl hp
       ·exact .inr (.inr hp)
      have gx:bg c (Z.outs ((pl++pr).map (·.2))) e bm a w:=by
       refine h'.ml (λu hu=>⟨hu.1,λhm=>hu.2 ?_⟩) (λu hu=>⟨hu.1,λhm=>hu.2 ?_⟩) rfl rfl rfl rfl<;>
       ·obtain ⟨p,hp,rfl⟩:=aag.1 hm;exact aag.2 ⟨p,IF p hp,rfl⟩
      have UI:b∈(pl++(x',b)::pr).map (·.2):=by simp
      have iy:li (Z.outs ((pl++pr).map (·.2))) e w bm (UE b) (.box I.zero):=by
       refine ⟨b,by rw [lY (k7 e).rJ];rfl,⟨⟨(Pb _ hpx).bt,hbn⟩,⟨_,k6,rfl,k7 e⟩,(Pb _ hpx).free⟩,λt' dj vd xv=> ?_,λf o' vc xv=> ?_⟩
       ·have hs:=h'.slot t';rw [vd] at hs;rcases hs.2.bt with ⟨_,u⟩|u
        ·exact u.2 (by rw [xv];exact UI)
        ·exact u.2 (by rw [xv];exact UI)
       ·obtain ⟨I',cells,g1,g2,g3,g4,g5⟩:=(h'.dV f o' vc).row;rcases (g5 b xv).1 with ⟨_,u⟩|u
        ·exact u.2 UI
        ·exact u.2 UI
      simp only [cond_true,ZR,k3,k4] at hK;obtain ⟨e2,cK,j1,j2,j3⟩:=bS gx iy hK;have Yy:n6 ops (pl++(x',b)::pr) a=n6 ops (pl++pr) (a.put o.dst (UE b)):=by
       have ou: ∀p∈pl++pr,∀dd,oT ops p.1=some dd->o.dst≠some dd:=by
        intro p hp dd hdd;obtain ⟨q,hq,zG⟩:=Rj p (IF p hp);have KX:p.1∈rest:=by
         rcases AI.1 (Pd p (IF p hp)) with he|he
         ·exact absurd (aag.2 ⟨p,hp,he⟩) hxn
         ·exact he
        have:=OF.1 d4 p.1 KX;have hq':ops.toList[p.1]? =some q:=by simpa using hq
        simp only [hq',zG,cond_true,sh] at this;exact (Bm hq (.inl (tF this.1)) dd hdd).2
       exact IC (by simp [oT,hx]) a pr pl ou
      rw [Yy,<-j3];have hlen:(x'::rest).length-(pl++(x',b)::pr).length=rest.length-(pl++pr).length:=by simp only [aad,aaa];omega
      rw [hlen];refine ihm rest (x'::pre) (pl++pr) l' listed e2 cK _ w ?_ j1 j2 (by rw [j3];exact ht) hpk d5 ?_ Mf WN ?_ ?_ ?_ ?_ ?_
      ·simp only [aad,aaa] at hm⊢;omega
      ·refine hL.congr (λi=> ?_);simp only [abU,abh,aap,AI];constructor
       ·rintro ((h1|h1|h1)|h1)
        ·exact .inl (.inl h1)
        ·exact .inr (.inl h1)
        ·exact .inl (.inr h1)
        ·exact .inr (.inr h1)
       ·rintro ((h1|h1)|h1|h1)
        ·exact .inl (.inl h1)
        ·exact .inl (.inr (.inr h1))
        ·exact .inl (.inr (.inl h1))
        ·exact .inr h1
      ·intro p hp;rcases AI.1 (Pd p (IF p hp)) with he|he
       ·exact absurd (aag.2 ⟨p,hp,he⟩) hxn
       ·exact he
      ·have:((pl++(x',b)::pr).map (·.1)).Nodup:=Ex;refine List.Nodup.sublist ?_ this;exact List.Sublist.map _ (adJ (adQ _ _) pl)
      ·have:((pl++(x',b)::pr).map (·.2)).Nodup:=zC;refine List.Nodup.sublist ?_ this;exact List.Sublist.map _ (adJ (adQ _ _) pl)
      ·intro p hp;obtain ⟨q1,q2,q3⟩:=Pb p (IF p hp);exact ⟨q1,λoff=>by rw [j3];exact q2 off,q3⟩
      ·simp only [aad,aaa] at hle⊢;omega
     ·have KX: ∀p∈pd,p.1∈rest:=λp hp=>by
       rcases AI.1 (Pd p hp) with he|he
       ·exact absurd (aag.2 ⟨p,hp,he⟩) hxp
       ·exact he
      have Qw:pd.length<=rest.length:=by have h1:(pd.map (·.1)).length<=rest.length:=xT Ex (λi hi=>by obtain ⟨p,hp,rfl⟩:=aag.1 hi;exact KX p hp);simpa using h1
      have abX:(x::rest).length-pd.length=(rest.length-pd.length)+1:=by simp only [aad];omega
      rw [abX];have Ux:x∉pd.map (·.1)++pre:=by simp only [aap,not_or];exact ⟨hxp,sd⟩
      have mn:x∈IN .any ops listed:=by refine mem_ready.2 ⟨(hL.jC KW).2 Ux,o,hx,λed N2 hb=> ?_⟩;have:=OF.1 d1 ed (by simpa using N2);simp only [kf,hb,acB,adG] at this;have hm:=(aN _ _).1 this;exact (hL.done (Ri _ hm)).2 (by simp [hm])
      have next: ∀(e':Env) (cK:St) (a':Act) (w':World),bg c (Z.outs (pd.map (·.2))) e' cK a' w'->Trans (Z.outs (pd.map (·.2))).In e.φ w e'.φ w'->ug c ops.toList l' cK K=some r->rc P c ops N e.φ (rest.length-pd.length) (listed.setIfInBounds x true) (n6 ops pd a') w':=by
       intro e' cK a' w' h1 t1 lv;refine N0 t1.ph _ _ _ _ ?_;refine ihm rest (x::pre) pd l' _ e' cK a' w' ?_ h1 lv (ht.trans (t1.wide λb hb=>hb.1)) hpk d5 ((hL.set KW).congr λi=> ?_) Mf WN KX Ex zC (λp hp=>(Pb p hp).later (aag.2 ⟨p,hp,rfl⟩) t1) Qw
       ·simp only [aad] at hm;omega
       ·simp only [AI,aap];constructor
        ·rintro (h1|h1|h1)
         ·exact .inr (.inl h1)
         ·exact .inl h1
         ·exact .inr (.inr h1)
        ·rintro (h1|h1|h1)
         ·exact .inr (.inl h1)
         ·exact .inl h1
         ·exact .inr (.inr h1)
      cases DC:dx o&&!c8 c o with
      |true=>
       simp only [DC,cond_true] at d4;have ou: ∀p∈pd,∀dd,oT ops p.1=some dd->dd∉o.looksAt ops/\o.dst≠some dd:=by intro p hp;obtain ⟨q,hq,zG⟩:=Rj p hp;exact Bm hq (.inr (ID rest [x] d4 p.1 (KX p hp) q hq zG))
       obtain ⟨hex,Yw⟩:=yS WO a pd (λp hp d hd=>(ou p hp d hd).1);obtain ⟨D,D1,D2,D3,D4⟩:=nZ rest [x] d4 (λy hy cg=>absurd (by simpa using hy) cg);have jn: ∀j oj,ops[j]? =some oj->j∉D->j≠x->listed.getD j true=false->o.apart ops oj=true/\(eE c o=true->still c o=false->ke c o ops j=true):=by
        intro j oj KV WL hjx Iz;have IG:j<ops.size:=(aaN.1 KV).1;have hjr:j∈rest:=by
         rcases Mf j IG with h1|h1
         ·rcases AI.1 h1 with h1|h1
          ·exact absurd h1 hjx
          ·exact absurd (by simp [h1]) ((hL.jC IG).1 Iz)
         ·exact h1
        obtain ⟨p,Np,EA,hp3⟩:=D4 j hjr WL;rw [KV] at Np;cases Np;exact ⟨EA,λhl hs=>by simp [ke,KV,hp3 hl hs]⟩
       have zJ: ∀d∈D,listed.getD d false=false:=by
        have afx: ∀p∈pd,p.1∉D:=by intro p hp hpD;obtain ⟨q,hq,zG⟩:=Rj p hp;obtain ⟨ed,N2,hb,_⟩:=D3 p.1 q hpD (λhe=>hxp (aag.2 ⟨p,hp,he⟩)) hq;obtain ⟨_,_,_,_,_,cg⟩:=tG zG;rw [cg ed N2] at hb;cases hb
        intro d hd;have TP:d∉pd.map (·.1)++pre:=by
         simp only [aap,not_or];constructor
         ·intro hm;obtain ⟨p,hp,rfl⟩:=aag.1 hm;exact afx p hp hd
         ·rcases D2 d hd with h1|h1
          ·have h1:d=x:=by simpa using h1
           rw [h1];exact sd
          ·exact λhp=>gy rest (x::pre) d5 d h1 (by simp [hp])
        by_cases JY:d<ops.size
        ·cases hg:listed.getD d false with
         |false=>rfl
         |true=>exact absurd ((hL.done JY).1 hg) TP
        ·have hl: ¬d<listed.size:=by rw [hL.size];exact JY
         simp [hl]
       cases go with
       |true=>simp only [cond_true] at hK;obtain ⟨v,hv,e2,cK,k1,k2,k3⟩:=(KM (Q:=jB N) hG h' hK).afc (by simp only [sh] at DC;exact DC.1) (by simp only [sh,IT] at DC;exact DC.2);refine p0 D3 hx DQ (rest.length-pd.length) listed _ w jn zJ mn (.inl ⟨by rw [Yw];exact hw,λw' hg=>by rw [hex];exact hv w' hg⟩) h.fB ?_;rw [wh a o.dst v pd (λp hp d hd=>(ou p hp d hd).2)];exact next e2 cK _ w k1 k2 k3
       |false=>simp only [cond_false] at hK;obtain ⟨e2,cK,k1,k2,k3⟩:=bS (v:=undef) (s:= .skip) h' ⟨rfl,trivial⟩ hK;refine p0 D3 hx DQ (rest.length-pd.length) listed _ w jn zJ mn (.inr ⟨by rw [Yw];exact hw,rfl⟩) h.fB ?_;rw [wh a o.dst undef pd (λp hp d hd=>(ou p hp d hd).2)];exact next e2 cK _ w k1 (by rw [k3];exact .refl _ _ _) k2
      |false=>
       simp only [DC,cond_false] at d4;have ou: ∀p∈pd,∀dd,oT ops p.1=some dd->dd∉o.looksAt ops/\o.dst≠some dd:=by
        intro p hp;obtain ⟨q,hq,zG⟩:=Rj p hp;have:=OF.1 d4 p.1 (KX p hp);have hq':ops.toList[p.1]? =some q:=by simpa using hq
        simp only [hq',zG,cond_true,sh] at this;exact Bm hq (.inl (tF this.1))
       refine ⟨λKJ=>(by rw [KJ] at mn;cases mn),λi hi=> ?_⟩;obtain ⟨afy,oi,N3,KY⟩:=mem_ready.1 hi;have N4:i<ops.size:=(aaN.1 N3).1;have mb:=(hL.jC N4).1 afy;simp only [aap,not_or] at mb;by_cases IA:i=x
       ·subst IA;rw [hx] at N3;cases N3;have gx:wpOp P ops (jB N) i (λa' w'=>(∀oi,ke c oi ops i=true->cO c oi w w')/\ ∃e2 cK,bg c (Z.outs (pd.map (·.2))) e2 cK a' w'/\Trans (Z.outs (pd.map (·.2))).In e.φ w e2.φ w'/\ug c ops.toList l' cK K=some r) a w:=by
         unfold wpOp;simp only [hx];rw [hw];cases go with
         |true=>
          simp only [cond_true] at hK;simp only [if_true];left;have hd:=KM (Q:=jB N) hG h' hK;cases JW:Dy c o with
          |true=>simp only [Dy,ac9] at JW;refine adu ?_ (hd.afd JW);rintro a' w' ⟨hg,e2,cK,k1,k2,k3⟩;exact ⟨λ_ _=>hg.for,e2,cK,k1,k2,k3⟩
          |false=>
           by_cases Tl: ∃oi,lT oi o=true
           ·obtain ⟨oi0,Tl⟩:=Tl;refine adu ?_ (abo (Q:=jB N) hG h' hK Tl);rintro a' w' ⟨hg,e2,cK,k1,k2,k3⟩;refine ⟨λoi hh=> ?_,e2,cK,k1,k2,k3⟩;have N3:lT oi o=true:=by simpa [ke,hx,JW] using hh
            exact KU Tl N3 hg
           ·refine adu ?_ hd.wp;rintro a' w' ⟨e2,cK,k1,k2,k3⟩;exact ⟨λoi hh=>absurd ⟨oi,by simpa [ke,hx,JW] using hh⟩ Tl,e2,cK,k1,k2,k3⟩
         |false=>simp only [cond_false] at hK;simp only [No,if_false];obtain ⟨e2,cK,k1,k2,k3⟩:=bS (v:=undef) (s:= .skip) h' ⟨rfl,trivial⟩ hK;exact ⟨λ_ _=>(bX.refl w).for,e2,cK,k1,by rw [k3];exact .refl _ _ _,k2⟩
        refine wpOp_mono ?_ (Me hx WO gx pd ou);rintro a' w' ⟨a2,rfl,hg,e2,cK,k1,k2,k3⟩;exact ⟨⟨hg,λb o v hv=>k1.fB b o v (k2.ph b o v hv)⟩,next e2 cK a2 w' k1 k2 k3⟩
       ·have hir:i∈rest:=by
         rcases Mf i N4 with h1|h1
         ·rcases AI.1 h1 with h1|h1
          ·exact absurd h1 IA
          ·exact absurd h1 mb.2
         ·exact h1
        have KZ:=OF.1 d4 i hir;have Yz:ops.toList[i]? =some oi:=by simpa using N3
        simp only [Yz] at KZ;cases zG:zw oi with
        |false=>
         exfalso;simp only [zG,cond_false] at KZ;unfold pM at KZ;obtain ⟨ed,N2,hb⟩:=adN.1 KZ;simp only [sh,kf,ac9,IT] at hb;obtain ⟨np,lp⟩:=hb;have E0:=KY ed (by simpa using N2) np;have xM:ed.on∉pd.map (·.1)++pre:=by
          rcases lp with lp|⟨lp,Ud⟩
          ·rw [aQ lp];exact Ux
          ·simp only [aap,not_or];refine ⟨λhm=> ?_,λhp=>gy rest (x::pre) d5 _ ((aN _ _).1 lp) (by simp [hp])⟩;obtain ⟨p,hp,he⟩:=aag.1 hm;obtain ⟨q,hq,hqa⟩:=Rj p hp;have hq':ops.toList[ed.on]? =some q:=by rw [<-he];simpa using hq
           simp [XE,hq',hqa] at Ud
         by_cases lu:ed.on<ops.size
         ·exact xM ((hL.done lu).1 E0)
         ·have:listed.getD ed.on false=false:=by
           have hl: ¬ed.on<listed.size:=by rw [hL.size];exact lu
           simp [hl]
          rw [this] at E0;cases E0
        |true=>
         obtain ⟨t,d,q1,q2,q3,q4⟩:=tG zG;have hI: ∃I,c.tv t=some I:=by
          simp only [zG,cond_true,sh,XD,q1] at KZ;cases htv:c.tv t with
          |none=>rw [htv] at KZ;exact absurd KZ.2 (by simp)
          |some I=>exact ⟨I,rfl⟩
         obtain ⟨I,hI⟩:=hI;obtain ⟨inf,z,hz1,PW,hz3⟩:=vh hI hG.ti;have hg:bX w (w.alloc (.cells z.cells t)):= .alloc w _ _;unfold wpOp;simp only [N3];have Yw:aae oi (yielded ops (n6 ops pd a).tmps)=true:=by simp [aae,q3]
         simp only [Yw,if_true];left;have aV:(execOp (n6 ops pd a).eval oi).run P w= .ok (.value (UE w.heap.size)) (w.alloc (.cells z.cells t)):=by simp [execOp,q1,Instr.alloc,zeroValue,typeInfo,hz1,PW,newVar,newRow,newObj,Sem.run,UE]
         unfold ad2;rw [aV];simp only [adM];refine ⟨⟨λ_ _=>hg.for,(h.grow hg).fB⟩,?_⟩;have jT:w.heap.size<(w.alloc (.cells z.cells t)).heap.size:=by simp
         have afz: ∀p∈pd,p.2<w.heap.size:=λp hp=>by obtain ⟨_,_,_,_,_,_,_,_,_,_,_,k6,_⟩:=(Pb p hp).row;exact aC k6
         have Yy:(n6 ops pd a).put oi.dst (UE w.heap.size)=n6 ops ((i,w.heap.size)::pd) a:=by simp [n6,oT,N3]
         rw [Yy];have cz:pd.length<rest.length:=by
          have h1:(i::pd.map (·.1)).length<=rest.length:=by
           refine xT (aaw.2 ⟨mb.1,Ex⟩) ?_;intro j hj;rcases AI.1 hj with rfl|hj
           ·exact hir
           ·obtain ⟨p,hp,rfl⟩:=aag.1 hj;exact KX p hp
          simp only [aad,List.length_map] at h1;omega
         have uI:rest.length-pd.length=(x::rest).length-((i,w.heap.size)::pd).length:=by simp only [aad];omega
         rw [uI];refine ihm (x::rest) pre ((i,w.heap.size)::pd) (o::l') _ e st a _ ?_ (h.narrow hg jT) ?_ (ht.trans (hg.trans (λb hb=>(h.bt b hb).1) _)) ?_ hd0 ?_ rL Ri ?_ ?_ ?_ ?_ ?_
         ·simp only [aad] at hm⊢;omega
         ·exact Yx
         ·simp [kD,WM,hpk]
         ·refine (hL.set N4).congr (λj=> ?_);simp
         ·intro p hp;rcases AI.1 hp with rfl|hp
          ·exact abw _ hir
          ·exact Pd p hp
         ·exact aaw.2 ⟨mb.1,Ex⟩
         ·refine aaw.2 ⟨λhm=> ?_,zC⟩;obtain ⟨p,hp,he⟩:=aag.1 hm;have:=afz p hp;have he:p.2=w.heap.size:=he;omega
         ·intro p hp;rcases AI.1 hp with rfl|hp
          ·refine ⟨⟨oi,t,I,d,z.cells,t,N3,zG,q1,hI,q2,dm w _,hz3⟩,λoff=> ?_,(h.bt _ (abc _)).1⟩;cases hp:e.φ w.heap.size off with
           |none=>rfl
           |some v=>have:=aav w _ (h.fB _ _ _ hp);simp at this
          ·obtain ⟨⟨o1,t1,I1,d1,afA,T1,k1,k2,k3,k4,k5,k6,k7⟩,q5,q6⟩:=Pb p hp;exact ⟨⟨o1,t1,I1,d1,afA,T1,k1,k2,k3,k4,k5,by rw [hg.ln _ (aC k6)];exact k6,k7⟩,q5,q6⟩
         ·simp only [aad];omega
theorem IH (hG:Good P c){ops:Array Oper}{l:List Oper}{ord:List Nat}(hd:lU c ops ord=true)(hp:kD ops.toList ord=some l){Z:aO}{e:Env}{st:St}{a:Act}{w:World}{R:Type}{K:St->Option R}{r:R}(h:bg c Z e st a w)(hK:ug c ops.toList l st K=some r): wpAny P .any ops (jB λa' w'=>Out c Z K r e.φ w a' w') ops.size (BY ops.size false) a {w with drawn:=w.drawn+1}:=by
 simp only [lU,sh] at hd;obtain ⟨⟨⟨QC,XW⟩,rL⟩,hd⟩:=hd;have DQ: ∀(j:Nat) (o:Oper) cs b,ops[j]? =some o->o.op≠ .select cs b:=by intro j o cs b ho he;have:=OF.1 QC o (acP (by simpa using ho:ops.toList[j]? =some o));simp [he] at this
 have WQ:bX w {w with drawn:=w.drawn+1}:=⟨abc _,λ_ _=>rfl,rfl,rfl,rfl⟩
 ·refine Iy (c:=c) (φ:=e.φ) _ _ _ _ ?_;have hlen:ord.length=ops.size:=by have:=aQ XW;simpa using this
  rw [<-hlen];have h0:bg c (Z.outs []) e st a {w with drawn:=w.drawn+1}:=(h.grow WQ).ml (λb hb=>⟨hb,by simp⟩) (λb hb=>⟨hb,by simp⟩) rfl rfl rfl rfl;refine UH hG DQ (λa' w' h=>h) (2 *ord.length) ord [] [] l _ e st a _ (by simp) h0 hK (WQ.trans h.bt e.φ) hp hd ⟨by simp [hlen],λi hi=> ?_⟩ (λi hi=> .inr ((aN _ _).1 (OF.1 rL i (by simpa using hi)))) (by simp) (by simp) (by simp) (by simp) (by simp) (by simp);simp [hlen,hi]
end
end Dn
/-
  What is asked of slices.DeleteFunc, and of the function that it is handed. Conditions: none.
-/
namespace Dn
open Go
theorem yT {S:Type}{step:S->MV->Option (Bool×S)}: ∀{xs zs:List MV} {s:S},jv step s (xs++zs)=(match jv step s xs with|some (ys,s1)=>(match jv step s1 zs with|some (us,s2)=>some (ys++us,s2)|none=>none)|none=>none):=by
 intro xs;induction xs with
 |nil=>intro zs s;simp only [aaW,jv];cases jv step s zs<;>rfl
 |cons x xs ih=>
  intro zs s;simp only [aas,jv];cases step s x with
  |none=>rfl
  |some p=>
   obtain ⟨b,s1⟩:=p;simp only [ih];cases jv step s1 xs with
   |none=>rfl
   |some q=>
    obtain ⟨ys,s2⟩:=q;dsimp only;cases jv step s2 zs with
    |none=>rfl
    |some q2=>cases b<;>rfl
theorem Mg {S:Type}{step:S->MV->Option (Bool×S)}{xs:List MV} {s s':S}{ys:List MV}(h:jv step s xs=some (ys,s')){k:Nat}(hk:k<xs.length): ∃yk sk b UJ,jv step s (xs.take k)=some (yk,sk)/\step sk xs[k]=some (b,UJ)/\jv step s (xs.take (k+1))=some (bif b then yk else yk++[xs[k]],UJ):=by
 have e:xs=xs.take k++xs[k]::xs.drop (k+1):=by simp
 rw [e,yT] at h;cases h1:jv step s (xs.take k) with
 |none=>simp [h1] at h
 |some p=>
  obtain ⟨yk,sk⟩:=p;simp only [h1,jv] at h;cases h2:step sk xs[k] with
  |none=>simp [h2] at h
  |some q=>
   obtain ⟨b,UJ⟩:=q;refine ⟨yk,sk,b,UJ,rfl,h2,?_⟩;have e2:xs.take (k+1)=xs.take k++[xs[k]]:=by rw [List.take_add_one,aah hk];rfl
   rw [e2,yT,h1];simp only [jv,h2];cases b<;>simp
theorem Rk {S:Type}{step:S->MV->Option (Bool×S)}: ∀{xs:List MV} {s s':S} {ys:List MV},jv step s xs=some (ys,s')->ys.length<=xs.length:=by
 intro xs;induction xs with
 |nil=>intro s s' ys h;simp [jv] at h;simp [h.1]
 |cons x xs ih=>
  intro s s' ys h;simp only [jv] at h;cases h1:step s x with
  |none=>simp [h1] at h
  |some p=>
   obtain ⟨b,s1⟩:=p;simp only [h1] at h;cases h2:jv step s1 xs with
   |none=>simp [h2] at h
   |some q=>obtain ⟨zs,s2⟩:=q;simp only [h2,AS,aa1] at h;have:=ih h2;rw [<-h.1];cases b<;>simp<;>omega
structure p7 (P:Program) (c:Ctx) (g:Nat) (lb:Array Value) {S:Type} (Inv:S->(Nat->Prop)->Ph->World->Prop) (step:S->MV->Option (Bool×S)):Prop where
 call: ∀{s Z φ W v x b s'},Inv s Z φ W->(∀b,W.heap.size<=b->Z b)->iA φ W->bN c.key φ v x->step s x=some (b,s')-> cn P g (#[v]++lb) W λr W'=>r= .bool b/\ ∃φ',Trans Z φ W φ' W'/\iA φ' W'/\Inv s' Z φ' W'
 frame: ∀{s Z φ W W'},Inv s Z φ W->W.heap.size<=W'.heap.size->(∀b,Z b->b<W.heap.size->W'.heap[b]? =W.heap[b]?)->Inv s (λb=>Z b/\b<W.heap.size) φ W'
 mono: ∀{s Z Z' φ W},Inv s Z φ W->(∀b,Z b->Z' b)->Inv s Z' φ W
structure uk (c:Ctx) (ob:Option Nat) {S:Type} (Inv:S->(Nat->Prop)->Ph->World->Prop) (Z0:Nat->Prop) (φ0:Ph) (w0:World) (s:S) (Z:Nat->Prop) (φ:Ph) (W:World):Prop where
 inv:Inv s Z φ W
 new: ∀b,W.heap.size<=b->Z b
 sub: ∀b,Z b->Z0 b\/w0.heap.size<=b
 fB:iA φ W
 tr:Trans (λb=>(Z0 b\/w0.heap.size<=b)\/ob=some b) φ0 w0 φ W
 free: ∀b off,ob=some b->φ b off=none
structure GI (P:Program) (c:Ctx) (h el:Nat):Prop where
 run: ∀{S:Type} {Inv:S->(Nat->Prop)->Ph->World->Prop} {step:S->MV->Option (Bool×S)} {g:Nat} {lb:Array Value},p7 P c g lb Inv step-> ∀{v0:Value} {xs ys:List MV} {w:World} {Z0:Nat->Prop} {φ0:Ph} {s0 s':S},(∀x∈xs,∃ms,x= .agg ms)->bw c (aO.plain λb=>v0.ownBlock=some b) (gf c.key φ0) w v0 ⟨el,false,xs⟩->(∀b,v0.ownBlock=some b-> ¬Z0 b)-> Inv s0 Z0 φ0 w->(∀b,w.heap.size<=b->Z0 b)->iA φ0 w->jv step s0 xs=some (ys,s')-> cn P h #[v0,.func (.func g) #[] lb] w λv W=> ∃Z φ,uk c v0.ownBlock Inv Z0 φ0 w s' Z φ W/\bw c (aO.plain λb=>v0.ownBlock=some b) (gf c.key φ) W v ⟨el,false,ys⟩/\ ∀b,v.ownBlock=some b->v0.ownBlock=some b
def mq (P:Program)(c:Ctx):Prop:= ∀h,c.FW h=true->GI P c h (c.ga (c.key h))
end Dn
/-
  Regions with a call of slices.DeleteFunc. Conditions: none.
-/
namespace Dn
open Go
section
variable {P:Program}{c:Ctx}{Z:aO} {Z':Nat->Prop} {e e':Env}{st bm:St}{a:Act} {w w':World}{R:Type}{K:St->Option R}{r:R}{Q:Exit->Act->World->Prop}{o:Oper}{root:Nat}{cs:List ak}{ks:List LK}{ls outs:List MV}{ps:List (Nat×Nat)} {φ':Ph}
theorem N5 (h:bg c Z e st a w)(hf:ah st.fr root= .box cs)(hm:cR cs=false)(hr:aP st.bI root=false)(ht:TC st [] ks cs ls ps)(hZ: ∀b,Z' b↔w.heap.size<=b\/gone e root ps b){X:Nat->Prop}(hXb: ∀t dj,ah st.fr t= .box dj-> ¬X (e.B t))(hXf: ∀f o b,ar st.az f=some o->(e.E f).ownBlock=some b-> ¬X b)(nq:Trans (λb=>Z' b\/X b) e.φ w φ' w')(hi:iA φ' w')(hc:cN c Z' φ' w' (e.B root) ks outs)(hK:Ep st root ks ps outs K=some r): ∃e' bm,bg c Z e' bm a w'/\e'.φ=φ'/\(∀b,X b-> ¬Z' b->(∀t dj,ah bm.fr t= .box dj->e'.B t≠b)/\ ∀f o,ar bm.az f=some o->(e'.E f).ownBlock≠some b)/\K bm=some r:=by
 unfold Ep at hK;obtain ⟨DB,rest,tj,g1,hK⟩:=eV hK;cases rest with
 |cons=>simp [gN] at hK
 |nil=>
 simp only [gN,Ia] at hK;cases im:Eo (aM ks) (fA (cI ps) st.az)||meets (aM ks) st.bF with
 |true=>simp [im] at hK
 |false=>
 simp only [im,cond_false,L8,gV,pN] at hK;obtain ⟨KI,A6⟩:=aam.1 im;have KI:=A3 KI;have A6:=A4 A6;obtain ⟨rU,m3,E,arr,T,rW,bH,hzb,jn,jX,db,cS⟩:=hc;have ek:rU=DB/\m3=tj.az:=by unfold EG at rW;rw [g1] at rW;simp only [gN,AS,aa1] at rW;exact ⟨rW.1.symm,rW.2.symm⟩
 obtain ⟨rfl,rfl⟩:=ek;have cb:=rV g1;have eu: ∀f o,ar tj.az f=some o->f∈aM ks:=λf o ho=>(wa g1 f o ho).resolve_left (by simp [ar]);have hs:=h.slot root;rw [hf] at hs;have mb: ∀b,Z' b->Z.In b:=by
  intro b hb;rcases (hZ b).1 hb with hb|hb
  ·exact h.bt b hb
  ·exact wb h hf hr ht b hb
 have Ih: ∀t dj,ah st.fr t= .box dj->t≠root-> ¬Z' (e.B t):=by
  intro t dj QJ cg hz;rcases (hZ _).1 hz with hz|hz|⟨x,g,hp,hz⟩
  ·have:=pV h QJ;omega
  ·exact h.bb t root dj cs QJ hf cg hz
  ·obtain ⟨o,ho,_⟩:=ht.az x g hp;exact h.bf t dj g o QJ ho hz
 have hold: ∀f o,ar (fA (cI ps) st.az) f=some o->ar st.az f=some o/\f∉cI ps:=by
  intro f o ho;rw [AY] at ho;cases hn:aP (cI ps) f with
  |true=>simp [hn] at ho
  |false=>simp only [hn,No,if_false] at ho;exact ⟨ho,λhm=>by rw [(aN _ _).2 hm] at hn;cases hn⟩
 have yL: ∀f o b,ar (fA (cI ps) st.az) f=some o->(e.E f).ownBlock=some b-> ¬Z' b:=by
  intro f o b ho hb hz;obtain ⟨vc,XK⟩:=hold f o ho;rcases (hZ _).1 hz with hz|hz|⟨x,g,hp,hz⟩
  ·have:=pW h vc hb;omega
  ·exact h.bf root cs f o hf vc (by rw [hb,hz])
  ·obtain ⟨o2,bJ,_⟩:=ht.az x g hp;have:=h.ff f g o o2 b vc bJ hb hz;subst this;exact XK (yJ.2 ⟨x,hp⟩)
 have YA: ∀t dj,ah st.fr t= .box dj->t≠root-> ¬(Z' (e.B t)\/X (e.B t)):=λt dj h1 h2 h3=>h3.elim (Ih t dj h1 h2) (hXb t dj h1);have Rl: ∀f o b,ar (fA (cI ps) st.az) f=some o->(e.E f).ownBlock=some b-> ¬(Z' b\/X b):=λf o b h1 h2 h3=>h3.elim (yL f o b h1 h2) (hXf f o b (hold f o h1).1 h2);let E2:Nat->Value:=λf=>if aP (aM ks) f=true then E f else e.E f
 have ot: ∀f,f∈aM ks->E2 f=E f:=λf hf=>by show (if _ then _ else _)=_;rw [if_pos ((aN _ _).2 hf)]
 have Hy: ∀f,f∉aM ks->E2 f=e.E f:=λf hf=>by show (if _ then _ else _)=_;rw [if_neg (λhq=>hf ((aN _ _).1 hq))]
 have fK: ∀f o,ar (tj.az++fA (cI ps) st.az) f=some o->(f∈aM ks/\ar tj.az f=some o)\/(f∉aM ks/\ar (fA (cI ps) st.az) f=some o):=by
  intro f o ho;rw [EO] at ho;cases hq:ar tj.az f with
  |some o2=>simp only [hq,AS] at ho;exact .inl ⟨eu f o2 hq,by rw [ho]⟩
  |none=>simp only [hq] at ho;refine .inr ⟨λhm=> ?_,ho⟩;rw [KI f hm] at ho;cases ho
 let e2:Env:=⟨e.key,φ',E2,e.B,tj.az++fA (cI ps) st.az⟩
 have lu:eR (λg=>True/\g∉aM ks) (λ_=>True) e e2:=by
  refine ⟨rfl,nq.ph,λ_ _=>rfl,λf o' vc hS=> ?_⟩;rcases fK f o' vc with ⟨h1,_⟩|⟨h1,h2⟩
  ·exact absurd h1 hS.2
  ·exact ⟨o',by rw [h.m];exact (hold f o' h2).1,Hy f h1,rfl⟩
 have QK:ai e2 arr.toList rU:=by
  have X9:eR (λf=>f∈aM ks) (λ_=>True) ⟨c.key,φ',E,λ_=>e.B root,tj.az⟩ ⟨c.key,φ',E2,λ_=>e.B root,tj.az++fA (cI ps) st.az⟩:=by
   refine ⟨rfl,.refl _,λ_ _=>rfl,λf o' vc hS=> ?_⟩;rcases fK f o' vc with ⟨h1,h2⟩|⟨h1,_⟩
   ·exact ⟨o',h2,ot f h1,rfl⟩
   ·exact absurd hS h1
  have h1:=jX.on X9 cb;have Ya:eR (λ_=>True) (λ_=>False) ⟨c.key,φ',E2,λ_=>e.B root,tj.az++fA (cI ps) st.az⟩ e2:=⟨h.key,.refl _,λ_ h=>h.elim,λf o ho _=>⟨o,ho,rfl,rfl⟩⟩
  exact h1.on Ya (λ_ _ _ _=>trivial)
 have hm3:cR rU=false:=QK.rJ;have Ii: ∀t,ah (bu (iN (aM ks) st.fr) root (.box rU)) t=if t=root then .box rU else v7 (aM ks) (ah st.fr t):=λt=>by rw [a8,AZ]
 have nW: ∀t ds,ah (bu (iN (aM ks) st.fr) root (.box rU)) t= .box ds-> ∃ds0,ah st.fr t= .box ds0:=by
  intro t ds hb;rw [Ii] at hb;by_cases nq:t=root
  ·exact ⟨cs,by rw [nq];exact hf⟩
  ·rw [if_neg nq] at hb;obtain ⟨d0,h1,_⟩:=nt _ hb;exact ⟨d0,h1⟩
 refine ⟨e2,⟨st.bI,st.bF,bu (iN (aM ks) st.fr) root (.box rU),tj.az++fA (cI ps) st.az⟩,⟨h.defers,h.size,rfl,h.key,?_,?_,?_,?_,?_,?_,?_,hi,λb hb=>h.bt b (acd nq.size hb)⟩,rfl,λb hb Tv=>⟨λt ds QJ he=> ?_,λf o ho he=> ?_⟩,hK⟩;rotate_left 7
 ·obtain ⟨d0,k1⟩:=nW t ds QJ;exact hXb t d0 k1 (by have he:e.B t=b:=he;rw [he];exact hb)
 ·have he:(E2 f).ownBlock=some b:=he;rcases fK f o ho with ⟨k1,k2⟩|⟨k1,k2⟩
  ·rw [ot f k1] at he;obtain ⟨I,cells,_,_,_,_,q5⟩:=(db f o k2).1.row;exact Tv (q5 _ he).1
  ·rw [Hy f k1] at he;exact hXf f o b (hold f o k2).1 he hb
 ·show (ax (bu (iN (aM ks) st.fr) root (.box rU))).Nodup;refine cD ?_;rw [A0];exact h.nodup
 ·intro t;show bk Z e2 w' t _ (ah (bu (iN (aM ks) st.fr) root (.box rU)) t);rw [Ii];by_cases mi:t=root
  ·subst mi;rw [if_pos rfl];exact ⟨hs.1.gn (by rw [pR hm,pR hm3]),hs.2.bt,⟨_,bH,rfl,QK⟩,jn⟩
  ·rw [if_neg mi];have cu:=h.slot t;have TQ:=YA t;generalize ah st.fr t=s at cu TQ;by_cases xK: ∃ds,s= .box ds
   ·obtain ⟨ds,rfl⟩:=xK;rw [Ic];have hz:=TQ ds rfl mi;obtain ⟨o2,h1,h2⟩:=cu.2.obj;refine ⟨cu.1.gn (EN _ _),cu.2.bt,⟨o2,by show w'.heap[e.B t]? =_;rw [nq.heap _ hz (aC h1)];exact h1,?_⟩,λoff=>by show φ' (e.B t) off=none;rw [nq.free _ off hz];exact cu.2.free off⟩;exact (Ig h2).on lu (Ma _ (λl _ f _=>trivial))
   ·have Yb:aa e (a.tmps.getD t undef) s:=by cases s<;>simp only [bk] at cu<;>first|exact cu|exact absurd ⟨_,rfl⟩ xK
    have h2:=(Yb.Wz (aM ks)).on lu (L9 _ (cw s));have QL: ∀ds,v7 (aM ks) s≠ .box ds:=λds hq=>by obtain ⟨d0,h1,_⟩:=nt _ hq;exact xK ⟨d0,h1⟩
    generalize v7 (aM ks) s=s2 at h2 QL;cases s2<;>first|exact h2|exact absurd rfl (QL _)
 ·intro t;show bK (bu (iN (aM ks) st.fr) root (.box rU)) (ah (bu (iN (aM ks) st.fr) root (.box rU)) t);have Qm: ∀q,bP (ah st.fr q)=true->bP (ah (bu (iN (aM ks) st.fr) root (.box rU)) q)=true:=by
   intro q hq;rw [Ii];by_cases Wx:q=root
   ·rw [if_pos Wx];rfl
   ·rw [if_neg Wx];exact A5 _ hq
  rw [Ii];by_cases mi:t=root
  ·rw [if_pos mi];trivial
  ·rw [if_neg mi];refine yK _ ?_;have jV:=h.root t;generalize ah st.fr t=s at jV;cases s with
   |ptr q o=>exact Qm q jV
   |hp q o i=>exact Qm q jV
   |rr q=>exact Qm q jV
   |_=>trivial
 ·intro f o ho;rcases fK f o ho with ⟨h1,h2⟩|⟨h1,h2⟩
  ·have hfm:=(db f o h2).1;have rK:f∉Z.bF:=by rw [<-h.defers.2.2.1];exact A6 f h1
   refine bw.to ?_ rK;obtain ⟨I,cells,q1,q2,q3,q4,q5⟩:=hfm.row;refine ⟨I,cells,q1,q2,?_,?_,λb hb=> ?_⟩
   ·show w'.ownsRow 0 o.ty I.size (E2 f) o.xs.length cells;rw [ot f h1];exact q3
   ·show aB e.key φ' I.size cells o.xs;rw [h.key];exact q4
   ·have hb:(E2 f).ownBlock=some b:=hb;rw [ot f h1] at hb;exact ⟨mb b (q5 b hb).1,(q5 b hb).2.1,λhc=>hc.elim⟩
  ·obtain ⟨vc,XK⟩:=hold f o h2;obtain ⟨I,cells,q1,q2,q3,q4,q5⟩:=(h.dV f o vc).row;refine ⟨I,cells,q1,q2,?_,q4.mono nq.ph,?_⟩
   ·show w'.ownsRow 0 o.ty I.size (E2 f) o.xs.length cells;rw [Hy f h1];refine ⟨q3.1,?_⟩;rcases q3.2 with h6|⟨g,cap,bU,k1,k2,k3,k4⟩
    ·exact .inl h6
    ·refine .inr ⟨g,cap,bU,k1,k2,?_,k4⟩;rw [nq.heap g (Rl f o g h2 (by rw [k1];rfl)) (aC k3)];exact k3
   ·intro aA hb;have hb:(E2 f).ownBlock=some aA:=hb;rw [Hy f h1] at hb;refine ⟨(q5 aA hb).1,λoff u hu=>(q5 aA hb).2.1 off u ?_,λk1 k2 j hj=>nq.ph.tk ((q5 aA hb).2.2 k1 k2 j hj) hj⟩;have hu:φ' aA off=some u:=hu;rw [nq.free _ off (Rl f o aA h2 hb)] at hu;exact hu
 ·intro t t' c1 c2 h1 h2 cg;obtain ⟨d1,k1⟩:=nW t c1 h1;obtain ⟨d2,k2⟩:=nW t' c2 h2;exact h.bb t t' d1 d2 k1 k2 cg
 ·intro t c1 f o h1 h2;show (E2 f).ownBlock≠some (e.B t);rcases fK f o h2 with ⟨k1,k2⟩|⟨k1,k2⟩
  ·rw [ot f k1];by_cases mi:t=root
   ·rw [mi];exact (db f o k2).2
   ·obtain ⟨d1,k3⟩:=nW t c1 h1;intro hq;obtain ⟨I,cells,_,_,_,_,q5⟩:=(db f o k2).1.row;exact Ih t d1 k3 mi (q5 _ hq).1
  ·rw [Hy f k1];obtain ⟨d1,k3⟩:=nW t c1 h1;exact h.bf t d1 f o k3 (hold f o k2).1
 ·intro f f' o o' k h1 h2 h3 h4;have h3:(E2 f).ownBlock=some k:=h3;have h4:(E2 f').ownBlock=some k:=h4;rcases fK f o h1 with ⟨k1,k2⟩|⟨k1,k2⟩<;>rcases fK f' o' h2 with ⟨k3,k4⟩|⟨k3,k4⟩
  ·rw [ot f k1] at h3;rw [ot f' k3] at h4;exact cS f f' o o' k k2 k4 h3 h4
  ·rw [ot f k1] at h3;rw [Hy f' k3] at h4;obtain ⟨I,cells,_,_,_,_,q5⟩:=(db f o k2).1.row;exact absurd (q5 _ h3).1 (yL f' o' k k4 h4)
  ·rw [Hy f k1] at h3;rw [ot f' k3] at h4;obtain ⟨I,cells,_,_,_,_,q5⟩:=(db f' o' k4).1.row;exact absurd (q5 _ h4).1 (yL f o k k2 h3)
  ·rw [Hy f k1] at h3;rw [Hy f' k3] at h4;exact h.ff f f' o o' k (hold f o k2).1 (hold f' o' k4).1 h3 h4
end
end Dn
/-
  A call of slices.DeleteFunc. Conditions: none.
-/
namespace Dn
open Go
section
variable {P:Program}{c:Ctx}{Z:aO} {e e':Env}{st bm:St}{a:Act} {w w':World}{R:Type}{K:St->Option R}{r:R}{Q:Exit->Act->World->Prop}{o:Oper}
theorem cn.imp {P:Program}{f:FuncId}{args:Array Value}{w:World} {R R':Value->World->Prop}(hc:cn P f args w R)(h: ∀v w',R v w'->R' v w'):cn P f args w R':=by
 unfold cn at hc⊢;split
 ·rename_i ek;rw [ek] at hc;exact Calls.mono hc (λx tp ⟨v,e,hr⟩=>⟨v,e,h v tp hr⟩)
 ·rename_i ek;rw [ek] at hc;exact h _ _ hc
 ·rename_i h1 h2;split at hc
  ·rename_i ek;exact absurd ek (h1 _ _ _)
  ·rename_i ek;exact absurd ek (h2 _ _)
  ·exact hc
theorem Trans.ml {I J:Nat->Prop} {φ φ':Ph}(h:Trans I φ w φ' w')(hs: ∀b,I b->J b):Trans J φ w φ' w':=⟨h.ph,λb hb=>h.heap b (λhz=>hb (hs b hz)),λb o hb=>h.free b o (λhz=>hb (hs b hz)),h.size,h.rest⟩
theorem Bo {key:Nat->Nat} {φ:Ph}{v:Value}{b:Bool}(h:bN key φ v (.b b)):v= .bool b:=by obtain ⟨_,h⟩:=h;generalize oK:[v]=l at h;cases h;simpa using oK
theorem K0 (hS:Sound P c){f:Nat}(hg:c.bQ (c.key f)=false){lb:Array Value}{ms:List MV}:p7 P c f lb (λ(_:Unit) (_:Nat->Prop) φ (_:World)=>aE c.key φ lb.toList ms) (PG c.g (c.key f) ms):=by
 refine ⟨?_,λh _ _=>h,λh _=>h⟩;intro s Z φ W v x b s' hinv iy du K1 cu;unfold PG at cu;split at cu
 ·rename_i b' hx;simp only [AS,aa1] at cu;obtain ⟨rfl,_⟩:=cu;have bZ:bO c (λb=>W.heap.size<=b) φ W (c.key f) (v::lb.toList) (x::ms):=by simp only [bO,hg,No,if_false];exact ⟨v,lb.toList,rfl,K1,hinv⟩
  have:=hS f (x::ms) (.b b') hx φ W (λb=>W.heap.size<=b) _ (λb hb=>hb) bZ du;have e1:(v::lb.toList).toArray= #[v]++lb:=by apply aaL.1;simp
  rw [e1] at this;refine this.imp ?_;rintro v' w' ⟨φ',t1,t2,t3⟩;exact ⟨Bo t3,φ',t1.ml iy,t2,hinv.mono t1.ph⟩
 ·cases cu
theorem N6 (hS:Sound P c){f pos aA:Nat}{ks:List LK}{ms:List MV}{lb0:List Value}(hg:c.bQ (c.key f)=true)(nX:c.sig (c.key f)=some (pos,ks,ks))(cU:pos=ms.length+1): p7 P c f (lb0++[abL (some ⟨aA,0,none⟩)]).toArray (λls Z φ W=>cN c Z φ W aA ks ls/\aE c.key φ lb0 ms) (PH c.g (c.key f) ms):=by
 refine ⟨?_,?_,λh hz=>⟨h.1.wide hz,h.2⟩⟩
 ·intro ls Z φ W v x b s' hinv iy du K1 cu;obtain ⟨jj,oS⟩:=hinv;unfold PH at cu;split at cu
  ·rename_i b' outs hx;simp only [AS,aa1] at cu;obtain ⟨rfl,rfl⟩:=cu;have hl:=oS.length;have bZ:bO c Z φ W (c.key f) (v::(lb0++[abL (some ⟨aA,0,none⟩)])) (x::(ms++[.cell (.func 0 ls)])):=by
    simp only [bO,hg,if_true];refine .inr (.inr ⟨pos,ks,ks,0,ls,aA,nX,?_,?_,?_,jj⟩)
    ·rw [cU,aa8,<-hl,aaf (abc _)];simp
    ·rw [cU,aa8,aaf (abc _)];simp
    ·rw [cU,List.set_cons_succ,List.set_append_right _ _ (abc _),Nat.sub_self];exact ⟨v,_,rfl,K1,oS.append ⟨_,[],rfl,⟨rfl,.rp aA 0 [] [] .nil (by simp)⟩,rfl⟩⟩
   have:=hS f _ _ hx φ W Z _ iy bZ du;have e1:(v::(lb0++[abL (some ⟨aA,0,none⟩)])).toArray= #[v]++(lb0++[abL (some ⟨aA,0,none⟩)]).toArray:=by apply aaL.1;simp
   rw [e1] at this;refine this.imp ?_;rintro v' w' ⟨φ',t1,t2,jt,pos',ks',ko',YB,HM,oq,Hv,hc⟩;rw [nX] at oq;simp only [AS,aa1] at oq;obtain ⟨rfl,rfl,rfl⟩:=oq;have hb:YB=aA:=by rw [cU,aa8,<-hl,aaf (abc _)] at Hv;simp at Hv;exact Hv.1.symm
   subst hb;exact ⟨Bo jt,φ',t1,t2,hc,oS.mono t1.ph⟩
  ·cases cu
 ·intro ls Z φ W W' hinv jT eo;obtain ⟨⟨cs,m,E,arr,T,k1,k2,k3,k4,k5,k6,k7⟩,oS⟩:=hinv;have cz:=aC k2;refine ⟨⟨cs,m,E,arr,T,k1,(eo aA k3 cz).trans k2,⟨k3,cz⟩,k4,k5,λf' o' ho=>⟨?_,(k6 f' o' ho).2⟩,k7⟩,oS⟩;obtain ⟨I,cells,q1,q2,q3,q4,q5⟩:=(k6 f' o' ho).1.row;refine ⟨I,cells,q1,q2,⟨q3.1,?_⟩,q4,λb hb=>⟨⟨(q5 b hb).1,AR q3 hb⟩,(q5 b hb).2⟩⟩;rcases q3.2 with h6|⟨g,cap,bU,r1,r2,r3,r4⟩
  ·exact .inl h6
  ·exact .inr ⟨g,cap,bU,r1,r2,(eo g (q5 g (by rw [r1];rfl)).1 (aC r3)).trans r3,r4⟩
theorem Mh {xs:List MV}(h:xs.all TL=true): ∀x∈xs,∃ms,x= .agg ms:=by intro x hx;have:=OF.1 h x hx;cases x<;>simp [TL] at this;exact ⟨_,rfl⟩
theorem put_comm {a:Act}{x y:Nat}(h:x≠y)(v u:Value):(a.put (some x) v).put (some y) u=(a.put (some y) u).put (some x) v:=by show ({a with tmps:=(a.tmps.setIfInBounds x v).setIfInBounds y u}:Act)={a with tmps:=(a.tmps.setIfInBounds y u).setIfInBounds x v};rw [adI v u h]
theorem Mi {y d:Nat}{o1 o2:Oper}{h:Nat} {v0 v' fv:Value}{ys:List MV} {φ0:Ph}{w0:World}(hs:bg c Z e st a w)(h1:o1.dst=some y)(h2:o2.dst=some d)(hyd:d≠y)(mb: ∀b,v0.ownBlock=some b->Z.In b)(db:bw c (aO.plain λb=>v0.ownBlock=some b) (gf c.key e.φ) w v' ⟨c.ga (c.key h),false,ys⟩)(cb: ∀b,v'.ownBlock=some b->v0.ownBlock=some b)(ou: ∀b,v0.ownBlock=some b->(∀t dj,ah st.fr t= .box dj->e.B t≠b)/\ ∀f o,ar st.az f=some o->(e.E f).ownBlock≠some b)(ht:Trans Z φ0 w0 e.φ w)(hK:(dW st (o2.dst.getD 0) ⟨c.ga (c.key h),false,ys⟩ λst=>aG c st o2.dst (.sc (.own (o2.dst.getD 0))) λst=>aG c st o1.dst (.sc .un) K)=some r):Out c Z K r φ0 w0 ((a.put o1.dst fv).put o2.dst v') w:=by
 have rK:=hs.Wr hK;have lv:=jk hK;have uI:bw c Z.nc e w v' ⟨c.ga (c.key h),false,ys⟩:=by obtain ⟨I,cells,g1,g2,g3,g4,g5⟩:=db.row;refine ⟨I,cells,g1,g2,g3,by rw [hs.key];exact g4,λaA hb=>⟨mb aA (cb aA hb),(g5 aA hb).2.1,λhc=>hc.elim⟩⟩
 have Ez:=hs.Gm rK uI λb hb=>ou b (cb b hb);obtain ⟨I,cells,g1,g2,g3,g4,g5⟩:=db.row;have dS:v'.oneCell'=true:=by rcases g3.2 with ⟨rfl,_⟩|⟨g,cap,bU,rfl,_⟩<;>rfl
 obtain ⟨e3,jm,q1,q2,q3⟩:=bS (v:=v') (s:= .sc (.own (o2.dst.getD 0))) Ez (.of (kN dS) trivial) lv;obtain ⟨e4,st4,q4,q5,q6⟩:=bS (v:=fv) (s:= .sc .un) q1 (.of (by simp [aa]) trivial) q2;rw [h1,h2] at q4;rw [put_comm hyd] at q4;rw [h1,h2];exact ⟨e4,st4,q4,by rw [q6,q3];exact ht,q5⟩
theorem UK (hS:Sound P c){h f x y d:Nat}{aS:Array Operand}{cl:Call}{o1 o2:Oper}(hd:GI P c h (c.ga (c.key h)))(h1:o1.op= .makeFunc (.func f) #[] aS)(h2:o2.op= .call cl)(iG:cl.callee= .value (.func h))(bZ:cl.args.toList=[.tmp x,.tmp y])(hd1:o1.dst=some y)(WR:o2.dst=some d)(Qx:x≠y)(hyd:d≠y)(hyn:y<c.n)(gx:bg c Z e st a w)(hK:PI c h f aS.toList (.tmp x) o1 o2 st K=some r): o1.wp P a w (λa1 w1=>o2.wp P a1 w1 (Out c Z K r e.φ w) Q) Q:=by
 have ab2:(execOp a.eval o1).run P w= .ok (.value (.func (.func f) #[] (aS.map a.eval))) w:=by simp [execOp,h1,Instr.makeFunc]
 unfold ad2;rw [ab2,adT];have Dq: ∀v:Value,(a.put o1.dst v).eval (.tmp x)=a.eval (.tmp x)/\(a.put o1.dst v).eval (.tmp y)=v:=by
  intro v;rw [hd1];have hy:y<a.tmps.size:=by rw [gx.size];exact hyn
  constructor
  ·show (a.put (some y) v).tmps.getD x undef=a.tmps.getD x undef;rw [Act.rI hy,if_neg Qx]
  ·show (a.put (some y) v).tmps.getD y undef=v;rw [Act.rI hy,if_pos rfl]
 have YC: ∀v:Value,cl.args.map (a.put o1.dst v).eval= #[a.eval (.tmp x),v]:=by intro v;apply aaL.1;rw [aeh,bZ];simp [(Dq v).1,(Dq v).2]
 have E1: ∀v:Value,(execOp (a.put o1.dst v).eval o2).run P w=(callFunc h #[a.eval (.tmp x),v]).run P w:=by intro v;have:=YC v;simp [execOp,h2,resolve,iG,this,Act.eval,aei,invoke]
 unfold PI at hK;cases nX:c.sig (c.key f) with
 |none=>
  simp only [nX] at hK;cases hg:c.bQ (c.key f) with
  |true=>simp [hg] at hK
  |false=>
  simp only [hg,cond_false] at hK;obtain ⟨e1,aT,ms,s1,x1,r1,lv,dS⟩:=mc gx hK;obtain ⟨e2,cK,xs,G,q8⟩:=mh s1 (s1.eval (.tmp x)).1 lv;simp only [gF] at q8;obtain ⟨Bp,AP⟩:=cj q8;obtain ⟨p,hp,Tk⟩:=fQ AP;obtain ⟨ys,u⟩:=p;have oS:aE c.key e1.φ (aS.map a.eval).toList ms:=by have:=dq.one r1 dS;rw [s1.key] at this;simpa using this
  have zJ: ∀b,(a.eval (.tmp x)).ownBlock=some b-> ¬w.heap.size<=b:=by intro b hb;obtain ⟨I,cells,_,_,g3,_⟩:=G.row.row;have:=AR g3 hb;omega
  have qI:=hd.run (K0 hS hg) (Mh Bp) G.row zJ oS (λb hb=>hb) s1.fB hp;refine oN (E1 _) qI ?_;rintro v' w' ⟨Zw,φ',hW,db,cb⟩;have UL: ∀b,((w.heap.size<=b\/w.heap.size<=b)\/(a.eval (.tmp x)).ownBlock=some b)->Z.In b:=by
   rintro b ((hb|hb)|hb)
   ·exact s1.bt b hb
   ·exact s1.bt b hb
   ·exact G.In b hb
  have hzb: ∀t cs,ah cK.fr t= .box cs-> ¬((w.heap.size<=e2.B t\/w.heap.size<=e2.B t)\/(a.eval (.tmp x)).ownBlock=some (e2.B t)):=by
   rintro t cs ht ((hb|hb)|hb)
   ·have:=pV G.mg ht;omega
   ·have:=pV G.mg ht;omega
   ·exact G.box t cs ht hb
  have hzf: ∀f o k,ar cK.az f=some o->(e2.E f).ownBlock=some k-> ¬((w.heap.size<=k\/w.heap.size<=k)\/(a.eval (.tmp x)).ownBlock=some k):=by
   rintro f o k ho hk ((hb|hb)|hb)
   ·have:=pW G.mg ho hk;omega
   ·have:=pW G.mg ho hk;omega
   ·exact G.dV f o k ho hk hb
  have nq:=hW.tr;rw [<-G.φ] at nq;have XZ:=G.mg.called UL hzb hzf nq hW.fB;have mi:Trans Z e.φ w φ' w':=x1.tr.trans (hW.tr.ml UL);exact Mi (e:={e2 with φ:=φ'}) XZ hd1 WR hyd G.In db cb (λb hb=>⟨λt dj ht he=>G.box t dj ht (by rw [hb,<-he]),λf o ho hk=>G.dV f o b ho hk hb⟩) mi Tk
 |some sg=>
  obtain ⟨pos,ks,ko⟩:=sg;simp only [nX] at hK;obtain ⟨e1,aT,ms,s1,x1,r1,lv,dS⟩:=mc gx hK;obtain ⟨e2,cK,xs,G,q8⟩:=mh s1 (s1.eval (.tmp x)).1 lv;simp only [gF] at q8;obtain ⟨Bp,AP⟩:=cj q8;cases IJ:aS.toList.getLast? with
  |none=>simp [IJ] at AP
  |some y0=>
  simp only [IJ] at AP;split at AP;rotate_left
  ·cases AP
  rename_i root KP;split at AP;rotate_left
  ·cases AP
  rename_i cs hf;cases im:cR cs||aP cK.bI root||!dE c ks||!By pos (ms.length+1)||!c.bQ (c.key f)||!LN ks ko with
  |true=>simp [im] at AP
  |false=>
  simp only [im,cond_false] at AP;simp only [aam,ad6] at im;obtain ⟨⟨⟨⟨⟨hm,hr⟩,dU⟩,cU⟩,hg⟩,hko⟩:=im;have hko:=A8 hko;subst hko;have cU:=aQ cU;obtain ⟨ls,ps,ht,Tk⟩:=vg AP;obtain ⟨p,hp,Z8⟩:=fQ Tk;obtain ⟨ys,outs⟩:=p;have hy0:a.eval y0= .pointer (some ⟨e2.B root,0,none⟩):=by have:=(G.mg.eval y0).1;rw [KP] at this;exact this
  have ab3:(aS.map a.eval)=((aS.toList.dropLast.map a.eval)++[abL (some ⟨e2.B root,0,none⟩)]).toArray:=by
   apply aaL.1;rw [aeh];have cg:aS.toList≠[]:=by intro e;rw [e] at IJ;simp at IJ
   have h3:aS.toList=aS.toList.dropLast++[y0]:=by have h4:=List.dropLast_concat_getLast cg;have h5:=List.getLast?_eq_some_getLast cg;rw [IJ] at h5;rw [aeI h5];exact h4.symm
   rw [h3];simp [hy0]
  have oS:aE c.key e2.φ (aS.toList.dropLast.map a.eval) ms:=by have:=dq.one r1 dS;rw [s1.key,<-G.φ] at this;exact this
  have uj:bw c (aO.plain λb=>(a.eval (.tmp x)).ownBlock=some b) (gf c.key e2.φ) w (a.eval (.tmp x)) ⟨c.ga (c.key h),false,xs⟩:=by rw [G.φ];exact G.row
  let Z2:Nat->Prop:=λb=>w.heap.size<=b\/gone e2 root ps b;have hgx: ∀b,(a.eval (.tmp x)).ownBlock=some b-> ¬gone e2 root ps b:=by
   rintro b hb (rfl|⟨q,g,hp,hq⟩)
   ·exact G.box root cs hf hb
   ·obtain ⟨o,ho,_⟩:=ht.az q g hp;exact G.dV g o b ho hq hb
  have cz: ∀b,(a.eval (.tmp x)).ownBlock=some b->b<w.heap.size:=by intro b hb;obtain ⟨I,cells,_,_,g3,_⟩:=G.row.row;exact AR g3 hb
  have zJ: ∀b,(a.eval (.tmp x)).ownBlock=some b-> ¬Z2 b:=by
   rintro b hb (h'|h')
   ·have:=cz b hb;omega
   ·exact hgx b hb h'
  have jj:cN c Z2 e2.φ w (e2.B root) ks ls:=(AX G.mg hf hm dU ht).wide λb hb=> .inr hb;have qI:=hd.run (N6 hS hg nX cU) (Mh Bp) uj zJ ⟨jj,oS⟩ (λb hb=> .inl hb) G.mg.fB hp;rw [<-ab3] at qI;refine oN (E1 _) qI ?_;rintro v' w' ⟨Zw,φ',hW,db,cb⟩;have hZ2: ∀b,Z2 b\/w.heap.size<=b->Z2 b:=λb hb=>hb.elim id .inl;have UL: ∀b,Z2 b->Z.In b:=λb hb=>hb.elim (G.mg.bt b) (wb G.mg hf hr ht b);have nq:Trans (λb=>Z2 b\/(a.eval (.tmp x)).ownBlock=some b) e2.φ w φ' w':=hW.tr.ml λb hb=>hb.elim (λh=> .inl (hZ2 b h)) .inr;have YD:cN c Z2 φ' w' (e2.B root) ks outs:=hW.inv.1.wide λb hb=>hZ2 b (hW.sub b hb);obtain ⟨e3,jm,h3,Yc,hX,Yd⟩:=N5 G.mg hf hm hr ht (λb=>Iff.rfl) (X:=λb=>(a.eval (.tmp x)).ownBlock=some b) (λt dj vd hb=>G.box t dj vd hb) (λf o b ho hk hb=>G.dV f o b ho hk hb) nq hW.fB YD Z8;have mi:Trans Z e.φ w φ' w':=by have t2:Trans Z e2.φ w φ' w':=nq.ml λb hb=>hb.elim (UL b) (G.In b);rw [G.φ] at t2;exact x1.tr.trans t2
  subst Yc;exact Mi h3 hd1 WR hyd G.In db cb (λb hb=>hX b hb (zJ b hb)) mi Yd
end
end Dn
/-
  Regions in the order of their text. Conditions: none.
-/
namespace Dn
open Go
section
variable {P:Program}{c:Ctx}{Z:aO}{e:Env}{st:St}{a:Act}{w:World}{R:Type}{K:St->Option R}{r:R}{Q:Exit->Act->World->Prop}{ops:Array Oper}
theorem IK (hG:Good P c){is:List Nat}{rest:List Nat}: ∀{os:List Oper} {e:Env} {st:St} {a:Act} {w:World},is.map (ops[·]?)=os.map some->bg c Z e st a w->ug c ops.toList os st K=some r-> ∀{φ0:Ph} {w0:World},Trans Z φ0 w0 e.φ w->(∀a' w',Out c Z K r φ0 w0 a' w'->wpOps P ops Q rest a' w')->wpOps P ops Q (is++rest) a w:=by
 induction is with
 |nil=>
  intro os e st a w hm h hK φ0 w0 ht hQ;cases os with
  |nil=>exact hQ a w ⟨e,st,h,ht,hK⟩
  |cons=>simp at hm
 |cons i is ih=>
  intro os e st a w hm h hK φ0 w0 ht hQ;cases os with
  |nil=>simp at hm
  |cons o os=>simp only [abh,aaU] at hm;simp only [ug] at hK;rw [aas,wpOps_cons];refine wpOp_mono ?_ (Mb hG hm.1 h hK);rintro a' w' ⟨e2,cK,h1,h2,h3⟩;exact ih hm.2 h1 h3 (ht.trans h2) hQ
structure WS (c:Ctx) (l pre:List Oper) (f:Nat) (aS:List Operand) (h:Nat) (x:Operand) (o1 o2:Oper) (post:List Oper):Prop where
 eq:l=pre++o1::o2::post
 is: ∃(cs:Array Operand) (cl:Call) (x' y d:Nat),cs.toList=aS/\o1.op= .makeFunc (.func f) #[] cs/\o2.op= .call cl/\cl.callee= .value (.func h)/\cl.args.toList=[.tmp x',.tmp y]/\x= .tmp x'/\o1.dst=some y/\o2.dst=some d/\c.FW h=true/\x'≠y/\d≠y/\y<c.n
theorem K3: ∀{l pre N7:List Oper} {f:Nat} {aS:List Operand} {h:Nat} {x:Operand} {o1 o2:Oper} {post:List Oper},vR c pre l=some (N7,f,aS,h,x,o1,o2,post)->WS c (pre.reverse++l) N7 f aS h x o1 o2 post:=by
 intro l;induction l with
 |nil=>intro pre N7 f aS h x o1 o2 post hd;simp [vR] at hd
 |cons p1 l ih=>
  intro pre N7 f aS h x o1 o2 post hd;cases l with
  |nil=>simp [vR] at hd
  |cons p2 r=>
   have YE:vR c (p1::pre) (p2::r)=some (N7,f,aS,h,x,o1,o2,post)->WS c (pre.reverse++p1::p2::r) N7 f aS h x o1 o2 post:=by intro hq;have:=ih hq;simpa using this
   unfold vR at hd;split at hd
   ·rename_i f' first cs cl h1 h2
    split at hd
    ·rename_i h' x' y' d' k1 k2 k3 k4;cases hb:c.FW h'&&By y' d'&&!By x' d'&&!abe c.n d'&&!By (p2.dst.getD d') d' with
     |false=>simp only [hb,cond_false] at hd;exact YE hd
     |true=>
      simp only [hb,cond_true,AS,aa1] at hd;obtain ⟨rfl,rfl,rfl,rfl,rfl,rfl,rfl,rfl⟩:=hd;simp only [sh,IT,cY,decide_eq_true_eq,decide_eq_false_iff_not] at hb;obtain ⟨⟨⟨⟨q1,rfl⟩,q3⟩,q4⟩,q5⟩:=hb;have hf:first= #[]:=by apply aaL.1;simpa using k3
      subst hf;have WR: ∃d,p2.dst=some d/\d≠y':=by
       cases hp:p2.dst with
       |none=>rw [hp] at q5;simp at q5
       |some d=>rw [hp] at q5;exact ⟨d,rfl,q5⟩
      obtain ⟨d,WR,hd3⟩:=WR;refine ⟨rfl,cs,cl,x',y',d,rfl,h1,h2,k1,k2,rfl,k4,WR,q1,q3,hd3,?_⟩;rcases Nat.lt_or_ge y' c.n with cz|Nw
      ·exact cz
      ·have aj0:=adU Nw;simp_all
    ·exact YE hd
   ·exact YE hd
theorem IM: ∀{l:List Oper},Ay l=true-> ∀o∈l,o.guard=none:=by
 intro l;induction l with
 |nil=>intro _ o ho;cases ho
 |cons p l ih=>
  intro h o ho;unfold Ay at h;cases hg:p.guard with
  |none=>
   rw [hg] at h;rcases AI.1 ho with rfl|ho
   ·exact hg
   ·exact ih h o ho
  |some=>rw [hg] at h;cases h
theorem N8 (hG:Good P c)(Bq:mq P c)(id:Nat)(ops:Array Oper):Ip P c id ops:=by
 intro Z e st a w R K r Q h hK hQ;unfold PJ at hK;split at hK;rotate_left
 ·exact EQ (NN hG id ops) h hK hQ
 rename_i pre f aS hh x o1 o2 post hda;obtain ⟨ek,cs,cl,x',y,d,rfl,k1,k2,k3,k4,rfl,k5,k6,k7,k8,k9,k10⟩:=K3 hda;simp only [List.reverse_nil,aaW] at ek;cases JS:Ay ops.toList with
 |false=>simp [JS] at hK
 |true=>
 simp only [JS,cond_true] at hK;obtain ⟨std,hdr,hK⟩:=kO h hK;have hgd:=IM JS;have Hz:o1.guard=none:=hgd o1 (by rw [ek];simp);have LX:o2.guard=none:=hgd o2 (by rw [ek];simp);refine wp_region ?_;have jT:ops.size=pre.length+(post.length+2):=by rw [<-aaj,ek];simp
 have fK: ∀i,ops[i]? =(pre++o1::o2::post)[i]? :=λi=>by rw [<-ek,adV]
 have YF:AT ops.size=AT pre.length++(pre.length::(pre.length+1)::((AT post.length).map (· +(pre.length+2)))):=by rw [jT,aeq];congr 1;rw [show post.length+2=2+post.length by omega,aeq];simp [List.range_succ];intros;omega
 rw [YF];refine IK hG (os:=pre) ?_ hdr hK (.refl _ _ _) ?_
 ·apply aec;intro i;simp only [aed];by_cases hi:i<pre.length
  ·rw [ad4 hi];simp only [ada,fK,abI hi];rw [aah hi];rfl
  ·rw [abn (by simp;omega),abn (by omega)];rfl
 ·rintro a1 w1 ⟨e1,aT,s1,t1,lv⟩;have hw:=UK hG.fn (Bq hh k7) k1 k2 k3 k4 k5 k6 k8 k9 k10 s1 lv (P:=P) (Q:=Q);have nx:ops[pre.length]? =some o1:=by rw [fK];simp
  have KA:ops[pre.length+1]? =some o2:=by rw [fK,aaf (by omega)];simp
  rw [wpOps_cons];unfold wpOp;simp only [nx,aae,Hz,if_true];left;refine adu ?_ hw;intro a2 w2 hw2;rw [wpOps_cons];unfold wpOp;simp only [KA,aae,LX,if_true];left;refine adu ?_ hw2;rintro a3 w3 ⟨e3,jm,s3,t3,AP⟩;rw [<-ac7 ((AT post.length).map (· +(pre.length+2)))];refine IK hG (os:=post) ?_ s3 AP (t1.trans t3) ?_
  ·apply aec;intro i;simp only [aed,List.map_map];by_cases hi:i<post.length
   ·rw [ad4 hi];simp only [ada,Function.comp,fK];rw [aaf (by omega),show i+(pre.length+2)-pre.length=i+2 by omega];simp [aah hi]
   ·rw [abn (by simp;omega),abn (by omega)];rfl
  ·intro a' w' ho;exact hQ a' w' ho
end
end Dn
/-
  Open order with two operations that may be done either way round. Conditions: none.
-/
namespace Dn
open Go
section
variable {P:Program}{ops:Array Oper}{Q:Exit->Act->World->Prop}
theorem E3 (A B:Nat):(Dz ops A B).size=ops.size:=by simp [Dz]
theorem Br (A B i:Nat):(Dz ops A B)[i]? =(ops[i]?).map λo=>if B=i then {o with after:=o.after.push ⟨A,.data⟩} else o:=by
 unfold Dz;rw [Array.getElem?_modify];by_cases h:B=i
 ·simp [h]
 ·cases ops[i]? <;>simp [h]
theorem GJ (A B:Nat)(tmps:Array Value):yielded (Dz ops A B) tmps=yielded ops tmps:=by
 funext j;unfold yielded;rw [Br];cases ops[j]? with
 |none=>rfl
 |some o=>
  have e:(if B=j then {o with after:=o.after.push ⟨A,.data⟩} else o).dst=o.dst:=by split<;>rfl
  simp only [ada,Option.bind_some,e]
theorem N9 {A B i:Nat}{K:Act->World->Prop}{a:Act}{w:World}(h:wpOp P (Dz ops A B) Q i K a w):wpOp P ops Q i K a w:=by
 unfold wpOp at h⊢;rw [Br,GJ] at h;cases hi:ops[i]? with
 |none=>rw [hi] at h;exact h
 |some o=>
  rw [hi] at h;simp only [ada] at h;by_cases hb:B=i
  ·rw [if_pos hb] at h;exact h
  ·rw [if_neg hb] at h;exact h
theorem K4 {A B i:Nat}{listed:Array Bool}:i∈IN .any (Dz ops A B) listed↔i∈IN .any ops listed/\(i=B->listed.getD A false=true):=by
 unfold IN;rw [E3];simp only [List.mem_filter,List.mem_range,Br];cases hi:ops[i]? with
 |none=>simp
 |some o=>
  by_cases hb:B=i
  ·subst hb;simp [Array.all_push,abH];constructor
   ·rintro ⟨h1,h2,h3,h4⟩;exact ⟨⟨h1,h2,h3⟩,h4⟩
   ·rintro ⟨⟨h1,h2,h3⟩,h4⟩;exact ⟨h1,h2,h3,h4⟩
  ·have zB: ¬i=B:=λe=>hb e.symm;simp [hb,zB]
def WT (A B:Nat):Bool->List Nat->Prop
 |_,[]=>True
 |la,i::r=>(i=B->la=true)/\WT A B (la||decide (i=A)) r
theorem Bs (A B:Nat): ∀L,WT A B true L
 |[]=>trivial
 |i::r=>⟨λ_=>rfl,by simpa using Bs A B r⟩
theorem Rm {A B:Nat}(h:A≠B): ∀L,WT A B false L\/WT B A false L
 |[]=> .inl trivial
 |i::r=>by
  by_cases ha:i=A
  ·subst ha;exact .inl ⟨λe=>absurd e h,by simpa using Bs i B r⟩
  ·by_cases hb:i=B
   ·subst hb;exact .inr ⟨λe=>absurd e ha,by simpa using Bs i A r⟩
   ·rcases Rm h r with h1|h1
    ·exact .inl ⟨λe=>absurd e hb,by simpa [ha] using h1⟩
    ·exact .inr ⟨λe=>absurd e ha,by simpa [hb] using h1⟩
def lq (ops:Array Oper):List (Nat×Nat)->Array Oper
 |[]=>ops
 |p::E=>Dz (lq ops E) p.1 p.2
theorem vi: ∀E,(lq ops E).size=ops.size
 |[]=>rfl
 |p::E=>by rw [lq,E3,vi E]
theorem Bt {i:Nat}{K:Act->World->Prop}{a:Act}{w:World}: ∀E,wpOp P (lq ops E) Q i K a w->wpOp P ops Q i K a w
 |[],h=>h
 |_::E,h=>Bt E (N9 h)
theorem sf {i:Nat}{listed:Array Bool}: ∀E,i∈IN .any (lq ops E) listed↔i∈IN .any ops listed/\ ∀p∈E,i=p.2->listed.getD p.1 false=true
 |[]=>by simp [lq]
 |p::E=>by rw [lq,K4,sf E,aat];exact ⟨λh=>⟨h.1.1,h.2,h.1.2⟩,λh=>⟨⟨h.1,h.2.2⟩,h.2.1⟩⟩
theorem K5 {E:List (Nat×Nat)}: ∀(fuel t:Nat) (listed:Array Bool) (a:Act) (w:World),(∀p∈E,p.1<listed.size)->wpAny P .any (lq ops E) Q fuel listed a w-> (∀p∈E,WT p.1 p.2 (listed.getD p.1 false) (aac .any ops fuel t listed []))->wpOps P ops Q (aac .any ops fuel t listed []) a w:=by
 intro fuel;induction fuel with
 |zero=>intro t listed a w _ h _;simpa [aac,wpOps] using h.2
 |succ fuel ih=>
  intro t listed a w hs h hA;obtain ⟨h₀,h₁⟩:=h;simp only [aac] at hA⊢;change wpOps P ops Q (match (IN .any ops listed)[t%(IN .any ops listed).length]? with
   |some i=>aac .any ops fuel (t/(IN .any ops listed).length) (listed.setIfInBounds i true) [i]
   |none=>[].reverse) a w
  change∀p∈E,WT p.1 p.2 (listed.getD p.1 false) (match (IN .any ops listed)[t%(IN .any ops listed).length]? with
   |some i=>aac .any ops fuel (t/(IN .any ops listed).length) (listed.setIfInBounds i true) [i]
   |none=>[].reverse) at hA
  cases hi:(IN .any ops listed)[t%(IN .any ops listed).length]? with
  |none=>
   have Qj:IN .any ops listed=[]:=by
    cases hr:IN .any ops listed with
    |nil=>rfl
    |cons x xs=>rw [hr] at hi;have cz:t%(x::xs).length<(x::xs).length:=Nat.mod_lt _ (by simp);simp at hi;simp at cz;omega
   have ab4:IN .any (lq ops E) listed=[]:=by
    cases hr:IN .any (lq ops E) listed with
    |nil=>rfl
    |cons x xs=>
     have:x∈IN .any (lq ops E) listed:=by rw [hr];simp
     have:=((sf E).1 this).1;rw [Qj] at this;cases this
   simpa [wpOps] using h₀ ab4
  |some i=>
   rw [hi] at hA;simp only [] at hA⊢;rw [linearise_go_acc,List.reverse_singleton,List.singleton_append] at hA⊢;rw [wpOps_cons];have afF:=(sf E).2 ⟨acP hi,λp hp=>(hA p hp).1⟩;refine wpOp_mono (λa w hw=>ih _ _ a w (λp hp=>by simpa using hs p hp) hw λp hp=> ?_) (Bt E (h₁ i afF));have hg:(listed.setIfInBounds i true).getD p.1 false=(listed.getD p.1 false||decide (i=p.1)):=by
    rw [aal,aal,Array.getElem?_setIfInBounds];by_cases hia:i=p.1
    ·subst hia;simp [hs p hp]
    ·simp [hia]
   rw [hg];exact (hA p hp).2
theorem Bu {c:Ctx}(hG:Good P c)(DR:P.follows .mixedOrders=true)(Bq:mq P c):Iq P c:=by
 refine ⟨λid ops=>N8 hG Bq id ops,?_,?_⟩
 ·intro id ops l hd hp Z e st a w R K r Q h hK hQ;refine aee ?_ (wp_region_any DR (IH hG hd hp h hK));intro x a' w' hx;cases x<;>first|exact hQ a' w' hx|exact hx.elim
 ·intro id ops k l Z e st a w R _ K r Q h hK hQ;refine aee (Q:=jB λa' w'=>Out c Z K r e.φ w a' w') ?_ (wp_region_draw λt=> ?_)
  ·intro x a' w' hx;cases x<;>first|exact hQ a' w' hx|exact hx.elim
  simp only [Region.schedule,DR,Bool.true_or,if_true];have leaf: ∀(E:List (Nat×Nat)) (l:List Nat),(∀p∈E,p.1<ops.size)->PL c (lq ops E) l st K=some r->(∀p∈E,WT p.1 p.2 false (aac .any ops ops.size t (BY ops.size false) []))-> wpOps P ops (jB λa' w'=>Out c Z K r e.φ w a' w') (aac .any ops ops.size t (BY ops.size false) []) a {w with drawn:=w.drawn+1}:=by
   intro E l hE hK hA;unfold PL at hK;cases hd:lU c (lq ops E) l with
   |false=>simp [hd] at hK
   |true=>
    simp only [hd,cond_true] at hK;split at hK
    ·rename_i l1 hp;have w1:=IH hG hd hp h hK;rw [vi] at w1;exact K5 ops.size t _ a _ (by simpa using hE) w1 (λp hp=>by simpa [hE p hp] using hA p hp)
    ·cases hK
  have key: ∀(k:Nat) (E:List (Nat×Nat)) (l:List Nat),(∀p∈E,p.1<ops.size)->Az c st K k (lq ops E) l=some r->(∀p∈E,WT p.1 p.2 false (aac .any ops ops.size t (BY ops.size false) []))-> wpOps P ops (jB λa' w'=>Out c Z K r e.φ w a' w') (aac .any ops ops.size t (BY ops.size false) []) a {w with drawn:=w.drawn+1}:=by
   intro k;induction k with
   |zero=>intro E l _ hK;cases hK
   |succ k ih=>
    intro E l hE hK hA;simp only [Az] at hK;cases hb:By l.length (lq ops E).toList.length with
    |true=>simp only [hb,cond_true] at hK;exact leaf E l hE hK hA
    |false=>
     simp only [hb,cond_false] at hK;split at hK
     ·rename_i o1 o2 A B ht;obtain ⟨q1,q2,q3⟩:=KR ht;have jT:(lq ops E).toList.length=ops.size:=by rw [aaj,vi]
      rw [jT] at q2 q3;obtain ⟨k1,k2⟩:=NO hK;rcases Rm q1 (aac .any ops ops.size t (BY ops.size false) []) with ho|ho
      ·exact ih ((A,B)::E) o1 (aat.2 ⟨q2,hE⟩) k1 (aat.2 ⟨ho,hA⟩)
      ·exact ih ((B,A)::E) o2 (aat.2 ⟨q3,hE⟩) k2 (aat.2 ⟨ho,hA⟩)
     ·cases hK
  exact key k [] l (by simp) hK (by simp)
end
end Dn
/-
  Functions of the library, by hand: copies of slices. Conditions: none.
-/
namespace Dn
open Go
section
variable {P:Program}{c:Ctx}{Q:Exit->Act->World->Prop}{ops:Array Oper}{o:Oper}{a:Act} {w w':World}
theorem n7 {i:Nat}{rest:List Nat}{v:Value}(hi:ops[i]? =some o)(hg:o.guard=none)(aV:(execOp a.eval o).run P w= .ok (.value v) w')(h:wpOps P ops Q rest (a.put o.dst v) w'):wpOps P ops Q (i::rest) a w:=by rw [wpOps_cons];unfold wpOp;simp only [hi,aae,hg,if_true];left;unfold ad2;rw [aV,adT];exact h
structure ae (o:Oper) (d:Nat) (op:Op):Prop where
 dst:o.dst=some d
 op:o.op=op
 guard:o.guard=none
theorem YG {key:Nat->Nat} {φ:Ph}{size:Nat}{v:Value}{xs:List MV}(du:iA φ w)(cU:0<size)(hx:dI key φ [v] (.list xs))(hw:fZ size xs=true): ∃news,Src (gf key φ) w size v xs news:=by
 generalize hv:[v]=vs at hx;cases hx with
 |list ad cap _ aA off xt f g1 g2 g3 g4 g5=>
 simp at hv;have T6: ∀i,i<xs.length->(f i).length=size:=by intro i hi;rw [(g5 i hi).width];exact vW hw _ (List.getElem_mem hi)
 obtain ⟨cs,h1,h2⟩:=AM T6 g5;refine ⟨cs,h1,ad,cap,hv,?_,?_⟩
 ·intro hn;cases xs with
  |nil=>rfl
  |cons y ys=>have:=g2 (by simp);rw [hn] at this;cases this
 ·intro x hx j u hj;have DG:j<cs.length:=(aan.1 hj).1;rw [h1.length] at DG;have AN:0<xs.length:=by
   cases xs with
   |nil=>simp at DG
   |cons y ys=>simp
  have Gi:=g2 AN;rw [hx] at Gi;cases Gi;have hq:j/size<xs.length:=(Nat.div_lt_iff_lt_mul cU).2 DG;have hm:=Nat.mod_lt j cU;have JT:j=j/size *size+j%size:=by rw [Nat.mul_comm];exact (Nat.div_add_mod j size).symm
  have e1:=h2 (j/size) (j%size) hq hm;rw [<-JT,hj] at e1;have Qg:xt=size:=by rw [<-g3 0 AN,T6 0 AN]
  have e2:=g4 (j/size) (j%size) hq (by rw [Qg];exact hm);rw [<-e1,Qg,Nat.add_assoc,<-JT] at e2;have:=du _ _ _ e2;rw [abG];exact this
theorem Oa {t t':TypeId}{el:TypeId}{x:Operand}{ad:Option Addr}{n cap:Nat}(hu:P.underlying t=some (.slice el))(ho:o.op= .binOp .eql t x (.const (.slice none 0 0)) t')(hx:a.eval x= .slice ad n cap): (execOp a.eval o).run P w= .ok (.value (.bool ad.isNone)) w:=by
 have he:a.eval (.const (.slice none 0 0))= .slice none 0 0:=rfl;have ek: ∀d:Nat,(adP (d+1) t (.slice ad n cap) (.slice none 0 0)).run P w= .ok ad.isNone w:=by intro d;cases ad<;>simp [adP,run_underlying hu]
 have hb:adZ .eql t (.slice ad n cap) (.slice none 0 0)=(do pure (.bool (<-aea t (.slice ad n cap) (.slice none 0 0)))):=rfl;have hg: ∀(x y:Operand),(eqGuard .eql t x y (.slice ad n cap) (.slice none 0 0)).run P w= .ok () w:=λ_ _=>rfl;have h2:(aea t (.slice ad n cap) (.slice none 0 0)).run P w= .ok ad.isNone w:=ek 9999;unfold execOp;simp only [ho];rw [hx,he];simp [hg,hb,h2]
theorem wi {f:FuncId}{fn:Func}{t:TypeId}{I E:TI}{i0 i1 i2 i3:Nat}{oA oB oC oD oE oF oG oH:Oper}{xs:List MV}(hT:dt P c.ti)(hI:c.tv t=some I)(hL:I.pH=true)(hE:c.tv I.elem=some E)(np:1<=E.bytes)(xU:c.ga (c.key f)=I.elem)(hg:c.bQ (c.key f)=false)
 (hf:P.funcs[f]? =some fn) (oR:(fn.name== "runtime.NumGoroutine")=false) (hn:fn.ntmps=8) (hr:fn.results= #[.tmp 2])
 (b9:fn.body=some (.seq (.region i0 #[oA] false) (.seq (.seq (.region i1 #[oB,oC] false) (.cond (.tmp 4) (.seq (.region i2 #[oD] false) .ret) .skip)) (.seq (.region i3 #[oE,oF,oG,oH] false) .ret))))
 (hA:ae oA 2 (.assign (.const (.slice none 0 0)))) (hB:ae oB 3 (.move (.tmp 0))) (hC:ae oC 4 (.binOp .eql t (.tmp 3) (.const (.slice none 0 0)) t)) (hD:ae oD 2 (.assign (.const (.slice none 0 0))))
 (hEo:ae oE 5 (.buildSlice t 0 #[])) (hF:ae oF 6 (.move (.tmp 0))) (hG:ae oG 7 (.call {callee:= .builtin .append,args:= #[.tmp 5,.tmp 6],argTypes:= #[t,t]})) (hH:ae oH 2 (.assign (.tmp 7)))
 (hw:fZ E.size xs=true) (fa:xs.length *E.bytes<=2^46):cq P c f [.list xs] (.fresh xs):=by
 obtain ⟨hIt,JV⟩:=aD hI;obtain ⟨fR,iT⟩:=aD hE;obtain ⟨hu,E2,ot,_,cU⟩:=TI.fJ (hT t I hIt) hL;rw [fR] at ot;cases ot;intro φ W Z vs hz bZ du;simp only [bO,hg,No,if_false] at bZ;obtain ⟨v,u,rfl,⟨_,hx⟩,hu0⟩:=bZ;have hu0:u=[]:=hu0;subst hu0;obtain ⟨ad,cap,hv,ve,hnn⟩: ∃ad cap,v= .slice ad xs.length cap/\xs.length<=cap/\(0<xs.length->ad≠none):=by
  have LU:=hx;generalize oK:[v]=vs at LU;cases LU with
  |list ad cap _ aA off xt f g1 g2 g3 g4 g5=>exact ⟨ad,cap,by simpa using oK,g1,λh0 hn=>by rw [g2 h0] at hn;cases hn⟩
 have aV:(callFunc f [v].toArray).run P W= .ok (.enter f #[v]) W:=by
  have zC: ¬fn.name= "runtime.NumGoroutine" :=by simpa using oR
  simp [callFunc,hf,zC,b9]
 unfold cn;rw [aV];refine calls_of_wp hf b9 ?_;rw [hn];have ha0:({tmps:= #[v]++BY (8-(#[v]:Array Value).size) undef,defers:=[]}:Act)={tmps:= #[v,undef,undef,undef,undef,undef,undef,undef],defers:=[]}:=rfl;rw [ha0];have afI:AT (#[oA]:Array Oper).size=[0]:=rfl;have afJ:AT (#[oB,oC]:Array Oper).size=[0,1]:=rfl;have afK:AT (#[oE,oF,oG,oH]:Array Oper).size=[0,1,2,3]:=rfl;have afL:AT (#[oD]:Array Oper).size=[0]:=rfl;have fin: ∀(a:Act) (W':World) (v':Value) (cells:List Value),a.defers=[]->a.tmps.getD 2 undef=v'->(∃φ',Trans Z φ W φ' W'/\iA φ' W'/\dy c Z φ' W' (c.key f) v' (.fresh xs))-> bodyPost P fn (λx tp=> ∃v,x= .returned v/\ ∃φ',Trans Z φ W φ' tp/\iA φ' tp/\dy c Z φ' tp (c.key f) v (.fresh xs)) .ret a W':=by
  intro a W' v' cells hd h2 h3;refine ⟨hd,v',?_,v',rfl,h3⟩;have z6:a.tmps[2]?.getD undef=v':=by simpa using h2
  simp [results,hr,z6]
 refine wp_seq (wp_region ?_);rw [afI];refine n7 (o:=oA) rfl hA.guard (v:= .slice none 0 0) (w':=W) (by simp [execOp,hA.op];rfl) ?_;rw [hA.dst];refine wp_seq (wp_seq (wp_region ?_));rw [afJ];refine n7 (o:=oB) rfl hB.guard (v:=v) (w':=W) (by simp [execOp,hB.op];rfl) ?_;rw [hB.dst];refine n7 (o:=oC) rfl hC.guard (v:= .bool ad.isNone) (w':=W) (Oa hu hC.op (by rw [<-hv];rfl)) ?_;rw [hC.dst];refine wp_cond (t:=ad.isNone) rfl ?_;cases Gi:ad.isNone with
 |true=>
  have Gi:ad=none:=by simpa using Gi
  have hxs:xs=[]:=by
   cases xs with
   |nil=>rfl
   |cons y ys=>exact absurd Gi (hnn (by simp))
  simp only [if_true];refine wp_seq (wp_region ?_);rw [afL];refine n7 (o:=oD) rfl hD.guard (v:= .slice none 0 0) (w':=W) (by simp [execOp,hD.op];rfl) ?_;rw [hD.dst];refine wp_ret ?_;refine fin _ W (.slice none 0 0) [] rfl rfl ⟨φ,.refl _ _ _,du,?_⟩;show bw c (aO.plain Z) (gf c.key φ) W _ ⟨c.ga (c.key f),false,xs⟩;rw [xU,hxs];exact ⟨E,[],fR,iT,⟨by simp,.inl ⟨rfl,rfl⟩⟩,rfl,λaA hb=>by simp [abA] at hb⟩
 |false=>
  simp only [No,if_false];refine wp_skip ?_;refine wp_seq (wp_region ?_);rw [afK];have ab6:=Gl (P:=P) (c:=c) (w:=W) (t:=t) (I:=I) (vs:=[]) (parts:= #[]) hu fR iT cU hT (by simp) (by simp) rfl;simp only [List.length_nil,List.flatMap_nil] at ab6;refine n7 (o:=oE) rfl hEo.guard (v:= .slice (some ⟨W.heap.size,0,none⟩) 0 0) (w':=W.alloc (.cells #[] I.elem)) (by simp [execOp,hEo.op,ab6]) ?_;rw [hEo.dst];refine n7 (o:=oF) rfl hF.guard (v:=v) (w':=W.alloc (.cells #[] I.elem)) (by simp [execOp,hF.op];rfl) ?_;rw [hF.dst];obtain ⟨news,rQ⟩:=YG du cU hx hw;have Hz:bX W (W.alloc (.cells #[] I.elem)):= .alloc W _ _;have ab7:Src (gf c.key φ) (W.alloc (.cells #[] I.elem)) E.size v xs news:=by obtain ⟨ad',P3,q1,q2,q3⟩:=rQ.val;exact ⟨rQ.Ws,ad',P3,q1,q2,λx hx j u hj=>Hz.cell (q3 x hx j u hj)⟩
  have cb:(W.alloc (.cells #[] I.elem)).ownsRow 0 I.elem E.size (.slice (some ⟨W.heap.size,0,none⟩) 0 0) 0 []:=⟨by simp,.inr ⟨W.heap.size,0, #[],rfl,acF _,dm W _,abc _,acF _,by simp,by simp⟩⟩
  obtain ⟨v',W',E1,ou⟩:=vf (P:=P) (c:=c) (ty:=oG.type) hu fR iT cU hT np cb (ab7.apx hu) (by simpa using fa);refine n7 (o:=oG) rfl hG.guard (v:=v') (w':=W') (by
   have e1: ∀(a:Act),a.eval (.tmp 5)= .slice (some ⟨W.heap.size,0,none⟩) 0 0->a.eval (.tmp 6)=v->(execOp a.eval oG).run P (W.alloc (.cells #[] I.elem))= .ok (.value v') W':=by intro a h5 h6;simp [execOp,hG.op,resolve,invoke,builtin,h5,h6,E1]
   exact e1 _ rfl rfl) ?_
  rw [hG.dst];refine n7 (o:=oH) rfl hH.guard (v:=v') (w':=W') (by simp [execOp,hH.op];rfl) ?_;rw [hH.dst];refine wp_ret ?_;refine fin _ W' v' [] rfl rfl ?_;have jT:W.heap.size<=W'.heap.size:=acd Hz.size ou.size;have hold: ∀b,b<W.heap.size->W'.heap[b]? =W.heap[b]? :=by intro b hb;rw [ou.ln b (Nat.lt_of_lt_of_le hb Hz.size) (by simp [abA];omega)];exact Hz.ln b hb
  refine ⟨φ,⟨.refl _,λb _ hb=>hold b hb,λ_ _ _=>rfl,jT,Hz.rest.trans ou.rest⟩,?_,?_⟩
  ·intro b o u hbo;have h1:=du b o u hbo;rw [abF (hold b (aav W _ h1))];exact h1
  ·show bw c (aO.plain Z) (gf c.key φ) W' v' ⟨c.ga (c.key f),false,xs⟩;rw [xU];refine ⟨E,news,fR,iT,by simpa using ou.own,rQ.Ws,λaA hb=> ?_⟩;have et:W.heap.size<=aA:=by
    rcases ou.place with h1|h1
    ·rw [h1] at hb;simp [abA] at hb;omega
    ·rw [h1] at hb;cases hb;exact Hz.size
   refine ⟨hz aA et,λoff u hu=> ?_,λhc=>hc.elim⟩;have:=aav W _ (du _ _ _ hu);have:aA<W.heap.size:=this;omega
end
end Dn
/-
  Tables of functions. Conditions: none.
-/
namespace Dn
open Go
structure cA (P:Program) (c:Ctx) (g:Nat->List MV->Option MV):Prop where
 all: ∀f ms r,g (c.key f) ms=some r->cq P c f ms r
abbrev bo (n:Nat)(F:List MV->Option MV)(g:Nat->List MV->Option MV):Nat->List MV->Option MV:=λk ms=>match By k n with|true=>F ms|false=>g k ms
theorem cA.add {P:Program}{c:Ctx}{g:Nat->List MV->Option MV}{n:Nat}{F:List MV->Option MV}(h:cA P c g)(hF: ∀f ms r,c.key f=n->F ms=some r->cq P c f ms r):cA P c (bo n F g):=by
 refine ⟨λf ms r hr=> ?_⟩;unfold bo at hr;cases hk:By (c.key f) n with
 |true=>simp only [hk] at hr;exact hF f ms r (aQ hk) hr
 |false=>simp only [hk] at hr;exact h.all f ms r hr
structure wj (c c':Ctx):Prop where
 ti:c'.ti=c.ti
 key:c'.key=c.key
 bQ:c'.bQ=c.bQ
 fresh:c'.fresh=c.fresh
 ga:c'.ga=c.ga
 fk:c'.fk=c.fk
 mt:c'.mt=c.mt
 sig:c'.sig=c.sig
 FW:c'.FW=c.FW
theorem bw.ez {c c':Ctx}(h:c'.ti=c.ti){Z:aO}{e:Env}{w:World}{v:Value}{o:jb}(hs:bw c Z e w v o):bw c' Z e w v o:=by obtain ⟨I,cells,h1,h2⟩:=hs.row;exact ⟨I,cells,by rw [h];exact h1,h2⟩
theorem dy.ez {c c':Ctx}(h:wj c c'){Z:Nat->Prop} {φ:Ph}{w:World}{k:Nat}{v:Value}{r:MV}(hs:dy c Z φ w k v r):dy c' Z φ w k v r:=by
 cases r<;>simp only [dy,h.key,h.ga] at hs⊢ <;>first|exact hs|exact hs.ez h.ti|skip
 rename_i ms;cases ms with
 |nil=>simp only [AQ,h.key] at hs⊢;exact hs
 |cons m r=>
  cases m<;>simp only [AQ,h.key,h.ga] at hs⊢ <;>first|exact hs|skip
  obtain ⟨v0,us,h1,h2,h3⟩:=hs;exact ⟨v0,us,h1,h2.ez h.ti,h3⟩
theorem cN.ez {c c':Ctx}(h:wj c c'){Z:Nat->Prop} {φ:Ph}{w:World}{aA:Nat}{ks:List LK}{ls:List MV}(hs:cN c Z φ w aA ks ls):cN c' Z φ w aA ks ls:=by obtain ⟨cs,m,E,arr,T,h1,h2,h3,h4,h5,h6,h7⟩:=hs;refine ⟨cs,m,E,arr,T,h1,h2,h3,h4,by rw [h.key];exact h5,λf o ho=>⟨?_,(h6 f o ho).2⟩,h7⟩;rw [h.key];exact (h6 f o ho).1.ez h.ti
theorem mf.ez {c c':Ctx}(h:wj c c'){Z:Nat->Prop} {φ:Ph}{w:World}{k:Nat}{vs:List Value}{v:Value}{r:MV}(hs:mf c Z φ w k vs v r):mf c' Z φ w k vs v r:=by
 cases r<;>simp only [mf] at hs⊢ <;>first|exact hs.ez h|skip
 obtain ⟨h1,pos,ks,ko,aA,off,h2,h3,h4⟩:=hs;exact ⟨h1.ez h,pos,ks,ko,aA,off,by rw [h.sig];exact h2,h3,h4.ez h⟩
theorem bO.ez {c c':Ctx}(h:wj c c'){Z:Nat->Prop} {φ:Ph}{w:World}{k:Nat}{vs:List Value}{ms:List MV}(hs:bO c' Z φ w k vs ms):bO c Z φ w k vs ms:=by
 unfold bO at hs⊢;rw [h.bQ] at hs;split
 ·rename_i hg;rw [if_pos hg] at hs;rcases hs with ⟨v0,v1,v2,xs,m1,ys,h1,h2,h3,h4,h5,h6⟩|⟨v0,v1,v2,xs,m1,m2,h1,h2,h3,h4,h5,h6⟩|⟨pos,ks,ko,off,ls,aA,h1,h2,h3,h4,h5⟩
  ·rw [h.key,h.ga] at h3 h5;rw [h.key] at h4;exact .inl ⟨v0,v1,v2,xs,m1,ys,h1,h2,h3.ez h.ti.symm,h4,h5.ez h.ti.symm,h6⟩
  ·rw [h.key,h.ga] at h4;rw [h.key] at h5 h6;exact .inr (.inl ⟨v0,v1,v2,xs,m1,m2,h1,h2,h3,h4.ez h.ti.symm,h5,h6⟩)
  ·refine .inr (.inr ⟨pos,ks,ko,off,ls,aA,by rw [<-h.sig];exact h1,h2,h3,by rw [<-h.key];exact h4,?_⟩);obtain ⟨cs,m,E,arr,T,k1,k2,k3,k4,k5,k6,k7⟩:=h5;refine ⟨cs,m,E,arr,T,k1,k2,k3,k4,by rw [<-h.key];exact k5,λf o ho=>⟨?_,(k6 f o ho).2⟩,k7⟩;rw [<-h.key];exact (k6 f o ho).1.ez h.ti.symm
 ·rename_i hg;rw [if_neg hg,h.key] at hs;exact hs
theorem cn.mono {P:Program}{f:FuncId}{args:Array Value}{w:World} {R R':Value->World->Prop}(hc:cn P f args w R)(h: ∀v w',R v w'->R' v w'):cn P f args w R':=by
 unfold cn at hc⊢;split
 ·rename_i ek;rw [ek] at hc;exact Calls.mono hc (λx tp ⟨v,e,hr⟩=>⟨v,e,h v tp hr⟩)
 ·rename_i ek;rw [ek] at hc;exact h _ _ hc
 ·rename_i h1 h2;split at hc
  ·rename_i ek;exact absurd ek (h1 _ _ _)
  ·rename_i ek;exact absurd ek (h2 _ _)
  ·exact hc
theorem cq.ez {P:Program} {c c':Ctx}{f:Nat}{ms:List MV}{r:MV}(h:wj c c')(hs:cq P c f ms r):cq P c' f ms r:=by intro φ w Z vs hz ha hi;rw [h.key] at ha;refine (hs φ w Z vs hz (ha.ez h) hi).mono ?_;rintro v w' ⟨φ',h1,h2,h3⟩;rw [h.key];exact ⟨φ',h1,h2,h3.ez h⟩
theorem wj.symm {c c':Ctx}(h:wj c c'):wj c' c:=⟨h.ti.symm,h.key.symm,h.bQ.symm,h.fresh.symm,h.ga.symm,h.fk.symm,h.mt.symm,h.sig.symm,h.FW.symm⟩
theorem p7.ez {P:Program} {c c':Ctx}(h:wj c c'){g:Nat}{lb:Array Value}{S:Type}{Inv:S->(Nat->Prop)->Ph->World->Prop}{step:S->MV->Option (Bool×S)}(hp:p7 P c' g lb Inv step):p7 P c g lb Inv step:=⟨λh1 h2 h3 h4 h5=>hp.call h1 h2 h3 (by rw [h.key];exact h4) h5,hp.frame,hp.mono⟩
theorem mq.ez {P:Program} {c c':Ctx}(h:wj c c')(hd:mq P c):mq P c':=by intro f hf;rw [h.FW] at hf;have hx:=hd f hf;refine ⟨?_⟩;intro S Inv step g lb hp v0 xs ys w Z0 φ0 s0 s' h1 h2 h3 h4 h5 h6 h7;rw [h.key,h.ga] at h2;refine (hx.run (hp.ez h) h1 (h2.ez h.ti.symm) h3 h4 h5 h6 h7).mono ?_;rintro v W ⟨Z,φ,hW,hF,hb⟩;refine ⟨Z,φ,⟨hW.inv,hW.new,hW.sub,hW.fB,hW.tr,hW.free⟩,?_,hb⟩;rw [h.key,h.ga];exact hF.ez h.ti
def si (c:Ctx)(n:Nat)(fn:Func)(aS:List (List Kd)):Bool:=
 !(fn.name== "runtime.NumGoroutine")&&By c.n fn.ntmps&&abe (fn.params.size+aS.length) fn.ntmps&&!c.bQ n
def vj (c:Ctx)(n:Nat)(fn:Func):Option Nat->Bool
 |none=>true
 |some ty=>By ty (c.ga n)&&(abe 1 fn.results.toList.length&&(match c.tv ty with|some _=>true|none=>false))
theorem E4 {c:Ctx}{n:Nat}{fn:Func}{fresh:Option Nat}(h:vj c n fn fresh=true): ∀ty,fresh=some ty->ty=c.ga n/\1<=fn.results.toList.length/\ ∃I,c.tv ty=some I:=by
 rintro ty rfl;simp only [vj,sh] at h;obtain ⟨h1,h2,h3⟩:=h;refine ⟨aQ h1,aab h2,?_⟩;cases hc:c.tv ty with
 |none=>rw [hc] at h3;cases h3
 |some I=>exact ⟨I,rfl⟩
theorem cA.body {P:Program} {c c':Ctx}{g:Nat->List MV->Option MV}{n:Nat}{fn:Func}{aS:List (List Kd)}(h:cA P c g)(hl:wj c c')(Tw:c'.g=g)(fH:dt P c.ti)(ek:HV P c.ti)(DD: ∀t k,c.fk t=some k->P.underlying t=some (.float k))(JX:rR P c)(DR:P.follows .mixedOrders=true)(Bq:mq P c)(hf:P.funcs[n]? =some fn)(hh:si c' n fn aS=true)(oO: ∀f,c.key f=f){fresh:Option Nat}(vM:vj c' n fn fresh=true):cA P c (bo n (rE c' aS fresh fn) g):=by
 have hG:Good P c':=by
  refine ⟨by rw [hl.ti];exact fH,by rw [hl.ti];exact ek,λf ms r hr=> ?_,by rw [hl.fk];exact DD,λt s hs=>JX t s ?_⟩
  ·rw [Tw,hl.key] at hr;exact (h.all f ms r hr).ez hl
  ·rw [<-hs];unfold oz Ctx.tv;rw [hl.mt,hl.ti]
 refine h.add (λf ms r hk hr=> ?_);rw [oO] at hk;subst hk;simp only [si,sh,IT] at hh;obtain ⟨⟨⟨h1,h2⟩,h3⟩,h4⟩:=hh;exact (Uy hG (Bu hG DR (Bq.ez hl)) hf h1 (aQ h2) (aab h3) (by rw [hl.key,oO];exact h4) (by rw [hl.key,oO];exact E4 vM) hr).ez hl.symm
def E5 (c:Ctx)(n:Nat)(fn:Func)(aS:List (List Kd)):Bool:=
 !(fn.name== "runtime.NumGoroutine")&&By c.n fn.ntmps&&abe fn.ntmps 1000000&&abe (fn.params.size+aS.length) fn.ntmps&&c.bQ n
theorem cA.fnC {P:Program}{c:Ctx}{g:Nat->List MV->Option MV}{n pos:Nat}{ks ko:List LK}{fn:Func}{aS:List (List Kd)}{F:List MV->Option MV}(h:cA P c g)(fH:dt P c.ti)(ek:HV P c.ti)(DD: ∀t k,c.fk t=some k->P.underlying t=some (.float k))(JX:rR P c)(DR:P.follows .mixedOrders=true)(Bq:mq P c)(hf:P.funcs[n]? =some fn)(nX:c.sig n=some (pos,ks,ko))(oO: ∀f,c.key f=f)(hF: ∀{ms r},F ms=some r-> ∃c':Ctx,wj c c'/\c'.g=g/\E5 c' n fn aS=true/\AA c' aS pos ks ko fn ms=some r):cA P c (bo n F g):=by
 refine h.add (λf ms r hk hr=> ?_);rw [oO] at hk;subst hk;obtain ⟨c',hl,Tw,hh,hr⟩:=hF hr;have hG:Good P c':=by
  refine ⟨by rw [hl.ti];exact fH,by rw [hl.ti];exact ek,λf ms r hr=> ?_,by rw [hl.fk];exact DD,λt s hs=>JX t s ?_⟩
  ·rw [Tw,hl.key] at hr;exact (h.all f ms r hr).ez hl
  ·rw [<-hs];unfold oz Ctx.tv;rw [hl.mt,hl.ti]
 simp only [E5,sh,IT] at hh;obtain ⟨⟨⟨⟨h1,h2⟩,z6⟩,h3⟩,h4⟩:=hh;exact (Re hG (Bu hG DR (Bq.ez hl)) hf h1 (aQ h2) (aab z6) (aab h3) (by rw [hl.key,oO];exact h4) (by rw [hl.sig,hl.key,oO];exact nX) hr).ez hl.symm
end Dn
/-
  Functions whose first argument is given away to them. Conditions: none.
-/
namespace Dn
open Go
section
variable {P:Program}{c:Ctx}
theorem Rn {f ty:Nat}{fn:Func}{ms:List MV}{m:MV}(hG:Good P c)(hD:Iq P c)(hf:P.funcs[f]? =some fn)(oR:(fn.name== "runtime.NumGoroutine")=false)
 (hn:c.n=fn.ntmps) (jT:fn.params.size<=fn.ntmps) (hg:c.bQ (c.key f)=true) (nX:c.sig (c.key f)=none) (vM:ty=c.ga (c.key f)/\1<=fn.results.toList.length/\ ∃I,c.tv ty=some I) (hb:PN c ty fn ms=some m):cq P c f ms m:=by
 intro φ w Z vs hz bZ du;simp only [bO,hg,if_true] at bZ;unfold PN at hb;split at hb;rotate_left
 ·cases hb
 rename_i b m0 ms t0 ts b9 q9;split at hb;rotate_left
 ·cases hb
 rename_i I0 NC;cases Uc:I0.pH&&(By I0.elem ty&&By ts.length 2) with
 |false=>simp [Uc] at hb
 |true=>
 simp only [Uc,cond_true] at hb;simp only [sh] at Uc;obtain ⟨hL,_,hts⟩:=Uc;have hts:=aQ hts;unfold gF at hb;split at hb;rotate_left
 ·cases hb
 rename_i xs;match ts,hts with
 |[t1,t2],_=>
 obtain ⟨v0,v1,v2,xs',m1,m2,rfl,zH,Kt,F0,A1,A2⟩: ∃v0 v1 v2 xs' m1 m2,vs=[v0,v1,v2]/\MV.fresh xs::ms=[.fresh xs',m1,m2]/\m2.one=true/\bw c (aO.plain Z) (gf c.key φ) w v0 ⟨c.ga (c.key f),false,xs'⟩/\bN c.key φ v1 m1/\bN c.key φ v2 m2:=by
  rcases bZ with ⟨v0,v1,v2,xs',m1,ys,_,zH,_⟩|h|⟨pos,ks,ko,off,ls,aA,h1,_⟩
  ·exfalso;simp only [aaU] at zH;rw [zH.2] at hb;simp only [uX] at hb;split at hb
   ·simp only [gC] at hb;rename_i I1 DE;have key: ∀(I:TI) (x:MV) (K':Slot->Option MV),(∀s,K' s=none)->nb I x K'=none:=by
     intro I x K' hK;cases ho:nb I x K' with
     |none=>rfl
     |some r=>
      exfalso;unfold nb at ho;cases cu:I.st with
      |true=>
       simp only [cu,cond_true] at ho;unfold gA at ho;split at ho
       ·obtain ⟨ls,_,h⟩:=lC (e:=gf c.key φ) (vs:=[]) ho;rw [hK] at h;cases h
       ·cases ho
      |false=>
       simp only [cu,cond_false] at ho;split at ho
       ·obtain ⟨l,_,h⟩:=gw (e:=gf c.key φ) (vs:=[]) ho;rw [hK] at h;cases h
       ·cases ho
    rw [key] at hb
    ·cases hb
    ·intro s;split
     ·simp only [gC,yF]
     ·rfl
   ·cases hb
  ·exact h
  ·rw [nX] at h1;cases h1
 simp only [aaU,MV.fresh.injEq] at zH;obtain ⟨rfl,rfl⟩:=zH;have aV:(callFunc f [v0,v1,v2].toArray).run P w= .ok (.enter f [v0,v1,v2].toArray) w:=by
  have zC: ¬fn.name= "runtime.NumGoroutine" :=by simpa using oR
  simp [callFunc,hf,zC,b9]
 unfold cn;rw [aV];refine calls_of_wp hf b9 ?_;let e:Env:=⟨c.key,φ,λ_=>v0,λ_=>0,[(5000000,⟨ty,false,xs⟩)]⟩
 obtain ⟨fr,rest,nT,r9,hb,oK,l1,a2,k1,s1⟩:=r8 (e:=e) (vs:=[v1,v2]) (ms:=[m1,m2]) ⟨v1,_,rfl,A1,v2,_,rfl,A2,rfl⟩ hb;cases rest with
 |cons=>cases hb
 |nil=>
 simp only [gN] at hb;have a2:r9=[]:=a2;subst a2;rw [ac7] at oK;subst oK;have Yn:fn.params.size=3:=by rw [<-aaj,q9];rfl
 let a:Act:={tmps:=[v0,v1,v2].toArray++BY (fn.ntmps-[v0,v1,v2].toArray.size) undef,defers:=[]}
 have DI: ∀(t:Nat) (v:Value),[v0,v1,v2][t]? =some v->a.tmps.getD t undef=v:=by intro t v ht;have cz:t<[v0,v1,v2].length:=(aan.1 ht).1;rw [aal];show (([v0,v1,v2].toArray++BY _ undef)[t]?).getD undef=v;rw [abC (by simpa using cz)];simp only [acx];rw [ht];rfl
 obtain ⟨J,cells,q1,q2,q3,q4,q5⟩:=F0.row;have dS:=ma q3;have db:bw c (aO.plain Z) e w v0 ⟨ty,false,xs⟩:=by rw [vM.1];exact F0.env (e':=e) rfl rfl
 have sb: ∀t,b8 (ah ((0,.sc (.own 5000000))::fr) t)=false/\(∀cs,ah ((0,.sc (.own 5000000))::fr) t≠ .box cs)/\aa e (a.tmps.getD t undef) (ah ((0,.sc (.own 5000000))::fr) t):=by
  intro t;by_cases ht0:t=0
  ·subst ht0;refine ⟨rfl,λcs hc=>(by cases hc),?_⟩;rw [DI 0 v0 rfl];show aa e v0 (.sc (.own 5000000));simp only [aa];exact ⟨v0,rfl,dS,λo ho=>rfl⟩
  ·have hg:ah ((0,.sc (.own 5000000))::fr) t=ah fr t:=by
    have:By 0 t=false:=by
     cases hh:By 0 t with
     |false=>rfl
     |true=>exact absurd (aQ hh).symm ht0
    simp only [ah,this,cond_false]
   rw [hg];by_cases h1:t∈ax fr
   ·obtain ⟨g1,g2,v,g3,g4⟩:=s1 _ (sa h1);refine ⟨g1,λcs hc=> ?_,?_⟩
    ·simp only [hc,bP] at g2;cases g2
    ·rw [DI t v ?_];exact g4;have hk:=h1;rw [k1,aaP] at hk;obtain ⟨i,hi,he⟩:=hk;rw [show t=(t-1)+1 by omega,aa8];exact g3
   ·rw [j9 _ _ h1];exact ⟨rfl,λcs hc=>(by cases hc),by simp [aa]⟩
 have Be: ∀t cs,ah ((0,.sc (.own 5000000))::fr) t= .box cs->False:=λt cs hc=>(sb t).2.1 cs hc;have fK: ∀f o,ar e.m f=some o->f=5000000/\o=⟨ty,false,xs⟩:=by
  intro f o ho;have ho:(bif By 5000000 f then some (⟨ty,false,xs⟩:jb) else none)=some o:=ho;cases hh:By 5000000 f with
  |false=>rw [hh] at ho;cases ho
  |true=>rw [hh] at ho;cases ho;exact ⟨(aQ hh).symm,rfl⟩
 have gx:bg c (aO.plain Z) e ⟨[],[],(0,.sc (.own 5000000))::fr,[(5000000,⟨ty,false,xs⟩)]⟩ a w:=by
  refine ⟨⟨rfl,rfl,rfl,λt ht=>by simp [aO.plain] at ht⟩,?_,rfl,rfl,?_,?_,λt=>lN (sb t).1,λf o ho=> ?_,λt t' cs dj h1=>(Be t cs h1).elim,λt cs f o h1=>(Be t cs h1).elim,λf f' o o' k h1 h2 _ _=>by rw [(fK f o h1).1,(fK f' o' h2).1],du,hz⟩
  ·show ([v0,v1,v2].toArray++BY (fn.ntmps-[v0,v1,v2].toArray.size) undef).size=c.n;rw [ab5,acC,hn];simp;omega
  ·show (ax ((0,Slot.sc (.own 5000000))::fr)).Nodup;have:ax ((0,Slot.sc (.own 5000000))::fr)=0::ax fr:=rfl;rw [this,k1];refine aaw.2 ⟨?_,adE⟩;rw [aaP];rintro ⟨i,_,hi⟩;omega
  ·intro t;obtain ⟨g1,g2,g3⟩:=sb t;show bk _ e w t _ (ah ((0,.sc (.own 5000000))::fr) t);generalize ah ((0,.sc (.own 5000000))::fr) t=s at g1 g2 g3;cases s<;>first|exact g3|exact absurd rfl (g2 _)
  ·obtain ⟨rfl,rfl⟩:=fK f o ho;obtain ⟨I,cells,p1,p2,p3,p4,p5⟩:=db.row;exact ⟨I,cells,p1,p2,p3,p4,λb hb=>⟨.inr (p5 b hb).1,(p5 b hb).2.1,λhc=>by simp [aO.fz,aO.plain] at hc⟩⟩
 exact Ir (X:=λb st K=>jh c b MV st K) (λb {r Z e st a w K Q} h hK hQ=>GB hG hD b h hK hQ) hG (fresh:=some ty) (λty' he=>by cases he;exact vM) gx rfl hb
end
def WU (c:Ctx)(n ty:Nat)(fn:Func):Bool:=
 !(fn.name== "runtime.NumGoroutine")&&By c.n fn.ntmps&&abe fn.params.size fn.ntmps&&c.bQ n&&(match c.sig n with|none=>true|some _=>false)&&vj c n fn (some ty)
theorem cA.fnG {P:Program} {c c':Ctx}{g:Nat->List MV->Option MV}{n ty:Nat}{fn:Func}{F:List MV->Option MV}(h:cA P c g)(hl:wj c c')(Tw:c'.g=g)(fH:dt P c.ti)(ek:HV P c.ti)(DD: ∀t k,c.fk t=some k->P.underlying t=some (.float k))(JX:rR P c)(DR:P.follows .mixedOrders=true)(Bq:mq P c)(hf:P.funcs[n]? =some fn)(hh:WU c' n ty fn=true)(oO: ∀f,c.key f=f)(hF: ∀{ms r},F ms=some r->PN c' ty fn ms=some r):cA P c (bo n F g):=by
 have hG:Good P c':=by
  refine ⟨by rw [hl.ti];exact fH,by rw [hl.ti];exact ek,λf ms r hr=> ?_,by rw [hl.fk];exact DD,λt s hs=>JX t s ?_⟩
  ·rw [Tw,hl.key] at hr;exact (h.all f ms r hr).ez hl
  ·rw [<-hs];unfold oz Ctx.tv;rw [hl.mt,hl.ti]
 refine h.add (λf ms r hk hr=> ?_);rw [oO] at hk;subst hk;simp only [WU,sh,IT] at hh;obtain ⟨⟨⟨⟨⟨h1,h2⟩,h3⟩,h4⟩,h5⟩,h6⟩:=hh;have hs:c'.sig f=none:=by
  cases hs:c'.sig f with
  |none=>rfl
  |some sg=>rw [hs] at h5;cases h5
 exact (Rn hG (Bu hG DR (Bq.ez hl)) hf h1 (aQ h2) (aab h3) (by rw [hl.key,oO];exact h4) (by rw [hl.key,oO];exact hs) (by rw [hl.key,oO];exact E4 h6 ty rfl) (hF hr)).ez hl.symm
end Dn
/-
  Steps through a function of the library by hand. Conditions: none.
-/
namespace Dn
open Go
def kR (σ:Nat->Value)(d:Nat)(v:Value):Nat->Value:=λt=>bif By t d then v else σ t
def ev (σ:Nat->Value):Operand->Value
 | .tmp t=>σ t
 | .const v=>v
 | .global g=> .pointer (some ⟨g,0,none⟩)
 | .func f=> .func (.func f) #[] #[]
structure Tm (a:Act) (n:Nat) (σ:Nat->Value):Prop where
 defers:a.defers=[]
 size:a.tmps.size=n
 get: ∀t,a.tmps.getD t undef=σ t
theorem Tm.eval {a:Act}{n:Nat} {σ:Nat->Value}(h:Tm a n σ):a.eval=ev σ:=by
 funext x;cases x with
 |tmp t=>exact h.get t
 |_=>rfl
theorem Tm.put {a:Act}{n:Nat} {σ:Nat->Value}(h:Tm a n σ){d:Nat}(hd:d<n)(v:Value):Tm (a.put (some d) v) n (kR σ d v):=by
 refine ⟨h.defers,by simp [Act.put,h.size],λt=> ?_⟩;show (a.tmps.setIfInBounds d v).getD t undef=bif By t d then v else σ t;by_cases ht:t=d
 ·subst ht;have:t<a.tmps.size:=by rw [h.size];exact hd
  simp [this]
 ·have hb:By t d=false:=by
   cases hq:By t d with
   |false=>rfl
   |true=>exact absurd (aQ hq) ht
  rw [hb];have:=h.get t;simp only [aal,Array.getElem?_setIfInBounds_ne (aew ht),cond_false] at this⊢;exact this
theorem tm3 (v0 v1 v2:Value)(k:Nat):Tm {tmps:= #[v0,v1,v2]++BY k undef,defers:=[]} (k+3) (kR (kR (kR (λ_=>undef) 0 v0) 1 v1) 2 v2):=by
 refine ⟨rfl,by simp [aef],λq=> ?_⟩;by_cases h0:q=0
 ·subst h0;show (#[v0,v1,v2]++BY k undef).getD 0 undef=v0;simp [abr]
 by_cases h1:q=1
 ·subst h1;show (#[v0,v1,v2]++BY k undef).getD 1 undef=v1;simp [abr]
 by_cases h2:q=2
 ·subst h2;show (#[v0,v1,v2]++BY k undef).getD 2 undef=v2;simp [abr]
 have e: ∀{x y:Nat},x≠y->By x y=false:=λ{x y} h=>by
  cases hq:By x y with
  |false=>rfl
  |true=>exact absurd (aQ hq) h
 simp only [kR,e h0,e h1,e h2,cond_false];have h3:3<=q:=by omega
 simp [abr,Array.getElem?_replicate,show¬q<3 by omega];by_cases hk:q-3<k<;>simp [hk]
section
variable {P:Program}{Q:Exit->Act->World->Prop}{ops:Array Oper}{o:Oper}{a:Act} {w w':World}{n:Nat} {σ:Nat->Value}
theorem Tm.step {i d:Nat}{op:Op}{rest:List Nat}{v:Value}(af:Tm a n σ)(hi:ops[i]? =some o)(ho:ae o d op)(hd:d<n)(aV:(execOp (ev σ) o).run P w= .ok (.value v) w')(h: ∀a',Tm a' n (kR σ d v)->wpOps P ops Q rest a' w'):wpOps P ops Q (i::rest) a w:=by refine n7 hi ho.guard (v:=v) (w':=w') (by rw [af.eval];exact aV) ?_;rw [ho.dst];exact h _ (af.put hd v)
theorem aj {d:Nat}{x:Operand}{e:Operand->Value}(ho:ae o d (.move x))(w:World):(execOp e o).run P w= .ok (.value (e x)) w:=by simp [execOp,ho.op]
theorem aZ {d:Nat}{x:Operand}{e:Operand->Value}(ho:ae o d (.assign x))(w:World):(execOp e o).run P w= .ok (.value (e x)) w:=by simp [execOp,ho.op]
theorem gX {d:Nat}{t el:TypeId}{x:Operand}{e:Operand->Value}{ad:Option Addr}{m c:Nat}(ho:ae o d (.call {callee:= .builtin .len,args:= #[x],argTypes:= #[t]})) (hu:P.underlying t=some (.slice el)) (hx:e x= .slice ad m c) (w:World): (execOp e o).run P w= .ok (.value (.int .i64 m)) w:=by simp [execOp,ho.op,resolve,invoke,builtin,hx,Builtin.len_,goInt,run_underlying hu]
theorem Mj {d:Nat}{t el:TypeId}{x:Operand}{e:Operand->Value}{ad:Option Addr}{m c:Nat}(ho:ae o d (.call {callee:= .builtin .cap,args:= #[x],argTypes:= #[t]})) (hu:P.underlying t=some (.slice el)) (hx:e x= .slice ad m c) (w:World): (execOp e o).run P w= .ok (.value (.int .i64 c)) w:=by simp [execOp,ho.op,resolve,invoke,builtin,hx,Builtin.cap_,goInt,run_underlying hu]
theorem oU {d:Nat}{op:BinOp} {t t':TypeId}{x y:Operand}{e:Operand->Value}{k:IntKind}{p q:Int}{v:Value}(ho:ae o d (.binOp op t x y t'))(hx:e x= .int k p)(hy:e y= .int k q)(hv: ∀w:World,(adZ op t (.int k p) (.int k q)).run P w= .ok v w)(w:World):(execOp e o).run P w= .ok (.value v) w:=by
 have hg:(eqGuard op t x y (.int k p) (.int k q)).run P w= .ok () w:=by cases op<;>rfl
 simp [execOp,ho.op,hx,hy,hg,hv]
theorem iV {d:Nat} {t t':TypeId}{x y:Operand}{e:Operand->Value}{p q:Int}(ho:ae o d (.binOp .eql t x y t'))(hx:e x= .int .i64 p)(hy:e y= .int .i64 q)(w:World): (execOp e o).run P w= .ok (.value (.bool (decide (p=q)))) w:=oU ho hx hy (λw=>by simp [adZ,Op.intCmp];rfl) w
theorem IP {d:Nat} {t t':TypeId}{x y:Operand}{e:Operand->Value}{p q:Int}(ho:ae o d (.binOp .gtr t x y t'))(hx:e x= .int .i64 p)(hy:e y= .int .i64 q)(w:World): (execOp e o).run P w= .ok (.value (.bool (decide (q<p)))) w:=oU ho hx hy (λw=>by simp [adZ,Op.intCmp]) w
theorem eG {d:Nat} {t t':TypeId}{x y:Operand}{e:Operand->Value}{p q:Nat}(ho:ae o d (.binOp .add t x y t'))(hx:e x= .int .i64 p)(hy:e y= .int .i64 q)(hl:p+q<2^63)(w:World): (execOp e o).run P w= .ok (.value (.int .i64 ((p+q:Nat):Int))) w:=oU ho hx hy (λw=>by
  have:IntKind.i64.wrap ((p:Int)+(q:Int))=((p+q:Nat):Int):=by rw [aej];omega
  simp [adZ,Op.intArith,this]) w
theorem Ro {d:Nat} {t t':TypeId}{x y:Operand}{e:Operand->Value}{p q:Nat}(ho:ae o d (.binOp .sub t x y t'))(hx:e x= .int .i64 p)(hy:e y= .int .i64 q)(hl:p<2^63)(hq:q<=p)(w:World): (execOp e o).run P w= .ok (.value (.int .i64 ((p-q:Nat):Int))) w:=oU ho hx hy (λw=>by
  have:IntKind.i64.wrap ((p:Int)-(q:Int))=((p-q:Nat):Int):=by rw [aej];omega
  simp [adZ,Op.intArith,this]) w
theorem GK {d:Nat}{t:TypeId}{x:Operand}{e:Operand->Value}{b:Bool}(ho:ae o d (.unOp .not t x))(hx:e x= .bool b)(w:World): (execOp e o).run P w= .ok (.value (.bool (!b))) w:=by simp [execOp,ho.op,hx,Op.unary]
theorem sm {d:Nat}{t el:TypeId}{x y:Operand}{e:Operand->Value}{ad:Option Addr}{m c l size:Nat}{i:TypeInfo}(ho:ae o d (.slice t x (some y) none none))(hu:P.underlying t=some (.slice el))(hi:P.info? el=some i)(hs:i.size=size)(hx:e x= .slice ad m c)(hy:e y= .int .i64 l)(hl:l<=m)(w:World):(execOp e o).run P w= .ok (.value (.slice (if c=l then ad else ad.map (·.add (l *size))) (m-l) (c-l))) w:=by simp [execOp,ho.op,aes,aeB,run_underlying hu,hx,hy,ad1,typeInfo,hi,hs,aeg,aek,asIntOf,hl]
theorem wk {d:Nat}{t el:TypeId}{x y:Operand}{e:Operand->Value}{ad:Option Addr}{m c l size:Nat}{i:TypeInfo}(ho:ae o d (.slice t x none (some y) none))(hu:P.underlying t=some (.slice el))(hi:P.info? el=some i)(hs:i.size=size)(hx:e x= .slice ad m c)(hy:e y= .int .i64 l)(hl:l<=c)(w:World):(execOp e o).run P w= .ok (.value (.slice ad l c)) w:=by
 have h0: ∀q:Addr,q.add 0=q:=λq=>by obtain ⟨b,o,s⟩:=q;cases s<;>simp [Addr.add]
 have:(if c=0 then ad else ad.map (·.add (0 *size)))=ad:=by cases ad<;>simp [h0]
 simp [execOp,ho.op,aes,aeB,run_underlying hu,hx,hy,ad1,typeInfo,hi,hs,aeg,aek,asIntOf,hl];cases ad<;>simp [h0]
theorem jo {d:Nat}{t el:TypeId}{x y:Operand}{e:Operand->Value}{g m c l size:Nat}{i:TypeInfo}(ho:ae o d (.slice t x (some y) none none))(hu:P.underlying t=some (.slice el))(hi:P.info? el=some i)(hs:i.size=size)(hx:e x= .slice (some ⟨g,0,none⟩) m c)(hy:e y= .int .i64 l)(hl:l<=m)(hc:l<c)(w:World):(execOp e o).run P w= .ok (.value (.slice (some ⟨g,l *size,none⟩) (m-l) (c-l))) w:=by
 rw [sm ho hu hi hs hx hy hl w];have: ¬c=l:=by omega
 have h0:(⟨g,0,none⟩:Addr).add (l *size)=⟨g,l *size,none⟩:=by have:=abG g 0 (l *size);rwa [ab1] at this
 simp [this,h0]
theorem UM {d:Nat}{x y:Operand}{t1 t2:TypeId}{f:FuncId}{e:Operand->Value}{v1 v2 v:Value}(ho:ae o d (.call {callee:= .value (.func f),args:= #[x,y],argTypes:= #[t1,t2]})) (he:e (.func f)= .func (.func f) #[] #[]) (hx:e x=v1) (hy:e y=v2) (h:(callFunc f #[v1,v2]).run P w= .ok (.value v) w'):(execOp e o).run P w= .ok (.value v) w':=by simp [execOp,ho.op,resolve,invoke,builtin,he,hx,hy,aei,h]
theorem Bv {d:Nat}{x y:Operand}{t1 t2:TypeId}{e:Operand->Value}{v1 v2 v:Value}(ho:ae o d (.call {callee:= .builtin .append,args:= #[x,y],argTypes:= #[t1,t2]})) (hx:e x=v1) (hy:e y=v2) (h:(abV #[t1,t2] o.type #[v1,v2]).run P w= .ok v w'):(execOp e o).run P w= .ok (.value v) w':=by simp [execOp,ho.op,resolve,invoke,builtin,hx,hy,h]
theorem wm {d:Nat}{x y:Operand}{t1 t2:TypeId}{e:Operand->Value}{v1 v2 v:Value}(ho:ae o d (.call {callee:= .builtin .copy,args:= #[x,y],argTypes:= #[t1,t2]})) (hx:e x=v1) (hy:e y=v2) (h:(aaE #[t1,t2] o.type #[v1,v2]).run P w= .ok v w'):(execOp e o).run P w= .ok (.value v) w':=by simp [execOp,ho.op,resolve,invoke,builtin,hx,hy,h]
theorem kF {dT sT ty elem t:TypeId}{g o UN YH ka ra size k:Nat}{a:Addr}{bU:Array Value}{cs:List Value}{i:TypeInfo}(hu:P.underlying dT=some (.slice elem))(hi:P.info? elem=some i)(hs:i.size=size)(hg:w.heap[g]? =some (.cells bU t (0,0)))(hk:Nat.min ka UN=k)(hn:cs.length=k *size)(rQ: ∀(j:Nat) v,cs[j]? =some v->w.cell? (a.add j)=some v)(q0:o+cs.length<=bU.size)(h1: ∀v∈cs,v.oneCell'=true): (aaE #[dT,sT] ty #[.slice (some ⟨g,o,none⟩) UN YH,.slice (some a) ka ra]).run P w= .ok (goInt k) (w.setRow g (bU.toList.take o++cs++bU.toList.drop (o+cs.length)).toArray):=by have hl:=run_loadCells_list (P:=P) w a cs rQ;have cu:=run_storeCells_at P g o t cs 0 bU w hg (by simpa using q0) h1;simp only [Nat.add_zero] at cu;simp [aaE,run_underlying hu,Builtin.lenOf,ad7,ad1,typeInfo,hi,hs,hk,<-hn,hl,cu]
def IQ (ops:Array Oper):Nat->Nat->Array Bool->Bool
 |0,i,listed=>(IN .any ops (listed.setIfInBounds i true)).isEmpty&&(IN .any ops listed==[i])
 |k+1,i,listed=>Region.free .any ops listed i&&(IN .any ops listed).contains i&&IQ ops k (i+1) (listed.setIfInBounds i true)
def Mk (ops:Array Oper):Bool:=aeo ops&&Nat.blt 0 ops.size&&IQ ops (ops.size-1) 0 (BY ops.size false)
structure Ml (ops:Array Oper) (k i:Nat) (listed:Array Bool):Prop where
 sel:aeo ops=true
 ord:IQ ops k i listed=true
theorem Tm.draw {N:Act->World->Prop}{i d:Nat}{op:Op}{k:Nat}{listed:Array Bool}{v:Value}(af:Tm a n σ)(hi:ops[i]? =some o)(ho:ae o d op)(hd:d<n)(hb:Ml ops (k+1) i listed)(aV: ∀w,(execOp (ev σ) o).run P w= .ok (.value v) w)(h: ∀a',Tm a' n (kR σ d v)->Ml ops k (i+1) (listed.setIfInBounds i true)->wpAny P .any ops (jB N) (k+1) (listed.setIfInBounds i true) a' w):wpAny P .any ops (jB N) (k+2) listed a w:=by obtain ⟨hs,hb⟩:=hb;simp only [IQ,sh] at hb;obtain ⟨⟨h1,h2⟩,h3⟩:=hb;refine wpAny_take hi hs h1 h2 (λc a w hq=>hq.elim) (v:=v) (.inl ⟨by simp [aae,ho.guard],λw=>by rw [af.eval];exact aV w⟩) ?_;rw [ho.dst];exact h _ (af.put hd v) ⟨hs,h3⟩
theorem Tm.last {N:Act->World->Prop}{i d:Nat}{op:Op}{listed:Array Bool}{v:Value}(af:Tm a n σ)(hi:ops[i]? =some o)(ho:ae o d op)(hd:d<n)(hb:Ml ops 0 i listed)(aV:(execOp (ev σ) o).run P w= .ok (.value v) w')(h: ∀a',Tm a' n (kR σ d v)->N a' w'):wpAny P .any ops (jB N) 1 listed a w:=by obtain ⟨hs,hb⟩:=hb;simp only [IQ,sh,List.isEmpty_iff,beq_iff_eq] at hb;obtain ⟨h1,h2⟩:=hb;refine wpAny_all h2 (by simp) ?_;intro j hj;simp only [List.mem_singleton] at hj;subst hj;unfold wpOp;simp only [hi,aae,ho.guard,if_true];left;unfold ad2;rw [af.eval,aV,adT,ho.dst];exact wpAny_done h1 (h _ (af.put hd v)) 0
theorem Mm {id k:Nat}(hm:P.follows .mixedOrders=true)(hb:Mk ops=true)(hk:ops.size=k+1)(h:Ml ops k 0 (BY (k+1) false)->wpAny P .any ops (jB λa w=>Q .normal a w) (k+1) (BY (k+1) false) a {w with drawn:=w.drawn+1}): (Code.region id ops true).wp P Q a w:=by simp only [Mk,sh] at hb;rw [hk] at hb;refine aee ?_ (wp_region_any (Q:=jB λa w=>Q .normal a w) hm (by rw [hk];exact h ⟨hb.1.1,hb.2⟩));intro x a' w' hx;cases x<;>first|exact hx|exact hx.elim
theorem Tm.cond {x:Operand}{b:Bool}{A B:Code}(af:Tm a n σ)(hx:ev σ x= .bool b)(h:(if b then A else B).wp P Q a w):(Code.cond x A B).wp P Q a w:=by refine wp_cond (t:=b) (by rw [af.eval];exact hx) h
end
end Dn
/-
  slices.Insert of the library, walked. Printed by a program. Conditions: none.
-/
namespace Dn
open Go
def p8 (r:Nat->Nat)(o:Nat->Oper)(tail:Code):Code:= .seq (.region (r 0) #[o 0] false) (.seq (.region (r 1) #[o 1,o 2,o 3] false) (.seq (.region (r 2) #[o 4,o 5,o 6] false) (.seq (.seq (.region (r 3) #[o 7,o 8] false) (.cond (.tmp 16) (.seq (.region (r 4) #[o 9,o 10] false) .ret) .skip)) (.seq (.region (r 5) #[o 11,o 12,o 13] false) (.seq (.seq (.region (r 6) #[o 14,o 15,o 16] false) (.cond (.tmp 22) (.seq (.region (r 7) #[o 17,o 18,o 19,o 20] false) .ret) .skip)) (.seq (.seq (.region (r 8) #[o 21,o 22,o 23,o 24,o 25,o 26] false) (.cond (.tmp 31) (.seq (.region (r 9) #[o 27,o 28,o 29,o 30,o 31,o 32,o 33,o 34,o 35,o 36] false) (.seq (.region (r 10) #[o 37,o 38,o 39,o 40,o 41] false) (.seq (.region (r 11) #[o 42,o 43,o 44,o 45,o 46,o 47,o 48,o 49,o 50] true) (.seq (.region (r 12) #[o 51,o 52] false) .ret)))) .skip)) (.seq (.region (r 13) #[o 53,o 54,o 55,o 56,o 57,o 58] false) (.seq (.seq (.region (r 14) #[o 59,o 60,o 61,o 62,o 63,o 64,o 65,o 66] false) (.cond (.tmp 68) (.seq (.region (r 15) #[o 67,o 68,o 69,o 70,o 71,o 72,o 73,o 74,o 75] true) (.seq (.region (r 16) #[o 76,o 77,o 78,o 79,o 80] false) (.seq (.region (r 17) #[o 81,o 82] false) .ret))) .skip)) tail))))))))
structure YI (t ti tb fo:Nat) (o:Nat->Oper):Prop where
 h0:ae (o 0) 6 (.assign (.const (.slice none 0 0)))
 h1:ae (o 1) 10 (.move (.tmp 0))
 h2:ae (o 2) 11 (.move (.tmp 1))
 h3:ae (o 3) 12 (.slice t (.tmp 10) (some (.tmp 11)) none none)
 h4:ae (o 4) 13 (.move (.tmp 2))
 h5:ae (o 5) 14 (.call {callee:= .builtin .len,args:= #[.tmp 13],argTypes:= #[t]})
 h6:ae (o 6) 7 (.assign (.tmp 14))
 h7:ae (o 7) 15 (.move (.tmp 7))
 h8:ae (o 8) 16 (.binOp .eql ti (.tmp 15) (.const (.int .i64 0)) ti)
 h9:ae (o 9) 17 (.move (.tmp 0))
 rb:ae (o 10) 6 (.assign (.tmp 17))
 yU:ae (o 11) 18 (.move (.tmp 0))
 yV:ae (o 12) 19 (.call {callee:= .builtin .len,args:= #[.tmp 18],argTypes:= #[t]})
 yW:ae (o 13) 8 (.assign (.tmp 19))
 yX:ae (o 14) 20 (.move (.tmp 1))
 yY:ae (o 15) 21 (.move (.tmp 8))
 yZ:ae (o 16) 22 (.binOp .eql ti (.tmp 20) (.tmp 21) ti)
 Dt:ae (o 17) 23 (.move (.tmp 0))
 GL:ae (o 18) 24 (.move (.tmp 2))
 HB:ae (o 19) 25 (.call {callee:= .builtin .append,args:= #[.tmp 23,.tmp 24],argTypes:= #[t,t]})
 HC:ae (o 20) 6 (.assign (.tmp 25))
 E6:ae (o 21) 26 (.move (.tmp 8))
 E7:ae (o 22) 27 (.move (.tmp 7))
 E8:ae (o 23) 28 (.binOp .add ti (.tmp 26) (.tmp 27) ti)
 E9:ae (o 24) 29 (.move (.tmp 0))
 Fa:ae (o 25) 30 (.call {callee:= .builtin .cap,args:= #[.tmp 29],argTypes:= #[t]})
 IU:ae (o 26) 31 (.binOp .gtr ti (.tmp 28) (.tmp 30) ti)
 K6:ae (o 27) 32 (.move (.tmp 0))
 K7:ae (o 28) 33 (.move (.tmp 1))
 K8:ae (o 29) 34 (.slice t (.tmp 32) none (some (.tmp 33)) none)
 IV:ae (o 30) 35 (.move (.tmp 8))
 JZ:ae (o 31) 36 (.move (.tmp 7))
 J0:ae (o 32) 37 (.binOp .add ti (.tmp 35) (.tmp 36) ti)
 J1:ae (o 33) 38 (.move (.tmp 1))
 K9:ae (o 34) 39 (.binOp .sub ti (.tmp 37) (.tmp 38) ti)
 Mn:ae (o 35) 40 (.call {callee:= .builtin .append,args:= #[.tmp 34,.tmp 39],argTypes:= #[t,ti]})
 Ob:ae (o 36) 9 (.assign (.tmp 40))
 Mo:ae (o 37) 41 (.move (.tmp 9))
 Oc:ae (o 38) 42 (.move (.tmp 1))
 UO:ae (o 39) 43 (.slice t (.tmp 41) (some (.tmp 42)) none none)
 UP:ae (o 40) 44 (.move (.tmp 2))
 UQ:ae (o 41) 45 (.call {callee:= .builtin .copy,args:= #[.tmp 43,.tmp 44],argTypes:= #[t,t]})
 UR:ae (o 42) 46 (.move (.tmp 9))
 US:ae (o 43) 47 (.move (.tmp 1))
 UT:ae (o 44) 48 (.move (.tmp 7))
 h45:ae (o 45) 49 (.binOp .add ti (.tmp 47) (.tmp 48) ti)
 h46:ae (o 46) 50 (.slice t (.tmp 46) (some (.tmp 49)) none none)
 UU:ae (o 47) 51 (.move (.tmp 0))
 Qi:ae (o 48) 52 (.move (.tmp 1))
 Tx:ae (o 49) 53 (.slice t (.tmp 51) (some (.tmp 52)) none none)
 Ty:ae (o 50) 54 (.call {callee:= .builtin .copy,args:= #[.tmp 50,.tmp 53],argTypes:= #[t,t]})
 UW:ae (o 51) 55 (.move (.tmp 9))
 WV:ae (o 52) 6 (.assign (.tmp 55))
 Tz:ae (o 53) 56 (.move (.tmp 0))
 Rq:ae (o 54) 57 (.move (.tmp 8))
 h55:ae (o 55) 58 (.move (.tmp 7))
 h56:ae (o 56) 59 (.binOp .add ti (.tmp 57) (.tmp 58) ti)
 h57:ae (o 57) 60 (.slice t (.tmp 56) none (some (.tmp 59)) none)
 h58:ae (o 58) 0 (.assign (.tmp 60))
 h59:ae (o 59) 61 (.move (.tmp 2))
 h60:ae (o 60) 62 (.move (.tmp 0))
 h61:ae (o 61) 63 (.move (.tmp 1))
 h62:ae (o 62) 64 (.move (.tmp 7))
 h63:ae (o 63) 65 (.binOp .add ti (.tmp 63) (.tmp 64) ti)
 h64:ae (o 64) 66 (.slice t (.tmp 62) (some (.tmp 65)) none none)
 h65:ae (o 65) 67 (.call {callee:= .value (.func fo),args:= #[.tmp 61,.tmp 66],argTypes:= #[t,t]})
 h66:ae (o 66) 68 (.unOp .not tb (.tmp 67))
 h67:ae (o 67) 69 (.move (.tmp 0))
 h68:ae (o 68) 70 (.move (.tmp 1))
 h69:ae (o 69) 71 (.move (.tmp 7))
 h70:ae (o 70) 72 (.binOp .add ti (.tmp 70) (.tmp 71) ti)
 h71:ae (o 71) 73 (.slice t (.tmp 69) (some (.tmp 72)) none none)
 h72:ae (o 72) 74 (.move (.tmp 0))
 h73:ae (o 73) 75 (.move (.tmp 1))
 h74:ae (o 74) 76 (.slice t (.tmp 74) (some (.tmp 75)) none none)
 h75:ae (o 75) 77 (.call {callee:= .builtin .copy,args:= #[.tmp 73,.tmp 76],argTypes:= #[t,t]})
 h76:ae (o 76) 78 (.move (.tmp 0))
 h77:ae (o 77) 79 (.move (.tmp 1))
 h78:ae (o 78) 80 (.slice t (.tmp 78) (some (.tmp 79)) none none)
 h79:ae (o 79) 81 (.move (.tmp 2))
 h80:ae (o 80) 82 (.call {callee:= .builtin .copy,args:= #[.tmp 80,.tmp 81],argTypes:= #[t,t]})
 h81:ae (o 81) 83 (.move (.tmp 0))
 h82:ae (o 82) 6 (.assign (.tmp 83))
 d11:Mk #[o 42,o 43,o 44,o 45,o 46,o 47,o 48,o 49,o 50]=true
 d15:Mk #[o 67,o 68,o 69,o 70,o 71,o 72,o 73,o 74,o 75]=true
structure Bw (P:Program) (f t ti tb el fo:Nat) (fn:Func) (r:Nat->Nat) (o:Nat->Oper) (tail:Code):Prop where
 pos:P.funcs[f]? =some fn
 name:(fn.name== "runtime.NumGoroutine")=false
 tmps:fn.ntmps=95
 res:fn.results= #[.tmp 6]
 body:fn.body=some (p8 r o tail)
 ops:YI t ti tb fo o
 WW:P.follows .mixedOrders=true
 pI:P.underlying t=some (.slice el)
section
variable {P:Program}{f t ti tb el fo:Nat}{fn:Func}{r:Nat->Nat}{o:Nat->Oper}{tail:Code}{ie:TypeInfo}{size n m c c2 i g g2:Nat}{ad:Option Addr}{w:World}
theorem GM {a:Act}{w:World} {σ:Nat->Value}{R:Ending->World->Prop}{v:Value}(hr:fn.results= #[.tmp 6])(af:Tm a 95 σ)(h6:σ 6=v)(h:R (.returned v) w):bodyPost P fn R .ret a w:=by
 refine ⟨af.defers,v,?_,h⟩;have h2:a.tmps[6]?.getD undef=v:=by have:=af.get 6;rw [h6] at this;simpa using this
 simp [results,hr,h2]
theorem UX (hf:Bw P f t ti tb el fo fn r o tail)(jW:P.info? el=some ie)(n8:ie.size=size)(hm:0<m)(hn:n<=c)(hc:c<2^63)(Z3:n+m<2^63)(hi:i=n){v:Value}{w1:World}(aV: ∀ty,(abV #[t,t] ty #[.slice ad n c,.slice (some ⟨g2,0,none⟩) m c2]).run P w= .ok v w1) :Calls P f #[.slice ad n c,.int .i64 ((i:Nat):Int),.slice (some ⟨g2,0,none⟩) m c2] w λx w'=>x= .returned v/\w'=w1:=by
 refine calls_of_wp hf.pos hf.body ?_;rw [hf.tmps];have key: ∀a:Act,Tm a 95 (kR (kR (kR (λ_=>undef) 0 (.slice ad n c)) 1 (.int .i64 ((i:Nat):Int))) 2 (.slice (some ⟨g2,0,none⟩) m c2))->(p8 r o tail).wp P (bodyPost P fn λx w'=>x= .returned v/\w'=w1) a w:=by intro a af;unfold p8;refine wp_seq (wp_region ?_);rw [show AT (#[o 0]:Array Oper).size=[0] from rfl];refine af.step (v:= .slice none 0 0) rfl hf.ops.h0 (by decide) (aZ hf.ops.h0 _) (λa af=> ?_);refine wp_seq (wp_region ?_);rw [show AT (#[o 1,o 2,o 3]:Array Oper).size=[0,1,2] from rfl];refine af.step (v:= .slice ad n c) rfl hf.ops.h1 (by decide) (aj hf.ops.h1 _) (λa af=> ?_);refine af.step (v:= .int .i64 ((i:Nat):Int)) rfl hf.ops.h2 (by decide) (aj hf.ops.h2 _) (λa af=> ?_);refine af.step (v:= .slice (if c=i then ad else (ad:Option Addr).map (·.add (i *size))) (n-i) (c-i)) rfl hf.ops.h3 (by decide) (sm hf.ops.h3 hf.pI jW n8 rfl rfl (by omega) _) (λa af=> ?_);refine wp_seq (wp_region ?_);rw [show AT (#[o 4,o 5,o 6]:Array Oper).size=[0,1,2] from rfl];refine af.step (v:= .slice (some ⟨g2,0,none⟩) m c2) rfl hf.ops.h4 (by decide) (aj hf.ops.h4 _) (λa af=> ?_);refine af.step (v:= .int .i64 ((m:Nat):Int)) rfl hf.ops.h5 (by decide) (gX hf.ops.h5 hf.pI rfl _) (λa af=> ?_);refine af.step (v:= .int .i64 ((m:Nat):Int)) rfl hf.ops.h6 (by decide) (aZ hf.ops.h6 _) (λa af=> ?_);refine wp_seq ?_;refine wp_seq (wp_region ?_);rw [show AT (#[o 7,o 8]:Array Oper).size=[0,1] from rfl];refine af.step (v:= .int .i64 ((m:Nat):Int)) rfl hf.ops.h7 (by decide) (aj hf.ops.h7 _) (λa af=> ?_);refine af.step (v:= .bool (decide (((m:Nat):Int)=((0:Nat):Int)))) rfl hf.ops.h8 (by decide) (iV hf.ops.h8 rfl rfl _) (λa af=> ?_);refine af.cond (b:=false) (by show abY (decide (((m:Nat):Int)=((0:Nat):Int)))=_;rw [decide_eq_false (by omega)]) ?_;simp only [No,if_false];refine wp_skip ?_;refine wp_seq (wp_region ?_);rw [show AT (#[o 11,o 12,o 13]:Array Oper).size=[0,1,2] from rfl];refine af.step (v:= .slice ad n c) rfl hf.ops.yU (by decide) (aj hf.ops.yU _) (λa af=> ?_);refine af.step (v:= .int .i64 ((n:Nat):Int)) rfl hf.ops.yV (by decide) (gX hf.ops.yV hf.pI rfl _) (λa af=> ?_);refine af.step (v:= .int .i64 ((n:Nat):Int)) rfl hf.ops.yW (by decide) (aZ hf.ops.yW _) (λa af=> ?_);refine wp_seq ?_;refine wp_seq (wp_region ?_);rw [show AT (#[o 14,o 15,o 16]:Array Oper).size=[0,1,2] from rfl];refine af.step (v:= .int .i64 ((i:Nat):Int)) rfl hf.ops.yX (by decide) (aj hf.ops.yX _) (λa af=> ?_);refine af.step (v:= .int .i64 ((n:Nat):Int)) rfl hf.ops.yY (by decide) (aj hf.ops.yY _) (λa af=> ?_);refine af.step (v:= .bool (decide (((i:Nat):Int)=((n:Nat):Int)))) rfl hf.ops.yZ (by decide) (iV hf.ops.yZ rfl rfl _) (λa af=> ?_);refine af.cond (b:=true) (by show abY (decide (((i:Nat):Int)=((n:Nat):Int)))=_;rw [decide_eq_true (by omega)]) ?_;simp only [if_true];refine wp_seq (wp_region ?_);rw [show AT (#[o 17,o 18,o 19,o 20]:Array Oper).size=[0,1,2,3] from rfl];refine af.step (v:= .slice ad n c) rfl hf.ops.Dt (by decide) (aj hf.ops.Dt _) (λa af=> ?_);refine af.step (v:= .slice (some ⟨g2,0,none⟩) m c2) rfl hf.ops.GL (by decide) (aj hf.ops.GL _) (λa af=> ?_);refine af.step (v:=v) rfl hf.ops.HB (by decide) (Bv hf.ops.HB rfl rfl (aV _)) (λa af=> ?_);refine af.step (v:=v) rfl hf.ops.HC (by decide) (aZ hf.ops.HC _) (λa af=> ?_);refine wp_ret ?_;show bodyPost P fn (λx wq=>x= .returned (v)/\wq=w1) .ret a w1;refine GM hf.res af (v:=v) rfl ?_;exact ⟨rfl,rfl⟩
 exact key _ (tm3 _ _ _ 92)
theorem Rr (hf:Bw P f t ti tb el fo fn r o tail)(jW:P.info? el=some ie)(n8:ie.size=size)(hm:0<m)(hn:n<=c)(hc:c<2^63)(Z3:n+m<2^63)(hi:i<n)(nm:c<n+m){g9 G:Nat}{v1 v2:Value}{w1 w2 w3:World}(hG:n+m<=G)(hA: ∀ty,(abV #[t,ti] ty #[.slice (some ⟨g,0,none⟩) i c,.int .i64 ((n+m-i:Nat):Int)]).run P w= .ok (.slice (some ⟨g9,0,none⟩) (n+m) G) w1)(hB: ∀ty,(aaE #[t,t] ty #[.slice (some ⟨g9,i *size,none⟩) (n+m-i) (G-i),.slice (some ⟨g2,0,none⟩) m c2]).run P w1= .ok v1 w2)(hC: ∀ty,(aaE #[t,t] ty #[.slice (some ⟨g9,(i+m) *size,none⟩) (n+m-(i+m)) (G-(i+m)),.slice (some ⟨g,i *size,none⟩) (n-i) (c-i)]).run P {w2 with drawn:=w2.drawn+1}= .ok v2 w3) :Calls P f #[.slice (some ⟨g,0,none⟩) n c,.int .i64 ((i:Nat):Int),.slice (some ⟨g2,0,none⟩) m c2] w λx w'=>x= .returned (.slice (some ⟨g9,0,none⟩) (n+m) G)/\w'=w3:=by
 refine calls_of_wp hf.pos hf.body ?_;rw [hf.tmps];have key: ∀a:Act,Tm a 95 (kR (kR (kR (λ_=>undef) 0 (.slice (some ⟨g,0,none⟩) n c)) 1 (.int .i64 ((i:Nat):Int))) 2 (.slice (some ⟨g2,0,none⟩) m c2))->(p8 r o tail).wp P (bodyPost P fn λx w'=>x= .returned (.slice (some ⟨g9,0,none⟩) (n+m) G)/\w'=w3) a w:=by intro a af;unfold p8;refine wp_seq (wp_region ?_);rw [show AT (#[o 0]:Array Oper).size=[0] from rfl];refine af.step (v:= .slice none 0 0) rfl hf.ops.h0 (by decide) (aZ hf.ops.h0 _) (λa af=> ?_);refine wp_seq (wp_region ?_);rw [show AT (#[o 1,o 2,o 3]:Array Oper).size=[0,1,2] from rfl];refine af.step (v:= .slice (some ⟨g,0,none⟩) n c) rfl hf.ops.h1 (by decide) (aj hf.ops.h1 _) (λa af=> ?_);refine af.step (v:= .int .i64 ((i:Nat):Int)) rfl hf.ops.h2 (by decide) (aj hf.ops.h2 _) (λa af=> ?_);refine af.step (v:= .slice (if c=i then (some ⟨g,0,none⟩) else ((some ⟨g,0,none⟩):Option Addr).map (·.add (i *size))) (n-i) (c-i)) rfl hf.ops.h3 (by decide) (sm hf.ops.h3 hf.pI jW n8 rfl rfl (by omega) _) (λa af=> ?_);refine wp_seq (wp_region ?_);rw [show AT (#[o 4,o 5,o 6]:Array Oper).size=[0,1,2] from rfl];refine af.step (v:= .slice (some ⟨g2,0,none⟩) m c2) rfl hf.ops.h4 (by decide) (aj hf.ops.h4 _) (λa af=> ?_);refine af.step (v:= .int .i64 ((m:Nat):Int)) rfl hf.ops.h5 (by decide) (gX hf.ops.h5 hf.pI rfl _) (λa af=> ?_);refine af.step (v:= .int .i64 ((m:Nat):Int)) rfl hf.ops.h6 (by decide) (aZ hf.ops.h6 _) (λa af=> ?_);refine wp_seq ?_;refine wp_seq (wp_region ?_);rw [show AT (#[o 7,o 8]:Array Oper).size=[0,1] from rfl];refine af.step (v:= .int .i64 ((m:Nat):Int)) rfl hf.ops.h7 (by decide) (aj hf.ops.h7 _) (λa af=> ?_);refine af.step (v:= .bool (decide (((m:Nat):Int)=((0:Nat):Int)))) rfl hf.ops.h8 (by decide) (iV hf.ops.h8 rfl rfl _) (λa af=> ?_);refine af.cond (b:=false) (by show abY (decide (((m:Nat):Int)=((0:Nat):Int)))=_;rw [decide_eq_false (by omega)]) ?_;simp only [No,if_false];refine wp_skip ?_;refine wp_seq (wp_region ?_);rw [show AT (#[o 11,o 12,o 13]:Array Oper).size=[0,1,2] from rfl];refine af.step (v:= .slice (some ⟨g,0,none⟩) n c) rfl hf.ops.yU (by decide) (aj hf.ops.yU _) (λa af=> ?_);refine af.step (v:= .int .i64 ((n:Nat):Int)) rfl hf.ops.yV (by decide) (gX hf.ops.yV hf.pI rfl _) (λa af=> ?_);refine af.step (v:= .int .i64 ((n:Nat):Int)) rfl hf.ops.yW (by decide) (aZ hf.ops.yW _) (λa af=> ?_);refine wp_seq ?_;refine wp_seq (wp_region ?_);rw [show AT (#[o 14,o 15,o 16]:Array Oper).size=[0,1,2] from rfl];refine af.step (v:= .int .i64 ((i:Nat):Int)) rfl hf.ops.yX (by decide) (aj hf.ops.yX _) (λa af=> ?_);refine af.step (v:= .int .i64 ((n:Nat):Int)) rfl hf.ops.yY (by decide) (aj hf.ops.yY _) (λa af=> ?_);refine af.step (v:= .bool (decide (((i:Nat):Int)=((n:Nat):Int)))) rfl hf.ops.yZ (by decide) (iV hf.ops.yZ rfl rfl _) (λa af=> ?_);refine af.cond (b:=false) (by show abY (decide (((i:Nat):Int)=((n:Nat):Int)))=_;rw [decide_eq_false (by omega)]) ?_;simp only [No,if_false];refine wp_skip ?_;refine wp_seq ?_;refine wp_seq (wp_region ?_);rw [show AT (#[o 21,o 22,o 23,o 24,o 25,o 26]:Array Oper).size=[0,1,2,3,4,5] from rfl];refine af.step (v:= .int .i64 ((n:Nat):Int)) rfl hf.ops.E6 (by decide) (aj hf.ops.E6 _) (λa af=> ?_);refine af.step (v:= .int .i64 ((m:Nat):Int)) rfl hf.ops.E7 (by decide) (aj hf.ops.E7 _) (λa af=> ?_);refine af.step (v:= .int .i64 ((n+m:Nat):Int)) rfl hf.ops.E8 (by decide) (eG hf.ops.E8 rfl rfl (by omega) _) (λa af=> ?_);refine af.step (v:= .slice (some ⟨g,0,none⟩) n c) rfl hf.ops.E9 (by decide) (aj hf.ops.E9 _) (λa af=> ?_);refine af.step (v:= .int .i64 ((c:Nat):Int)) rfl hf.ops.Fa (by decide) (Mj hf.ops.Fa hf.pI rfl _) (λa af=> ?_);refine af.step (v:= .bool (decide (((c:Nat):Int)<(((n+m):Nat):Int)))) rfl hf.ops.IU (by decide) (IP hf.ops.IU rfl rfl _) (λa af=> ?_);refine af.cond (b:=true) (by show abY (decide (((c:Nat):Int)<((n+m:Nat):Int)))=_;rw [decide_eq_true (by omega)]) ?_;simp only [if_true];refine wp_seq (wp_region ?_);rw [show AT (#[o 27,o 28,o 29,o 30,o 31,o 32,o 33,o 34,o 35,o 36]:Array Oper).size=[0,1,2,3,4,5,6,7,8,9] from rfl];refine af.step (v:= .slice (some ⟨g,0,none⟩) n c) rfl hf.ops.K6 (by decide) (aj hf.ops.K6 _) (λa af=> ?_);refine af.step (v:= .int .i64 ((i:Nat):Int)) rfl hf.ops.K7 (by decide) (aj hf.ops.K7 _) (λa af=> ?_);refine af.step (v:= .slice (some ⟨g,0,none⟩) i c) rfl hf.ops.K8 (by decide) (wk hf.ops.K8 hf.pI jW n8 rfl rfl (by omega) _) (λa af=> ?_);refine af.step (v:= .int .i64 ((n:Nat):Int)) rfl hf.ops.IV (by decide) (aj hf.ops.IV _) (λa af=> ?_);refine af.step (v:= .int .i64 ((m:Nat):Int)) rfl hf.ops.JZ (by decide) (aj hf.ops.JZ _) (λa af=> ?_);refine af.step (v:= .int .i64 ((n+m:Nat):Int)) rfl hf.ops.J0 (by decide) (eG hf.ops.J0 rfl rfl (by omega) _) (λa af=> ?_);refine af.step (v:= .int .i64 ((i:Nat):Int)) rfl hf.ops.J1 (by decide) (aj hf.ops.J1 _) (λa af=> ?_);refine af.step (v:= .int .i64 (((n+m)-i:Nat):Int)) rfl hf.ops.K9 (by decide) (Ro hf.ops.K9 rfl rfl (by omega) (by omega) _) (λa af=> ?_);refine af.step (v:= .slice (some ⟨g9,0,none⟩) (n+m) G) rfl hf.ops.Mn (by decide) (Bv hf.ops.Mn rfl rfl (hA _)) (λa af=> ?_);refine af.step (v:= .slice (some ⟨g9,0,none⟩) (n+m) G) rfl hf.ops.Ob (by decide) (aZ hf.ops.Ob _) (λa af=> ?_);refine wp_seq (wp_region ?_);rw [show AT (#[o 37,o 38,o 39,o 40,o 41]:Array Oper).size=[0,1,2,3,4] from rfl];refine af.step (v:= .slice (some ⟨g9,0,none⟩) (n+m) G) rfl hf.ops.Mo (by decide) (aj hf.ops.Mo _) (λa af=> ?_);refine af.step (v:= .int .i64 ((i:Nat):Int)) rfl hf.ops.Oc (by decide) (aj hf.ops.Oc _) (λa af=> ?_);refine af.step (v:= .slice (some ⟨g9,i *size,none⟩) (n+m-i) (G-i)) rfl hf.ops.UO (by decide) (jo hf.ops.UO hf.pI jW n8 rfl rfl (by omega) (by omega) _) (λa af=> ?_);refine af.step (v:= .slice (some ⟨g2,0,none⟩) m c2) rfl hf.ops.UP (by decide) (aj hf.ops.UP _) (λa af=> ?_);refine af.step (v:=v1) rfl hf.ops.UQ (by decide) (wm hf.ops.UQ rfl rfl (hB _)) (λa af=> ?_);refine wp_seq (Mm hf.WW hf.ops.d11 (k:=8) rfl λdz=> ?_);refine af.draw (v:= .slice (some ⟨g9,0,none⟩) (n+m) G) rfl hf.ops.UR (by decide) dz (λw=>aj hf.ops.UR _) (λa af dz=> ?_);refine af.draw (v:= .int .i64 ((i:Nat):Int)) rfl hf.ops.US (by decide) dz (λw=>aj hf.ops.US _) (λa af dz=> ?_);refine af.draw (v:= .int .i64 ((m:Nat):Int)) rfl hf.ops.UT (by decide) dz (λw=>aj hf.ops.UT _) (λa af dz=> ?_);refine af.draw (v:= .int .i64 ((i+m:Nat):Int)) rfl hf.ops.h45 (by decide) dz (λw=>eG hf.ops.h45 rfl rfl (by omega) _) (λa af dz=> ?_);refine af.draw (v:= .slice (some ⟨g9,(i+m) *size,none⟩) (n+m-(i+m)) (G-(i+m))) rfl hf.ops.h46 (by decide) dz (λw=>jo hf.ops.h46 hf.pI jW n8 rfl rfl (by omega) (by omega) _) (λa af dz=> ?_);refine af.draw (v:= .slice (some ⟨g,0,none⟩) n c) rfl hf.ops.UU (by decide) dz (λw=>aj hf.ops.UU _) (λa af dz=> ?_);refine af.draw (v:= .int .i64 ((i:Nat):Int)) rfl hf.ops.Qi (by decide) dz (λw=>aj hf.ops.Qi _) (λa af dz=> ?_);refine af.draw (v:= .slice (some ⟨g,i *size,none⟩) (n-i) (c-i)) rfl hf.ops.Tx (by decide) dz (λw=>jo hf.ops.Tx hf.pI jW n8 rfl rfl (by omega) (by omega) _) (λa af dz=> ?_);refine af.last (v:=v2) rfl hf.ops.Ty (by decide) dz (wm hf.ops.Ty rfl rfl (hC _)) (λa af=> ?_);refine wp_seq (wp_region ?_);rw [show AT (#[o 51,o 52]:Array Oper).size=[0,1] from rfl];refine af.step (v:= .slice (some ⟨g9,0,none⟩) (n+m) G) rfl hf.ops.UW (by decide) (aj hf.ops.UW _) (λa af=> ?_);refine af.step (v:= .slice (some ⟨g9,0,none⟩) (n+m) G) rfl hf.ops.WV (by decide) (aZ hf.ops.WV _) (λa af=> ?_);refine wp_ret ?_;show bodyPost P fn (λx wq=>x= .returned (.slice (some ⟨g9,0,none⟩) (n+m) G)/\wq=w3) .ret a w3;refine GM hf.res af (v:= .slice (some ⟨g9,0,none⟩) (n+m) G) rfl ?_;exact ⟨rfl,rfl⟩
 exact key _ (tm3 _ _ _ 92)
theorem Rs (hf:Bw P f t ti tb el fo fn r o tail)(jW:P.info? el=some ie)(n8:ie.size=size)(hm:0<m)(hn:n<=c)(hc:c<2^63)(Z3:n+m<2^63)(hi:i<n)(nm:n+m<=c){v1 v2:Value}{w1 w2:World}(hO:(callFunc fo #[.slice (some ⟨g2,0,none⟩) m c2,.slice (some ⟨g,(i+m) *size,none⟩) (n+m-(i+m)) (c-(i+m))]).run P w= .ok (.value (.bool false)) w)(hB: ∀ty,(aaE #[t,t] ty #[.slice (some ⟨g,(i+m) *size,none⟩) (n+m-(i+m)) (c-(i+m)),.slice (some ⟨g,i *size,none⟩) (n+m-i) (c-i)]).run P {w with drawn:=w.drawn+1}= .ok v1 w1) (hC: ∀ty,(aaE #[t,t] ty #[.slice (some ⟨g,i *size,none⟩) (n+m-i) (c-i),.slice (some ⟨g2,0,none⟩) m c2]).run P w1= .ok v2 w2) :Calls P f #[.slice (some ⟨g,0,none⟩) n c,.int .i64 ((i:Nat):Int),.slice (some ⟨g2,0,none⟩) m c2] w λx w'=>x= .returned (.slice (some ⟨g,0,none⟩) (n+m) c)/\w'=w2:=by
 refine calls_of_wp hf.pos hf.body ?_;rw [hf.tmps];have key: ∀a:Act,Tm a 95 (kR (kR (kR (λ_=>undef) 0 (.slice (some ⟨g,0,none⟩) n c)) 1 (.int .i64 ((i:Nat):Int))) 2 (.slice (some ⟨g2,0,none⟩) m c2))->(p8 r o tail).wp P (bodyPost P fn λx w'=>x= .returned (.slice (some ⟨g,0,none⟩) (n+m) c)/\w'=w2) a w:=by intro a af;unfold p8;refine wp_seq (wp_region ?_);rw [show AT (#[o 0]:Array Oper).size=[0] from rfl];refine af.step (v:= .slice none 0 0) rfl hf.ops.h0 (by decide) (aZ hf.ops.h0 _) (λa af=> ?_);refine wp_seq (wp_region ?_);rw [show AT (#[o 1,o 2,o 3]:Array Oper).size=[0,1,2] from rfl];refine af.step (v:= .slice (some ⟨g,0,none⟩) n c) rfl hf.ops.h1 (by decide) (aj hf.ops.h1 _) (λa af=> ?_);refine af.step (v:= .int .i64 ((i:Nat):Int)) rfl hf.ops.h2 (by decide) (aj hf.ops.h2 _) (λa af=> ?_);refine af.step (v:= .slice (if c=i then (some ⟨g,0,none⟩) else ((some ⟨g,0,none⟩):Option Addr).map (·.add (i *size))) (n-i) (c-i)) rfl hf.ops.h3 (by decide) (sm hf.ops.h3 hf.pI jW n8 rfl rfl (by omega) _) (λa af=> ?_);refine wp_seq (wp_region ?_);rw [show AT (#[o 4,o 5,o 6]:Array Oper).size=[0,1,2] from rfl];refine af.step (v:= .slice (some ⟨g2,0,none⟩) m c2) rfl hf.ops.h4 (by decide) (aj hf.ops.h4 _) (λa af=> ?_);refine af.step (v:= .int .i64 ((m:Nat):Int)) rfl hf.ops.h5 (by decide) (gX hf.ops.h5 hf.pI rfl _) (λa af=> ?_);refine af.step (v:= .int .i64 ((m:Nat):Int)) rfl hf.ops.h6 (by decide) (aZ hf.ops.h6 _) (λa af=> ?_);refine wp_seq ?_;refine wp_seq (wp_region ?_);rw [show AT (#[o 7,o 8]:Array Oper).size=[0,1] from rfl];refine af.step (v:= .int .i64 ((m:Nat):Int)) rfl hf.ops.h7 (by decide) (aj hf.ops.h7 _) (λa af=> ?_);refine af.step (v:= .bool (decide (((m:Nat):Int)=((0:Nat):Int)))) rfl hf.ops.h8 (by decide) (iV hf.ops.h8 rfl rfl _) (λa af=> ?_);refine af.cond (b:=false) (by show abY (decide (((m:Nat):Int)=((0:Nat):Int)))=_;rw [decide_eq_false (by omega)]) ?_;simp only [No,if_false];refine wp_skip ?_;refine wp_seq (wp_region ?_);rw [show AT (#[o 11,o 12,o 13]:Array Oper).size=[0,1,2] from rfl];refine af.step (v:= .slice (some ⟨g,0,none⟩) n c) rfl hf.ops.yU (by decide) (aj hf.ops.yU _) (λa af=> ?_);refine af.step (v:= .int .i64 ((n:Nat):Int)) rfl hf.ops.yV (by decide) (gX hf.ops.yV hf.pI rfl _) (λa af=> ?_);refine af.step (v:= .int .i64 ((n:Nat):Int)) rfl hf.ops.yW (by decide) (aZ hf.ops.yW _) (λa af=> ?_);refine wp_seq ?_;refine wp_seq (wp_region ?_);rw [show AT (#[o 14,o 15,o 16]:Array Oper).size=[0,1,2] from rfl];refine af.step (v:= .int .i64 ((i:Nat):Int)) rfl hf.ops.yX (by decide) (aj hf.ops.yX _) (λa af=> ?_);refine af.step (v:= .int .i64 ((n:Nat):Int)) rfl hf.ops.yY (by decide) (aj hf.ops.yY _) (λa af=> ?_);refine af.step (v:= .bool (decide (((i:Nat):Int)=((n:Nat):Int)))) rfl hf.ops.yZ (by decide) (iV hf.ops.yZ rfl rfl _) (λa af=> ?_);refine af.cond (b:=false) (by show abY (decide (((i:Nat):Int)=((n:Nat):Int)))=_;rw [decide_eq_false (by omega)]) ?_;simp only [No,if_false];refine wp_skip ?_;refine wp_seq ?_;refine wp_seq (wp_region ?_);rw [show AT (#[o 21,o 22,o 23,o 24,o 25,o 26]:Array Oper).size=[0,1,2,3,4,5] from rfl];refine af.step (v:= .int .i64 ((n:Nat):Int)) rfl hf.ops.E6 (by decide) (aj hf.ops.E6 _) (λa af=> ?_);refine af.step (v:= .int .i64 ((m:Nat):Int)) rfl hf.ops.E7 (by decide) (aj hf.ops.E7 _) (λa af=> ?_);refine af.step (v:= .int .i64 ((n+m:Nat):Int)) rfl hf.ops.E8 (by decide) (eG hf.ops.E8 rfl rfl (by omega) _) (λa af=> ?_);refine af.step (v:= .slice (some ⟨g,0,none⟩) n c) rfl hf.ops.E9 (by decide) (aj hf.ops.E9 _) (λa af=> ?_);refine af.step (v:= .int .i64 ((c:Nat):Int)) rfl hf.ops.Fa (by decide) (Mj hf.ops.Fa hf.pI rfl _) (λa af=> ?_);refine af.step (v:= .bool (decide (((c:Nat):Int)<(((n+m):Nat):Int)))) rfl hf.ops.IU (by decide) (IP hf.ops.IU rfl rfl _) (λa af=> ?_);refine af.cond (b:=false) (by show abY (decide (((c:Nat):Int)<((n+m:Nat):Int)))=_;rw [decide_eq_false (by omega)]) ?_;simp only [No,if_false];refine wp_skip ?_;refine wp_seq (wp_region ?_);rw [show AT (#[o 53,o 54,o 55,o 56,o 57,o 58]:Array Oper).size=[0,1,2,3,4,5] from rfl];refine af.step (v:= .slice (some ⟨g,0,none⟩) n c) rfl hf.ops.Tz (by decide) (aj hf.ops.Tz _) (λa af=> ?_);refine af.step (v:= .int .i64 ((n:Nat):Int)) rfl hf.ops.Rq (by decide) (aj hf.ops.Rq _) (λa af=> ?_);refine af.step (v:= .int .i64 ((m:Nat):Int)) rfl hf.ops.h55 (by decide) (aj hf.ops.h55 _) (λa af=> ?_);refine af.step (v:= .int .i64 ((n+m:Nat):Int)) rfl hf.ops.h56 (by decide) (eG hf.ops.h56 rfl rfl (by omega) _) (λa af=> ?_);refine af.step (v:= .slice (some ⟨g,0,none⟩) (n+m) c) rfl hf.ops.h57 (by decide) (wk hf.ops.h57 hf.pI jW n8 rfl rfl (by omega) _) (λa af=> ?_);refine af.step (v:= .slice (some ⟨g,0,none⟩) (n+m) c) rfl hf.ops.h58 (by decide) (aZ hf.ops.h58 _) (λa af=> ?_);refine wp_seq ?_;refine wp_seq (wp_region ?_);rw [show AT (#[o 59,o 60,o 61,o 62,o 63,o 64,o 65,o 66]:Array Oper).size=[0,1,2,3,4,5,6,7] from rfl];refine af.step (v:= .slice (some ⟨g2,0,none⟩) m c2) rfl hf.ops.h59 (by decide) (aj hf.ops.h59 _) (λa af=> ?_);refine af.step (v:= .slice (some ⟨g,0,none⟩) (n+m) c) rfl hf.ops.h60 (by decide) (aj hf.ops.h60 _) (λa af=> ?_);refine af.step (v:= .int .i64 ((i:Nat):Int)) rfl hf.ops.h61 (by decide) (aj hf.ops.h61 _) (λa af=> ?_);refine af.step (v:= .int .i64 ((m:Nat):Int)) rfl hf.ops.h62 (by decide) (aj hf.ops.h62 _) (λa af=> ?_);refine af.step (v:= .int .i64 ((i+m:Nat):Int)) rfl hf.ops.h63 (by decide) (eG hf.ops.h63 rfl rfl (by omega) _) (λa af=> ?_);refine af.step (v:= .slice (some ⟨g,(i+m) *size,none⟩) (n+m-(i+m)) (c-(i+m))) rfl hf.ops.h64 (by decide) (jo hf.ops.h64 hf.pI jW n8 rfl rfl (by omega) (by omega) _) (λa af=> ?_);refine af.step (v:= .bool false) rfl hf.ops.h65 (by decide) (UM hf.ops.h65 rfl rfl rfl hO) (λa af=> ?_);refine af.step (v:= .bool (!false)) rfl hf.ops.h66 (by decide) (GK hf.ops.h66 rfl _) (λa af=> ?_);refine af.cond (b:=true) rfl ?_;simp only [if_true];refine wp_seq (Mm hf.WW hf.ops.d15 (k:=8) rfl λdz=> ?_);refine af.draw (v:= .slice (some ⟨g,0,none⟩) (n+m) c) rfl hf.ops.h67 (by decide) dz (λw=>aj hf.ops.h67 _) (λa af dz=> ?_);refine af.draw (v:= .int .i64 ((i:Nat):Int)) rfl hf.ops.h68 (by decide) dz (λw=>aj hf.ops.h68 _) (λa af dz=> ?_);refine af.draw (v:= .int .i64 ((m:Nat):Int)) rfl hf.ops.h69 (by decide) dz (λw=>aj hf.ops.h69 _) (λa af dz=> ?_);refine af.draw (v:= .int .i64 ((i+m:Nat):Int)) rfl hf.ops.h70 (by decide) dz (λw=>eG hf.ops.h70 rfl rfl (by omega) _) (λa af dz=> ?_);refine af.draw (v:= .slice (some ⟨g,(i+m) *size,none⟩) (n+m-(i+m)) (c-(i+m))) rfl hf.ops.h71 (by decide) dz (λw=>jo hf.ops.h71 hf.pI jW n8 rfl rfl (by omega) (by omega) _) (λa af dz=> ?_);refine af.draw (v:= .slice (some ⟨g,0,none⟩) (n+m) c) rfl hf.ops.h72 (by decide) dz (λw=>aj hf.ops.h72 _) (λa af dz=> ?_);refine af.draw (v:= .int .i64 ((i:Nat):Int)) rfl hf.ops.h73 (by decide) dz (λw=>aj hf.ops.h73 _) (λa af dz=> ?_);refine af.draw (v:= .slice (some ⟨g,i *size,none⟩) (n+m-i) (c-i)) rfl hf.ops.h74 (by decide) dz (λw=>jo hf.ops.h74 hf.pI jW n8 rfl rfl (by omega) (by omega) _) (λa af dz=> ?_);refine af.last (v:=v1) rfl hf.ops.h75 (by decide) dz (wm hf.ops.h75 rfl rfl (hB _)) (λa af=> ?_);refine wp_seq (wp_region ?_);rw [show AT (#[o 76,o 77,o 78,o 79,o 80]:Array Oper).size=[0,1,2,3,4] from rfl];refine af.step (v:= .slice (some ⟨g,0,none⟩) (n+m) c) rfl hf.ops.h76 (by decide) (aj hf.ops.h76 _) (λa af=> ?_);refine af.step (v:= .int .i64 ((i:Nat):Int)) rfl hf.ops.h77 (by decide) (aj hf.ops.h77 _) (λa af=> ?_);refine af.step (v:= .slice (some ⟨g,i *size,none⟩) (n+m-i) (c-i)) rfl hf.ops.h78 (by decide) (jo hf.ops.h78 hf.pI jW n8 rfl rfl (by omega) (by omega) _) (λa af=> ?_);refine af.step (v:= .slice (some ⟨g2,0,none⟩) m c2) rfl hf.ops.h79 (by decide) (aj hf.ops.h79 _) (λa af=> ?_);refine af.step (v:=v2) rfl hf.ops.h80 (by decide) (wm hf.ops.h80 rfl rfl (hC _)) (λa af=> ?_);refine wp_seq (wp_region ?_);rw [show AT (#[o 81,o 82]:Array Oper).size=[0,1] from rfl];refine af.step (v:= .slice (some ⟨g,0,none⟩) (n+m) c) rfl hf.ops.h81 (by decide) (aj hf.ops.h81 _) (λa af=> ?_);refine af.step (v:= .slice (some ⟨g,0,none⟩) (n+m) c) rfl hf.ops.h82 (by decide) (aZ hf.ops.h82 _) (λa af=> ?_);refine wp_ret ?_;show bodyPost P fn (λx wq=>x= .returned (.slice (some ⟨g,0,none⟩) (n+m) c)/\wq=w2) .ret a w2;refine GM hf.res af (v:= .slice (some ⟨g,0,none⟩) (n+m) c) rfl ?_;exact ⟨rfl,rfl⟩
 exact key _ (tm3 _ _ _ 92)
end
end Dn
/-
  What slices.Insert does to a slice of its own. Conditions: none.
-/
namespace Dn
open Go
section
variable {key:Nat->Nat} {φ:Ph}{size:Nat}
theorem aB.take {xs:List MV}: ∀{cs:List Value} (i:Nat),aB key φ size cs xs->aB key φ size (cs.take (i *size)) (xs.take i):=by
 induction xs with
 |nil=>intro cs i h;cases h;simp [aB]
 |cons x xs ih=>
  intro cs i h;obtain ⟨v,q,rfl,h1,h2,h3⟩:=h;cases i with
  |zero=>simp [aB]
  |succ i=>
   refine ⟨v,q.take (i *size),?_,h1,h2,ih i h3⟩;rw [ac6,Nat.one_mul,aef,aem,h1];congr 1
   ·exact aaD (by omega)
   ·congr 1;omega
theorem aB.drop {xs:List MV}: ∀{cs:List Value} (i:Nat),aB key φ size cs xs->aB key φ size (cs.drop (i *size)) (xs.drop i):=by
 induction xs with
 |nil=>intro cs i h;cases h;simp [aB]
 |cons x xs ih=>
  intro cs i h;cases i with
  |zero=>simpa using h
  |succ i=>obtain ⟨v,q,rfl,h1,h2,h3⟩:=h;have:=ih i h3;rw [ac6,Nat.one_mul,aef,List.drop_append,h1,List.drop_of_length_le (by omega),aaW,Nat.add_sub_cancel_left];simpa using this
end
section
variable {P:Program}{c:Ctx}{f:Nat} {W W':World} {φ:Ph}{Z:Nat->Prop} {v0 v':Value}
theorem Aa {ty:Nat}{E:TI}{n:Nat}{cells:List Value}{rs:List MV}(hz: ∀b,W.heap.size<=b->Z b)(du:iA φ W)(hE:c.ti ty=some E)(iT:E.bB=[])(xU:c.ga (c.key f)=ty)(hold: ∀b,b<W.heap.size->some b≠v0.ownBlock->W'.heap[b]? =W.heap[b]?)(jT:W.heap.size<=W'.heap.size)(jY:Rest W W')(L6: ∀b,v0.ownBlock=some b->Z b/\ ∀off,φ b off=none)(cb:W'.ownsRow 0 ty E.size v' n cells)(hn:rs.length=n)(dL:aB c.key φ E.size cells rs)(KB: ∀b,v'.ownBlock=some b->v0.ownBlock=some b\/W.heap.size<=b): ∃φ',Trans Z φ W φ' W'/\iA φ' W'/\dy c Z φ' W' (c.key f) v' (.fresh rs):=by
 refine ⟨φ,⟨.refl _,?_,λ_ _ _=>rfl,jT,jY⟩,?_,?_⟩
 ·intro b hb cz;exact hold b cz (λhe=>hb (L6 b he.symm).1)
 ·intro b off u hbo;have h1:=du b off u hbo;have cz:=aav W _ h1;rw [abF (hold b cz (λhe=>by rw [(L6 b he.symm).2 off] at hbo;cases hbo))];exact h1
 ·show bw c (aO.plain Z) (gf c.key φ) W' v' ⟨c.ga (c.key f),false,rs⟩;rw [xU];refine ⟨E,cells,hE,iT,by rw [hn];exact cb,dL,λaA hb=> ?_⟩;rcases KB aA hb with h|h
  ·exact ⟨(L6 aA h).1,λoff u hu=>(by have hu:φ aA off=some u:=hu;rw [(L6 aA h).2 off] at hu;cases hu),λhc=>hc.elim⟩
  ·refine ⟨hz aA h,λoff u hu=> ?_,λhc=>hc.elim⟩;have:=aav W _ (du _ _ _ hu);exact absurd this (by show¬aA<W.heap.size;omega)
theorem UY {A bU:List Value}{cells news:List Value}{p q r:Nat}(hA:A.length=bU.length)(hp:p+news.length=q)(hc:cells.length=r)(Pd:p<=r)(q0:r+news.length<=bU.length)(h1:A.take p=cells.take p)(h2:(A.drop q).take (r-p)=cells.drop p):(A.take p++news++A.drop q).take (r+news.length)=cells.take p++news++cells.drop p:=by
 have hl:(A.take p).length=p:=by rw [aai];omega
 rw [aem,aaa,hl,hp,aaD (by rw [aaa,hl];omega),h1];congr 1;rw [show r+news.length-q=r-p by omega];exact h2
theorem xV {t ti tb el fo:Nat}{fn:Func}{r:Nat->Nat}{o:Nat->Oper}{tail:Code}{I E:TI}{xs ys:List MV}{i:Nat}(hf:Bw P f t ti tb el fo fn r o tail)(hT:dt P c.ti)(hI:c.tv t=some I)(hL:I.pH=true)(hE:c.tv I.elem=some E)(np:1<=E.bytes)(Th:el=I.elem)(fH:P.underlying ti=some (.int .i64))(xU:c.ga (c.key f)=I.elem)(hg:c.bQ (c.key f)=true)(hov: ∀args w,(callFunc fo args).run P w=((aen #[t,t] #[tb] args).run P w).andThen λv w'=> .ok (.value v) w')(hi:i<=xs.length)(hys:ys≠[])(fa:(xs.length+ys.length) *E.bytes<=2^46):cq P c f [.fresh xs,.i .i64 i,.fresh ys] (.fresh (xs.take i++ys++xs.drop i)):=by
 subst Th;obtain ⟨hIt,JV⟩:=aD hI;obtain ⟨fR,iT⟩:=aD hE;obtain ⟨hu,E2,ot,_,cU⟩:=TI.fJ (hT t I hIt) hL;rw [fR] at ot;cases ot;obtain ⟨ie,z,jW,n8,Pc,Od,Ds⟩:=eF (hT _ E fR) iT;intro φ W Z vs hz bZ du;simp only [bO,hg,if_true] at bZ;obtain ⟨v0,v1,v2,xs',m1,ys',rfl,zH,F0,A1,F2,cg⟩:=bZ.resolve_right (by
  rintro (⟨_,_,_,_,_,m2,_,h1,h2,_⟩|⟨pos,_,_,_,_,_,_,_,h1,_⟩)
  ·simp only [aaU,and_true] at h1;rw [<-h1.2.2] at h2;simp [MV.one] at h2
  ·rcases pos with _|_|_|pos<;>simp at h1)
 simp only [aaU,MV.fresh.injEq,and_true] at zH;obtain ⟨rfl,rfl,rfl⟩:=zH;have Nh:v1= .int .i64 (i:Int):=by obtain ⟨_,h⟩:=A1;generalize oK:[v1]=l at h;cases h;simpa using oK
 subst Nh;rw [xU] at F0 F2;obtain ⟨I0,cells,NC,_,oV,nB,Fb⟩:=F0;have NC:c.ti I.elem=some I0:=NC;rw [fR] at NC;cases NC;obtain ⟨I2,news,Hw,_,ED,rM,ah7⟩:=F2;have Hw:c.ti I.elem=some I2:=Hw;rw [fR] at Hw;cases Hw;have oV:W.ownsRow 0 I.elem E.size v0 xs.length cells:=oV;have ED:W.ownsRow 0 I.elem E.size v2 ys.length news:=ED;have nB:aB c.key φ E.size cells xs:=nB;have rM:aB c.key φ E.size news ys:=rM;have L6: ∀b,v0.ownBlock=some b->Z b/\ ∀off,φ b off=none:=by
  intro b hb;refine ⟨(Fb b hb).1,λoff=> ?_⟩;cases h:φ b off with
  |none=>rfl
  |some u=>have:=((Fb b hb).2.1 off u h).1;cases this
 have hm:0<ys.length:=List.length_pos_iff.2 hys;have xM:news.length=ys.length *E.size:=rM.length;have iG:cells.length=xs.length *E.size:=nB.length;have hlen:xs.length+ys.length<=2^46:=acd (Nat.le_mul_of_pos_right _ np) fa;obtain ⟨g2,c2,oM,rfl,LX,aj5,X6,Ez,acb⟩: ∃g2 c2 oM,v2= .slice (some ⟨g2,0,none⟩) ys.length c2/\W.heap[g2]? =some (.cells oM I.elem (0,0))/\ys.length<=c2/\c2<=maxLen/\oM.size=c2 *E.size/\oM.toList.take (ys.length *E.size)=news:=by
  rcases ED.2 with ⟨_,h0⟩|⟨g2,c2,oM,h1,_,h3,h4,h5,h6,h7⟩
  ·omega
  ·exact ⟨g2,c2,oM,h1,h3,h4,h5,h6,h7⟩
 have afT:=aC LX;have Rt: ∀{w:World},(w.heap[g2]? =W.heap[g2]?)-> ∀(j:Nat) (u:Value),news[j]? =some u->w.cell? ((⟨g2,0,none⟩:Addr).add j)=some u:=by intro w hw j u hj;have:=ED.cells (g:=g2) rfl j u hj;rw [abG] at this⊢;rw [abF hw];exact this
 have aX: ∀g,v0.ownBlock=some g-> ∀{w:World},(w.heap[g]? =W.heap[g]?)-> ∀(j:Nat) (u:Value),cells[j]? =some u->w.cell? ((⟨g,0,none⟩:Addr).add j)=some u:=by intro g hg w hw j u hj;have:=oV.cells (g:=g) hg j u hj;rw [abG] at this⊢;rw [abF hw];exact this
 have aV:(callFunc f [v0,.int .i64 (i:Int),.slice (some ⟨g2,0,none⟩) ys.length c2].toArray).run P W= .ok (.enter f #[v0,.int .i64 (i:Int),.slice (some ⟨g2,0,none⟩) ys.length c2]) W:=by
  have zC: ¬fn.name= "runtime.NumGoroutine" :=by simpa using hf.name
  simp [callFunc,hf.pos,zC,hf.body]
 unfold cn;rw [aV];have TA:(xs.take i++ys++xs.drop i).length=xs.length+ys.length:=by simp;omega
 have Bx:aB c.key φ E.size (cells.take (i *E.size)++news++cells.drop (i *E.size)) (xs.take i++ys++xs.drop i):=((nB.take i).append rM).append (nB.drop i);by_cases mb:i=xs.length
 ·
  have rQ:Src (gf c.key φ) W E.size (.slice (some ⟨g2,0,none⟩) ys.length c2) ys news:=⟨rM,_,_,rfl,by simp,λx hx j u hj=>by cases hx;exact Rt rfl j u hj⟩
  have jt:cells.take (i *E.size)++news++cells.drop (i *E.size)=cells++news:=by rw [mb,<-iG,List.take_length,List.drop_length,ac7]
  rw [jt] at Bx;have fin: ∀v' W',aaV W W' I.elem E.size v0 v' xs.length ys.length cells news-> ∃φ',Trans Z φ W φ' W'/\iA φ' W'/\dy c Z φ' W' (c.key f) v' (.fresh (xs.take i++ys++xs.drop i)):=by
   intro v' W' ou;refine Aa (v0:=v0) hz du fR iT xU ou.ln ou.size ou.rest L6 ou.own TA Bx ?_;intro b hb;rcases ou.place with h|h
   ·left;rw [<-h];exact hb
   ·right;rw [h] at hb;cases hb;exact abc _
  obtain ⟨v',W',hr,ou⟩:=vf (P:=P) (c:=c) (ty:=0) hu fR iT cU hT np oV (rQ.apx hu) fa;have hr': ∀ty,(abV #[t,t] ty #[v0,.slice (some ⟨g2,0,none⟩) ys.length c2]).run P W= .ok v' W':=λty=>hr;have afU: ∃ad c0,v0= .slice ad xs.length c0/\xs.length<=c0/\c0<=maxLen:=by
   rcases oV.2 with ⟨h1,h0⟩|⟨g,c0,bU,h1,_,h3,h4,h5,_⟩
   ·exact ⟨none,0,by rw [h1,h0],by omega,by omega⟩
   ·exact ⟨_,c0,h1,h4,h5⟩
  obtain ⟨ad,c0,rfl,HZ,vL⟩:=afU;refine (UX hf jW n8 hm HZ (by unfold maxLen at vL;omega) (by omega) mb hr').mono ?_;rintro x tp ⟨rfl,rfl⟩;exact ⟨_,rfl,fin _ _ ou⟩
 ·have mb:i<xs.length:=by omega
  obtain ⟨g,c0,bU,rfl,hgc,HZ,vL,mU,Ey⟩: ∃g c0 bU,v0= .slice (some ⟨g,0,none⟩) xs.length c0/\W.heap[g]? =some (.cells bU I.elem (0,0))/\xs.length<=c0/\c0<=maxLen/\bU.size=c0 *E.size/\bU.toList.take (xs.length *E.size)=cells:=by
   rcases oV.2 with ⟨_,h0⟩|⟨g,c0,bU,h1,_,h3,h4,h5,h6,h7⟩
   ·omega
   ·exact ⟨g,c0,bU,h1,h3,h4,h5,h6,h7⟩
  have Tn:=aC hgc;have Tw:g≠g2:=λh=>cg g rfl (by rw [h];rfl);have nx:i *E.size<=xs.length *E.size:=aa0 _ hi;have him:(i+ys.length) *E.size=i *E.size+news.length:=by rw [ac6,xM]
  have Z3:(xs.length+ys.length) *E.size=xs.length *E.size+news.length:=by rw [ac6,xM]
  have JY:(cells.drop (i *E.size)).length=(xs.length-i) *E.size:=by rw [aa6,iG,aeC]
  have aj6:(xs.length-i) *E.size=xs.length *E.size-i *E.size:=aeC _ _ _;have WX: ∀{w:World},(w.heap[g]? =W.heap[g]?)-> ∀(j:Nat) (u:Value),(cells.drop (i *E.size))[j]? =some u->w.cell? ((⟨g,i *E.size,none⟩:Addr).add j)=some u:=by intro w hw j u hj;rw [List.getElem?_drop] at hj;have:=aX g rfl hw _ u hj;rw [abG] at this⊢;rwa [ab1] at this
  have Tj: ∀u∈cells.drop (i *E.size),u.oneCell'=true:=λu hu=>nB.rO u (List.mem_of_mem_drop hu);have ace:Rest W {W with drawn:=W.drawn+1}:=⟨rfl,rfl,rfl⟩
  by_cases nm:c0<xs.length+ys.length
  ·have hk:i+(xs.length+ys.length-i)=xs.length+ys.length:=by omega
   obtain ⟨G,hG⟩: ∃G,G=grownCap W (xs.length+ys.length) c0 I.elem:=⟨_,rfl⟩
   have hGn:xs.length+ys.length<=G:=by rw [hG];exact grownCap_ge W _ _ _
   have hGm:G<=maxLen:=by rw [hG];exact grownCap_le_maxLen W _ _ _ (by unfold maxLen;omega)
   obtain ⟨GN,YJ⟩: ∃GN:Array Value,GN=(cells.take (i *E.size)).toArray++adF z.cells (xs.length+ys.length-i)++adF z.cells (G-(xs.length+ys.length)):=⟨_,rfl⟩
   have hRl:GN.size=G *E.size:=by rw [YJ];simp only [ab5,aak,aai,adF,Array.size_map,Array.size_range,Ds];rw [abW (by rw [iG];exact nx),<-ac6,<-ac6];congr 1;omega
   have hRt:GN.toList.take (i *E.size)=cells.take (i *E.size):=by
    rw [YJ];simp only [Array.toList_append,ab8];have hl:(cells.take (i *E.size)).length=i *E.size:=by rw [aai,iG];exact abW nx
    rw [aau (by omega),aaD (by omega)]
   have hA: ∀ty,(abV #[t,ti] ty #[.slice (some ⟨g,0,none⟩) i c0,.int .i64 ((xs.length+ys.length-i:Nat):Int)]).run P W= .ok (.slice (some ⟨W.heap.size,0,none⟩) (xs.length+ys.length) G) (W.drew.alloc (.cells GN I.elem)):=λty=>by
    have hold:(ad7 ie.size i (.slice (some ⟨g,0,none⟩) i c0)).run P W.drew= .ok (cells.take (i *E.size)).toArray W.drew:=by
     refine run_firstCells_some W.drew ie.size i ⟨g,0,none⟩ i c0 _ (by rw [n8,aai,iG];exact abW nx) (λj v hj=> ?_);rw [List.getElem?_take] at hj;split at hj
     ·exact aX g rfl rfl j v hj
     ·cases hj
    have h:=Lib.run_append_grow_zeros W t ti ty I.elem ie z .i64 .i64 hu fH jW Od (some ⟨g,0,none⟩) i c0 (cells.take (i *E.size)) hold (xs.length+ys.length-i) (by omega) (by rw [n8];exact cU) (by omega) (by omega) (by rw [Pc];exact acd (aa0 _ (by omega:xs.length+ys.length-i<=xs.length+ys.length)) (acd fa (by omega))) (by rw [Pc,hk];exact growslice_fits nm (acd fa (by omega)));rw [hk,<-hG,<-YJ] at h;exact h
   have hg9:(W.drew.alloc (.cells GN I.elem)).heap[W.heap.size]? =some (.cells GN I.elem (0,0)):=dm W.drew _;have zG: ∀b,b<W.heap.size->(W.drew.alloc (.cells GN I.elem)).heap[b]? =W.heap[b]? :=λb hb=>iR W.drew _ b hb;have hnG:(xs.length+ys.length) *E.size<=GN.size:=by rw [hRl];exact aa0 _ hGn
   obtain ⟨RA,hRA⟩: ∃RA:List Value,RA=GN.toList.take (i *E.size)++news++GN.toList.drop (i *E.size+news.length):=⟨_,rfl⟩
   have acf:RA.length=GN.size:=by rw [hRA];simp only [aaa,aai,aa6,aaj];omega
   have hB: ∀ty,(aaE #[t,t] ty #[.slice (some ⟨W.heap.size,i *E.size,none⟩) (xs.length+ys.length-i) (G-i),.slice (some ⟨g2,0,none⟩) ys.length c2]).run P (W.drew.alloc (.cells GN I.elem))= .ok (goInt ((ys.length:Nat):Int)) (acj (W.drew.alloc (.cells GN I.elem)) W.heap.size RA.toArray):=λty=>by rw [hRA];exact kF (size:=E.size) hu jW n8 hg9 (by simp only [ad0];split<;>omega) xM (Rt (zG g2 afT)) (by omega) rM.rO
   have YK:=setRow_heap (W.drew.alloc (.cells GN I.elem)) W.heap.size GN RA.toArray I.elem (0,0) hg9;obtain ⟨W2,GO⟩: ∃W2,W2=acj (W.drew.alloc (.cells GN I.elem)) W.heap.size RA.toArray:=⟨_,rfl⟩
   have UZ: ∀b,b<W.heap.size->W2.heap[b]? =W.heap[b]? :=λb hb=>by rw [GO,setRow_other _ _ _ _ (by omega)];exact zG b hb
   have La:Rest W W2:=by rw [GO];exact (show Rest W W.drew from ⟨rfl,rfl,rfl⟩).trans ((Rest.alloc W.drew GN I.elem).trans (Rest.setRow _ _ _))
   have aj9:W2.heap.size=W.heap.size+1:=by rw [GO,setRow_size];exact Array.size_push _
   rw [<-GO] at hB YK;have hC:=λty=>kF (P:=P) (dT:=t) (sT:=t) (ty:=ty) (size:=E.size) (UN:=xs.length+ys.length-(i+ys.length)) (YH:=G-(i+ys.length)) (ka:=xs.length-i) (ra:=c0-i) (k:=xs.length-i) (o:=(i+ys.length) *E.size) (a:=⟨g,i *E.size,none⟩) (w:={W2 with drawn:=W2.drawn+1}) hu jW n8 YK (by simp only [ad0];split<;>omega) JY (WX (UZ g Tn)) (by simp only [aak];rw [acf,him,JY];omega) Tj;refine (Rr hf jW n8 hm HZ (by unfold maxLen at vL;omega) (by omega) mb nm hGn hA hB hC).mono ?_;rintro x tp ⟨rfl,rfl⟩;refine ⟨_,rfl,?_⟩;refine Aa (v0:= .slice (some ⟨g,0,none⟩) xs.length c0) (n:=xs.length+ys.length) (cells:=cells.take (i *E.size)++news++cells.drop (i *E.size)) hz du fR iT xU ?_ ?_ ?_ L6 ?_ TA Bx (λb hb=> .inr (by cases hb;exact abc _))
   ·intro b hb cg;rw [setRow_other _ _ _ _ (by omega)];exact UZ b hb
   ·rw [setRow_size];show W.heap.size<=W2.heap.size;omega
   ·exact La.trans ((show Rest W2 {W2 with drawn:=W2.drawn+1} from ⟨rfl,rfl,rfl⟩).trans (Rest.setRow _ _ _))
   ·refine ⟨by rw [Bx.length,TA],.inr ⟨W.heap.size,G,_,rfl,acF _,setRow_heap {W2 with drawn:=W2.drawn+1} W.heap.size RA.toArray _ I.elem (0,0) YK,hGn,hGm,?_,?_⟩⟩
    ·simp only [aak,aaa,aai,aa6];rw [acf,<-hRl];omega
    ·have afY:RA.take ((i+ys.length) *E.size)=cells.take (i *E.size)++news:=by
      have hl:(GN.toList.take (i *E.size)++news).length=(i+ys.length) *E.size:=by rw [aaa,aai,aaj,him];omega
      rw [hRA,aau (by omega),aaD (by omega),hRt]
     rw [afY];have om:(cells.take (i *E.size)++news++cells.drop (i *E.size)).length=(xs.length+ys.length) *E.size:=by rw [Bx.length,TA]
     rw [<-om];exact List.take_left
  ·have nm:xs.length+ys.length<=c0:=by omega
   have hcz:bU.toList.length=bU.size:=aaj;have q0:(xs.length+ys.length) *E.size<=bU.size:=by rw [mU];exact aa0 _ nm
   have hO:(callFunc fo #[.slice (some ⟨g2,0,none⟩) ys.length c2,.slice (some ⟨g,(i+ys.length) *E.size,none⟩) (xs.length+ys.length-(i+ys.length)) (c0-(i+ys.length))]).run P W= .ok (.value (.bool false)) W:=by rw [hov,Lib.run_overlaps_apart W t tb I.elem hu E.size (λw=>by simp [ad1,typeInfo,jW,n8]) ⟨g2,0,none⟩ ⟨g,(i+ys.length) *E.size,none⟩ _ _ _ _ (aew Tw) I.elem I.elem oM.size bU.size (by simp [World.shape?,LX]) (by simp [World.shape?,hgc]) (by rw [mU];exact Nat.ne_of_gt (Nat.mul_pos (by omega) cU)) (by simp [World.frozen?,LX]) (by simp [World.frozen?,LX])];rfl
   let R1:List Value:=bU.toList.take ((i+ys.length) *E.size)++cells.drop (i *E.size)++bU.toList.drop ((i+ys.length) *E.size+(cells.drop (i *E.size)).length);have hR1:R1.length=bU.size:=by simp only [R1,aaa,aai,aa6,aaj];rw [JY] at *;omega
   have hB: ∀ty,(aaE #[t,t] ty #[.slice (some ⟨g,(i+ys.length) *E.size,none⟩) (xs.length+ys.length-(i+ys.length)) (c0-(i+ys.length)),.slice (some ⟨g,i *E.size,none⟩) (xs.length+ys.length-i) (c0-i)]).run P {W with drawn:=W.drawn+1}= .ok (goInt ((xs.length-i:Nat):Int)) (acj {W with drawn:=W.drawn+1} g R1.toArray):=λty=>kF (size:=E.size) hu jW n8 (w:={W with drawn:=W.drawn+1}) hgc (by simp only [ad0];split<;>omega) JY (WX rfl) (by rw [him,JY];omega) Tj;have af0:(acj {W with drawn:=W.drawn+1} g R1.toArray).heap[g]? =some (.cells R1.toArray I.elem (0,0)):=setRow_heap {W with drawn:=W.drawn+1} g bU R1.toArray I.elem (0,0) hgc;have UZ: ∀b,b≠g->(acj {W with drawn:=W.drawn+1} g R1.toArray).heap[b]? =W.heap[b]? :=λb hb=>setRow_other {W with drawn:=W.drawn+1} g b R1.toArray hb;have hC:=λty=>kF (P:=P) (dT:=t) (sT:=t) (ty:=ty) (size:=E.size) (UN:=xs.length+ys.length-i) (YH:=c0-i) (ka:=ys.length) (ra:=c2) (k:=ys.length) (o:=i *E.size) (a:=⟨g2,0,none⟩) hu jW n8 af0 (by simp only [ad0];split<;>omega) xM (Rt (UZ g2 (aew Tw))) (by simp only [aak];rw [hR1];omega) rM.rO;refine (Rs hf jW n8 hm HZ (by unfold maxLen at vL;omega) (by omega) mb nm hO hB hC).mono ?_;rintro x tp ⟨rfl,rfl⟩;refine ⟨_,rfl,?_⟩;rw [setRow_setRow];have jY:Rest W (acj {W with drawn:=W.drawn+1} g (R1.toArray.toList.take (i *E.size)++news++R1.toArray.toList.drop (i *E.size+news.length)).toArray):=ace.trans (Rest.setRow _ _ _);refine Aa (v0:= .slice (some ⟨g,0,none⟩) xs.length c0) (n:=xs.length+ys.length) (cells:=cells.take (i *E.size)++news++cells.drop (i *E.size)) hz du fR iT xU ?_ (by simp) jY L6 ?_ TA Bx (λb hb=> .inl hb)
   ·intro b hb cg;refine setRow_other {W with drawn:=W.drawn+1} g b _ (λh=>cg ?_);rw [h];rfl
   ·refine ⟨by rw [Bx.length,TA],.inr ⟨g,c0,_,rfl,acF _,setRow_heap {W with drawn:=W.drawn+1} g bU _ I.elem (0,0) hgc,nm,vL,?_,?_⟩⟩
    ·simp only [aak,aaa,aai,aa6];rw [hR1,<-mU];omega
    ·rw [Z3];refine UY (bU:=bU.toList) (r:=xs.length *E.size) (by simpa using hR1) rfl iG nx (by simp only [aaj];omega) ?_ ?_
     ·show R1.take (i *E.size)=_;rw [<-Ey,aer,abW nx];simp only [R1];rw [ab8,aau (by rw [aai,hcz];omega),aer,abW (by omega)]
     ·show (R1.drop (i *E.size+news.length)).take _=_;simp only [R1];have hl:(bU.toList.take ((i+ys.length) *E.size)).length=i *E.size+news.length:=by rw [aai,hcz];omega
      rw [ab8,<-hl,List.drop_left,aau (by omega),aaD (by omega)]
end
end Dn
