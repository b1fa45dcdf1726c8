import Derived.Test.YtcnjocpgklmjjaaGreatDoorDnB
import Derived.Laws.CopyRow
import Derived.Lib.AppendZerosOnto
import Derived.Lib.Overlaps
import Derived.Laws.Externs
import Derived.Control
import Derived.LaidLaws
import Derived.Deep.DeepLaidRun
import Derived.Handed
import Derived.JoinedOf
import Derived.KernelRfl
import Derived.Maps.RangeRun
import Derived.ScopeJumps
import Derived.Lib.SlTrimSet
import Derived.Lib.Bytealg
import Derived.Shelf.Strings.Split
import Derived.Shelf.Strings.SlTrimAscii
import Derived.Shelf.Strings.Runes
import Derived.Lib.IndexBytes
/- What Go functions come to, on plain values. Conditions: none. -/
open Bool renaming and_eq_true→bD,false_eq_true→AI,not_eq_true'→afI,eq_false_iff→akH,true_and→akK,and_true→alL,eq_iff_iff→amk,not_false→amz,not_true→an1,false_or→an2
open Array renaming replicate→sh,getElem?_append→OF,length_toList→ab2,getElem?_replicate→afT,getD_eq_getD_getElem?→agx,getElem?_toList→akr
open List renaming length_take→AS,length_append→ad1,length_drop→afu,take_of_length_le→afv,take_append_of_le_length→afz,drop_of_length_le→afB,getElem?_drop→afE,all_eq_true→af2,getElem?_take→agu,append_assoc→agG,mem_iff_getElem→agM,range→agN,getElem?_eq_some_iff→ahB,getElem?_eq_getElem→ahE,getElem?_take_of_lt→ahF,size_toArray→ajW,flatMap_cons→akp,any_eq_true→aku,eq_nil_of_length_eq_zero→akv,nil_append→akx,drop_drop→akD,getElem_mem→akL,cons_append→akM,take_append_drop→akT,getElem?_toArray→akW,take_take→alj,ext_getElem?→alR,take_append→alX,take_length→al0,append_nil→amd,length_map→amj,take_left→amy,mem_cons→an3,map_cons→an4,map_map→an7
open Nat renaming eq_of_beq_eq_true→AT,le_of_ble_eq_true→By,beq→ac4,ble→aeY,mul_le_mul_right→aft,le_refl→afx,zero_le→afN,add_mul→agK,zero_add→agO,le_trans→agV,succ_mul→ag7,min_eq_left→ahQ,add_comm→akB,sub_mul→akF
open Go.World renaming block_lt_of_cell?→BY,cell?_of_block→afK,setRow→afL
open Go.Value renaming bool→IN,pointer→ad5,int→afw,ownBlock→afF,string→akC,slice→akG,cells→al3
open Option.some renaming injEq→IT,inj→aok
open Go.IntKind renaming wrap→No,bits→ako,wrap_i64→aks
open Go.Builtin renaming zeroCells→aec,copy_→afC,append_→afH,clear_→akn,firstCells→alP
open Go.Region renaming wanted→afy,ready→afA,noSelect→akw
open Go.Deferred renaming ofValue→afD
open Go.Lib renaming countB→afG,index→ags,setCells→akq,splitB→akE,size_eq→akI,indexByte→an5,trimS→an6
open Go.Addr renaming add_mid→afJ
open Go.Instr renaming loadAt→ahs,sliceBounds→ait,sliceBound→akt,sliceAt→akJ,slice→ak2,sureAddr→alm,checkKey→alu,sameNow→alD,indexAt→anV
open Go renaming sizeOf→aie
open List.cons renaming injEq→aky
open ByteArray renaming empty→akz
open Go.Proofs renaming enters_of→akA
open Go.Oper renaming upon_value→akO,wp→amt
open Go.Proofs.Any renaming strings_ContainsRune_ascii→ak0
open Go.Code renaming region→ak3,wp_mono→alQ
open Int renaming toNat→alv,fdiv→amP
open Go.ByteArray renaming toList_eq→alB
open Go.Proofs.Lays renaming n146→alC,n160→aof,n151→aog
open Go.Extern.SlicesOverlaps renaming overlaps→alY
open Char renaming ofNat→amA
open Prod.mk renaming injEq→an0
open Go.Sem renaming run_bind→aob
open Go.Value.pointer renaming injEq→aoh
set_option linter.all false
namespace Dn
open Go
noncomputable section
structure eE (P:Program) (c:Ctx) (g:Nat->List MV->Option MV):Prop where
 all: ∀f ms r,g (c.key f) ms=some r->dG P c f ms r
abbrev aG (n:Nat)(F:List MV->Option MV)(g:Nat->List MV->Option MV):Nat->List MV->Option MV:=λk ms=>match ac4 k n with|true=>F ms|false=>g k ms
theorem eE.add {P:Program}{c:Ctx}{g:Nat->List MV->Option MV}{n:Nat}{F:List MV->Option MV}(h:eE P c g)(hF: ∀f ms r,c.key f=n->F ms=some r->dG P c f ms r):eE P c (aG n F g):=by
 refine ⟨λf ms r hr=> ?_⟩;unfold aG at hr;cases hk:ac4 (c.key f) n with
 |true=>simp_all
 |false=>simp only [hk] at hr;exact h.all f ms r hr
structure Hl (c c':Ctx):Prop where
 ti:c'.ti=c.ti
 key:c'.key=c.key
 cS:c'.cS=c.cS
 fresh:c'.fresh=c.fresh
 mV:c'.mV=c.mV
 fk:c'.fk=c.fk
 mt:c'.mt=c.mt
 sig:c'.sig=c.sig
 SU:c'.SU=c.SU
def ch.kq {c c':Ctx}(h:c'.ti=c.ti){Z:bC}{e:Env}{w:World}{v:Value}{o:pC}(hs:ch c Z e w v o):ch c' Z e w v o:=by have ⟨I,cells,h1,h2⟩:=hs.row;exact ⟨I,cells,by grind,h2⟩
def iG.kq {c c':Ctx}(h:Hl c c'){Z:Nat->Prop} {φ:Ph}{w:World}{k:Nat}{v:Value}{r:MV}(hs:iG c Z φ w k v r):iG c' Z φ w k v r:=by
 cases r<;>simp only [iG,h.key,h.mV] at hs⊢ <;>first|exact hs|exact hs.kq h.ti|skip
 rename_i ms;cases ms with
 |nil=>grind [QF,h.key]
 |cons m r=>
  cases m<;>simp only [QF,h.key,h.mV] at hs⊢ <;>first|exact hs|skip
  have ⟨v0,us,h1,h2,h3⟩:=hs;exact ⟨v0,us,h1,h2.kq h.ti,h3⟩
def eY.kq {c c':Ctx}(h:Hl c c'){Z:Nat->Prop} {φ:Ph}{w:World}{bg:Nat}{ks:List LK}{ls:List MV}(hs:eY c Z φ w bg ks ls):eY c' Z φ w bg ks ls:=by have ⟨cs,m,E,arr,T,h1,h2,h3,h4,h5,h6,h7⟩:=hs;refine ⟨cs,m,E,arr,T,h1,h2,h3,h4,by grind [h.key],λf o ho=>⟨?_,(h6 f o ho).2⟩,h7⟩;rw [h.key];exact (h6 f o ho).1.kq h.ti
def vT.kq {c c':Ctx}(h:Hl c c'){Z:Nat->Prop} {φ:Ph}{w:World}{k:Nat}{vs:List Value}{v:Value}{r:MV}(hs:vT c Z φ w k vs v r):vT c' Z φ w k vs v r:=by
 cases r<;>simp only [vT] at hs⊢ <;>first|exact hs.kq h|skip
 have ⟨h1,pos,ks,ko,bg,off,h2,h3,h4⟩:=hs;exact ⟨h1.kq h,pos,ks,ko,bg,off,by grind [h.sig],h3,h4.kq h⟩
def cR.kq {c c':Ctx}(h:Hl c c'){Z:Nat->Prop} {φ:Ph}{w:World}{k:Nat}{vs:List Value}{ms:List MV}(hs:cR c' Z φ w k vs ms):cR c Z φ w k vs ms:=by
 unfold cR at hs⊢;rw [h.cS] at hs;split
 .rename_i hg;rw [if_pos hg] at hs;rcases hs with ⟨v0,v1,v2,xs,m1,ys,h1,h2,h3,h4,h5,h6⟩|⟨v0,v1,v2,xs,m1,m2,h1,h2,h3,h4,h5,h6⟩|⟨pos,ks,ko,off,ls,bg,h1,h2,h3,h4,h5⟩
  .rw [h.key,h.mV] at h3 h5;rw [h.key] at h4;exact .inl ⟨v0,v1,v2,xs,m1,ys,h1,h2,h3.kq h.ti.symm,h4,h5.kq h.ti.symm,h6⟩
  .rw [h.key,h.mV] at h4;rw [h.key] at h5 h6;exact .inr (.inl ⟨v0,v1,v2,xs,m1,m2,h1,h2,h3,h4.kq h.ti.symm,h5,h6⟩)
  .refine .inr (.inr ⟨pos,ks,ko,off,ls,bg,by grind [h.sig],h2,h3,by grind [h.key],?_⟩);have ⟨cs,m,E,arr,T,k1,k2,k3,k4,k5,k6,k7⟩:=h5;refine ⟨cs,m,E,arr,T,k1,k2,k3,k4,by grind [h.key],λf o ho=>⟨?_,(k6 f o ho).2⟩,k7⟩;rw [<-h.key];exact (k6 f o ho).1.kq h.ti.symm
 simp_all [if_neg,h.key]
theorem dF.mono {P:Program}{f:FuncId}{args:Array Value}{w:World} {R R':Value->World->Prop}(hc:dF P f args w R)(h: ∀v w',R v w'->R' v w'):dF P f args w R':=by grind [dF,Calls.mono,absurd]
def dG.kq {P:Program} {c c':Ctx}{f:Nat}{ms:List MV}{r:MV}(h:Hl c c')(hs:dG P c f ms r):dG P c' f ms r:=by intro φ w Z vs hz ha hi;rw [h.key] at ha;refine (hs φ w Z vs hz (ha.kq h) hi).mono ?_;rintro v w' ⟨φ',h1,h2,h3⟩;rw [h.key];exact ⟨φ',h1,h2,h3.kq h⟩
theorem Hl.symm {c c':Ctx}(h:Hl c c'):Hl c' c:=⟨h.ti.symm,h.key.symm,h.cS.symm,h.fresh.symm,h.mV.symm,h.fk.symm,h.mt.symm,h.sig.symm,h.SU.symm⟩
def Ay.kq {P:Program} {c c':Ctx}(h:Hl c c'){g:Nat}{lb:Array Value}{S:Type}{Inv:S->(Nat->Prop)->Ph->World->Prop}{step:S->MV->Option (Bool×S)}(hp:Ay P c' g lb Inv step):Ay P c g lb Inv step:=⟨λh1 h2 h3 h4 h5=>hp.call h1 h2 h3 (by grind [h.key]) h5,hp.frame,hp.mono⟩
def vZ.kq {P:Program} {c c':Ctx}(h:Hl c c')(hd:vZ P c):vZ P c':=by intro f hf;rw [h.SU] at hf;have hx:=hd f hf;refine ⟨?_⟩;intro S Inv step g lb hp v0 xs ys w Z0 φ0 s0 s' h1 h2 h3 h4 h5 h6 h7;rw [h.key,h.mV] at h2;refine (hx.run (hp.kq h) h1 (h2.kq h.ti.symm) h3 h4 h5 h6 h7).mono ?_;rintro v W ⟨Z,φ,hW,hF,hb⟩;refine ⟨Z,φ,⟨hW.inv,hW.new,hW.sub,hW.mj,hW.tr,hW.free⟩,?_,hb⟩;rw [h.key,h.mV];exact hF.kq h.ti
def rU (c:Ctx)(n:Nat)(fn:Func)(aV:List (List Kd)):Bool:=
 !(fn.name== "runtime.NumGoroutine")&&ac4 c.n fn.ntmps&&aeY (fn.params.size+aV.length) fn.ntmps&&!c.cS n
def yG (c:Ctx)(n:Nat)(fn:Func):Option Nat->Bool
 |none=>true
 |some ty=>ac4 ty (c.mV n)&&(aeY 1 fn.results.toList.length&&(match c.tv ty with|some _=>true|none=>false))
def R5 {c:Ctx}{n:Nat}{fn:Func}{fresh:Option Nat}(h:yG c n fn fresh=true): ∀ty,fresh=some ty->ty=c.mV n/\1<=fn.results.toList.length/\ ∃I,c.tv ty=some I:=by rintro ty rfl;simp only [yG,bD] at h;have ⟨h1,h2,h3⟩:=h;refine ⟨AT h1,By h2,?_⟩;grind
def eE.body {P:Program} {c c':Ctx}{g:Nat->List MV->Option MV}{n:Nat}{fn:Func}{aV:List (List Kd)}(h:eE P c g)(hl:Hl c c')(hgg:c'.g=g)(ng:iz P c.ti)(Aa:Wh P c.ti)(hfk: ∀t k,c.fk t=some k->P.underlying t=some (.float k))(hmt:Cx P c)(TF:P.follows .mixedOrders=true)(QI:vZ P c)(hf:P.funcs[n]? =some fn)(hh:rU c' n fn aV=true)(G9: ∀f,c.key f=f){fresh:Option Nat}(B1:yG c' n fn fresh=true):eE P c (aG n (rN c' aV fresh fn) g):=by
 have hG:Good P c':=by
  refine ⟨by grind [hl.ti],by grind [hl.ti],λf ms r hr=> ?_,by grind [hl.fk],λt s hs=>hmt t s ?_⟩
  .rw [hgg,hl.key] at hr;exact (h.all f ms r hr).kq hl
  .grind [Y6,Ctx.tv,hl.mt,hl.ti]
 refine h.add (λf ms r hk hr=> ?_);rw [G9] at hk;subst hk;simp only [rU,bD,afI] at hh;have ⟨⟨⟨h1,h2⟩,h3⟩,h4⟩:=hh;exact (alx hG (NU hG TF (QI.kq hl)) hf h1 (by simp_all) (by simp_all) (by simp_all [hl.key]) (by rw [hl.key,G9];exact R5 B1) hr).kq hl.symm
def NV (c:Ctx)(n:Nat)(fn:Func)(aV:List (List Kd)):Bool:=
 !(fn.name== "runtime.NumGoroutine")&&ac4 c.n fn.ntmps&&aeY fn.ntmps 1000000&&aeY (fn.params.size+aV.length) fn.ntmps&&c.cS n
def eE.fnC {P:Program}{c:Ctx}{g:Nat->List MV->Option MV}{n pos:Nat}{ks ko:List LK}{fn:Func}{aV:List (List Kd)}{F:List MV->Option MV}(h:eE P c g)(ng:iz P c.ti)(Aa:Wh P c.ti)(hfk: ∀t k,c.fk t=some k->P.underlying t=some (.float k))(hmt:Cx P c)(TF:P.follows .mixedOrders=true)(QI:vZ P c)(hf:P.funcs[n]? =some fn)(At:c.sig n=some (pos,ks,ko))(G9: ∀f,c.key f=f)(hF: ∀{ms r},F ms=some r-> ∃c':Ctx,Hl c c'/\c'.g=g/\NV c' n fn aV=true/\KB c' aV pos ks ko fn ms=some r):eE P c (aG n F g):=by
 refine h.add (λf ms r hk hr=> ?_);rw [G9] at hk;subst hk;have ⟨c',hl,hgg,hh,hr⟩:=hF hr;have hG:Good P c':=by
  refine ⟨by grind [hl.ti],by grind [hl.ti],λf ms r hr=> ?_,by grind [hl.fk],λt s hs=>hmt t s ?_⟩
  .rw [hgg,hl.key] at hr;exact (h.all f ms r hr).kq hl
  .grind [Y6,Ctx.tv,hl.mt,hl.ti]
 simp only [NV,bD,afI] at hh;have ⟨⟨⟨⟨h1,h2⟩,VM⟩,h3⟩,h4⟩:=hh;exact (ahg hG (NU hG TF (QI.kq hl)) hf h1 (by simp_all) (by simp_all) (by simp_all) (by simp_all [hl.key]) (by simp_all [hl.sig,hl.key]) hr).kq hl.symm
abbrev alM (n:Nat)(g:Nat->List MV->Option MV):Nat->List MV->Option MV:=λk ms=>match ac4 k n with|true=>none|false=>g k ms
structure KZ (k0:Nat) (c c':Ctx):Prop where
 ti:c'.ti=c.ti
 key:c'.key=c.key
 cS:c'.cS=c.cS
 fresh:c'.fresh=c.fresh
 mV:c'.mV=c.mV
 sig: ∀k,k≠k0->c'.sig k=c.sig k
def iG.Fs {k0:Nat} {c c':Ctx}(h:KZ k0 c c'){Z:Nat->Prop} {φ:Ph}{w:World}{k:Nat}{v:Value}{r:MV}(hs:iG c Z φ w k v r):iG c' Z φ w k v r:=by
 cases r<;>simp only [iG,h.key,h.mV] at hs⊢ <;>first|exact hs|exact hs.kq h.ti|skip
 rename_i ms;cases ms with
 |nil=>grind [QF,h.key]
 |cons m r=>
  cases m<;>simp only [QF,h.key,h.mV] at hs⊢ <;>first|exact hs|skip
  obtain ⟨v0,us,h1,h2,h3⟩:=hs;exact ⟨v0,us,h1,h2.kq h.ti,h3⟩
def eY.Fs {k0:Nat} {c c':Ctx}(h:KZ k0 c c'){Z:Nat->Prop} {φ:Ph}{w:World}{bg:Nat}{ks:List LK}{ls:List MV}(hs:eY c Z φ w bg ks ls):eY c' Z φ w bg ks ls:=by obtain ⟨cs,m,E,arr,T,h1,h2,h3,h4,h5,h6,h7⟩:=hs;refine ⟨cs,m,E,arr,T,h1,h2,h3,h4,by grind [h.key],λf o ho=>⟨?_,(h6 f o ho).2⟩,h7⟩;rw [h.key];exact (h6 f o ho).1.kq h.ti
def vT.Fs {k0:Nat} {c c':Ctx}(h:KZ k0 c c'){Z:Nat->Prop} {φ:Ph}{w:World}{k:Nat}(hk:k≠k0){vs:List Value}{v:Value}{r:MV}(hs:vT c Z φ w k vs v r):vT c' Z φ w k vs v r:=by
 cases r<;>simp only [vT] at hs⊢ <;>first|exact hs.Fs h|skip
 obtain ⟨h1,pos,ks,ko,bg,off,h2,h3,h4⟩:=hs;exact ⟨h1.Fs h,pos,ks,ko,bg,off,by rw [h.sig k hk];exact h2,h3,h4.Fs h⟩
def cR.Fs {k0:Nat} {c c':Ctx}(h:KZ k0 c c'){Z:Nat->Prop} {φ:Ph}{w:World}{k:Nat}(hk:k≠k0){vs:List Value}{ms:List MV}(hs:cR c' Z φ w k vs ms):cR c Z φ w k vs ms:=by
 unfold cR at hs⊢;rw [h.cS] at hs;split
 .rename_i hg;rw [if_pos hg] at hs;rcases hs with ⟨v0,v1,v2,xs,m1,ys,h1,h2,h3,h4,h5,h6⟩|⟨v0,v1,v2,xs,m1,m2,h1,h2,h3,h4,h5,h6⟩|⟨pos,ks,ko,off,ls,bg,h1,h2,h3,h4,h5⟩
  .rw [h.key,h.mV] at h3 h5;rw [h.key] at h4;exact .inl ⟨v0,v1,v2,xs,m1,ys,h1,h2,h3.kq h.ti.symm,h4,h5.kq h.ti.symm,h6⟩
  .rw [h.key,h.mV] at h4;rw [h.key] at h5 h6;exact .inr (.inl ⟨v0,v1,v2,xs,m1,m2,h1,h2,h3,h4.kq h.ti.symm,h5,h6⟩)
  .refine .inr (.inr ⟨pos,ks,ko,off,ls,bg,by rw [<-h.sig k hk];exact h1,h2,h3,by grind [h.key],?_⟩);obtain ⟨cs,m,E,arr,T,k1,k2,k3,k4,k5,k6,k7⟩:=h5;refine ⟨cs,m,E,arr,T,k1,k2,k3,k4,by grind [h.key],λf o ho=>⟨?_,(k6 f o ho).2⟩,k7⟩;rw [<-h.key];exact (k6 f o ho).1.kq h.ti.symm
 simp_all [if_neg,h.key]
def dG.Fs {P:Program}{k0:Nat} {c c':Ctx}{f:Nat}{ms:List MV}{r:MV}(h:KZ k0 c c')(hk:c.key f≠k0)(hs:dG P c f ms r):dG P c' f ms r:=by intro φ w Z vs hz ha hi;rw [h.key] at ha;refine (hs φ w Z vs hz (ha.Fs h hk) hi).mono ?_;rintro v w' ⟨φ',h1,h2,h3⟩;rw [h.key];exact ⟨φ',h1,h2,h3.Fs h hk⟩
def eE.alt {P:Program}{k0:Nat} {c c':Ctx}{g:Nat->List MV->Option MV}(h:eE P c g)(hl:KZ k0 c c'):eE P c' (alM k0 g):=by refine ⟨λf ms r hr=> ?_⟩;rw [hl.key] at hr;unfold alM at hr;obtain ⟨hk,hr⟩:=oz hr;refine (h.all f ms r hr).Fs hl (λhe=> ?_);simp_all
def rL (σ:Nat->Value)(d:Nat)(v:Value):Nat->Value:=λt=>bif ac4 t d then v else σ t
def ev (σ:Nat->Value):Operand->Value
 | .tmp t=>σ t
 | .const v=>v
 | .global g=> .pointer (some ⟨g,0,none⟩)
 | .func f=> .func (.func f) #[] #[]
structure Tm (a:Act) (n:Nat) (σ:Nat->Value):Prop where
 defers:a.defers=[]
 size:a.tmps.size=n
 get: ∀t,a.tmps.getD t undef=σ t
theorem Tm.eval {a:Act}{n:Nat} {σ:Nat->Value}(h:Tm a n σ):a.eval=ev σ:=by
 funext x;cases x with
 |tmp t=>exact h.get t
 |_=>rfl
theorem Tm.put {a:Act}{n:Nat} {σ:Nat->Value}(h:Tm a n σ){d:Nat}(hd:d<n)(v:Value):Tm (a.put (some d) v) n (rL σ d v):=by
 refine ⟨h.defers,by simp [Act.put,h.size],λt=> ?_⟩;show (a.tmps.setIfInBounds d v).getD t undef=bif ac4 t d then v else σ t;by_cases ht:t=d
 .subst ht;have:t<a.tmps.size:=by rw [h.size];exact hd
  simp [this]
 .have hb:ac4 t d=false:=by
   cases hq:ac4 t d with
   |false=>rfl
   |true=>simp_all
  have:=h.get t;simp_all [agx,Array.getElem?_setIfInBounds_ne,Ne.symm,cond_false]
theorem tm3 (v0 v1 v2:Value)(k:Nat):Tm {tmps:= #[v0,v1,v2]++sh k undef,defers:=[]} (k+3) (rL (rL (rL (λ_=>undef) 0 v0) 1 v1) 2 v2):=by
 refine ⟨rfl,by simp [akB],λq=> ?_⟩;by_cases h0:q=0
 .subst h0;show (#[v0,v1,v2]++sh k undef).getD 0 undef=v0;simp [OF]
 by_cases h1:q=1
 .subst h1;show (#[v0,v1,v2]++sh k undef).getD 1 undef=v1;simp [OF]
 by_cases h2:q=2
 .subst h2;show (#[v0,v1,v2]++sh k undef).getD 2 undef=v2;simp [OF]
 have e: ∀{x y:Nat},x≠y->ac4 x y=false:=(by grind [ac4,absurd,AT])
 simp only [rL,e h0,e h1,e h2,cond_false];simp [OF,afT,show¬q<3 by omega];grind
section
variable {P:Program}{Q:Exit->Act->World->Prop}{ops:Array Oper}{o:Oper}{a:Act}{w w':World}{n:Nat}{σ:Nat->Value}
def Tm.step {i d:Nat}{op:Op}{rest:List Nat}{v:Value}(ao:Tm a n σ)(hi:ops[i]? =some o)(ho:al o d op)(hd:d<n)(bU:(execOp (ev σ) o).run P w= .ok (.value v) w')(h: ∀a',Tm a' n (rL σ d v)->wpOps P ops Q rest a' w'):wpOps P ops Q (i::rest) a w:=by refine yF hi ho.guard (v:=v) (w':=w') (by grind [ao.eval]) ?_;rw [ho.dst];exact h _ (ao.put hd v)
def mu {d:Nat}{x:Operand}{e:Operand->Value}(ho:al o d (.move x))(w:World):(execOp e o).run P w= .ok (.value (e x)) w:=by simp [execOp,ho.op]
def DZ {d:Nat}{x:Operand}{e:Operand->Value}(ho:al o d (.assign x))(w:World):(execOp e o).run P w= .ok (.value (e x)) w:=by simp [execOp,ho.op]
def Tm.st {i d:Nat}{op:Op}{rest:List Nat}{v:Value}(ao:Tm a n σ)(ho:al o d op)(bU: ∀w,(execOp (ev σ) o).run P w= .ok (.value v) w)(h: ∀a',Tm a' n (rL σ d v)->wpOps P ops Q rest a' w)(hi:ops[i]? =some o:=by rfl) (hd:d<n:=by decide):wpOps P ops Q (i::rest) a w:=ao.step hi ho hd (bU _) h
def Tm.aZ {i d:Nat}{op:Op}{rest:List Nat}{v:Value}(ao:Tm a n σ)(ho:al o d op)(bU:(execOp (ev σ) o).run P w= .ok (.value v) w')(h: ∀a',Tm a' n (rL σ d v)->wpOps P ops Q rest a' w')(hi:ops[i]? =some o:=by rfl) (hd:d<n:=by decide):wpOps P ops Q (i::rest) a w:=ao.step hi ho hd bU h
theorem Tm.mv {i d:Nat}{x:Operand}{rest:List Nat}{v:Value}(ao:Tm a n σ)(ho:al o d (.move x))(h: ∀a',Tm a' n (rL σ d v)->wpOps P ops Q rest a' w)(hv:ev σ x=v:=by rfl) (hi:ops[i]? =some o:=by rfl) (hd:d<n:=by decide): wpOps P ops Q (i::rest) a w:=ao.st ho (λw=>hv▸mu ho w) h hi hd
def Tm.yU {i d:Nat}{x:Operand}{rest:List Nat}{v:Value}(ao:Tm a n σ)(ho:al o d (.assign x))(h: ∀a',Tm a' n (rL σ d v)->wpOps P ops Q rest a' w)(hv:ev σ x=v:=by rfl) (hi:ops[i]? =some o:=by rfl) (hd:d<n:=by decide): wpOps P ops Q (i::rest) a w:=ao.st ho (λw=>hv▸DZ ho w) h hi hd
def n8 {d:Nat}{t el:TypeId}{x:Operand}{e:Operand->Value}{ad:Option Addr}{m c:Nat}(ho:al o d (.call {callee:= .builtin .len,args:= #[x],argTypes:= #[t]})) (hu:P.underlying t=some (.slice el)) (hx:e x= .slice ad m c) (w:World): (execOp e o).run P w= .ok (.value (.int .i64 m)) w:=by simp [execOp,ho.op,resolve,invoke,builtin,hx,Builtin.len_,goInt,run_underlying hu]
def abO {d:Nat}{t el:TypeId}{x:Operand}{e:Operand->Value}{ad:Option Addr}{m c:Nat}(ho:al o d (.call {callee:= .builtin .cap,args:= #[x],argTypes:= #[t]})) (hu:P.underlying t=some (.slice el)) (hx:e x= .slice ad m c) (w:World): (execOp e o).run P w= .ok (.value (.int .i64 c)) w:=by simp [execOp,ho.op,resolve,invoke,builtin,hx,Builtin.cap_,goInt,run_underlying hu]
def zh {d:Nat}{op:BinOp} {t t':TypeId}{x y:Operand}{e:Operand->Value}{k:IntKind}{p q:Int}{v:Value}(ho:al o d (.binOp op t x y t'))(hx:e x= .int k p)(hy:e y= .int k q)(hv: ∀w:World,(Go.binOp op t (.int k p) (.int k q)).run P w= .ok v w)(w:World):(execOp e o).run P w= .ok (.value v) w:=by simp_all [eqGuard,execOp,ho.op]
def pj {d:Nat} {t t':TypeId}{x y:Operand}{e:Operand->Value}{p q:Int}(ho:al o d (.binOp .eql t x y t'))(hx:e x= .int .i64 p)(hy:e y= .int .i64 q)(w:World): (execOp e o).run P w= .ok (.value (.bool (decide (p=q)))) w:=zh ho hx hy (λw=>by rfl) w
def WY {d:Nat} {t t':TypeId}{x y:Operand}{e:Operand->Value}{p q:Int}(ho:al o d (.binOp .gtr t x y t'))(hx:e x= .int .i64 p)(hy:e y= .int .i64 q)(w:World): (execOp e o).run P w= .ok (.value (.bool (decide (q<p)))) w:=zh ho hx hy (λw=>by simp [Go.binOp,Op.intCmp]) w
def kE {d:Nat} {t t':TypeId}{x y:Operand}{e:Operand->Value}{p q:Nat}(ho:al o d (.binOp .add t x y t'))(hx:e x= .int .i64 p)(hy:e y= .int .i64 q)(hl:p+q<2^63)(w:World): (execOp e o).run P w= .ok (.value (.int .i64 ((p+q:Nat):Int))) w:=zh ho hx hy (λw=>by
  have:IntKind.i64.wrap ((p:Int)+(q:Int))=((p+q:Nat):Int):=by rw [aks];omega
  simp [Go.binOp,Op.intArith,this]) w
def ahD {d:Nat} {t t':TypeId}{x y:Operand}{e:Operand->Value}{p q:Nat}(ho:al o d (.binOp .sub t x y t'))(hx:e x= .int .i64 p)(hy:e y= .int .i64 q)(hl:p<2^63)(hq:q<=p)(w:World): (execOp e o).run P w= .ok (.value (.int .i64 ((p-q:Nat):Int))) w:=zh ho hx hy (λw=>by
  have:IntKind.i64.wrap ((p:Int)-(q:Int))=((p-q:Nat):Int):=by rw [aks];omega
  simp [Go.binOp,Op.intArith,this]) w
def TG {d:Nat}{t:TypeId}{x:Operand}{e:Operand->Value}{b:Bool}(ho:al o d (.unOp .not t x))(hx:e x= .bool b)(w:World): (execOp e o).run P w= .ok (.value (.bool (!b))) w:=by simp [execOp,ho.op,hx,Op.unary]
def CF {d:Nat}{t el:TypeId}{x y:Operand}{e:Operand->Value}{ad:Option Addr}{m c l size:Nat}{i:TypeInfo}(ho:al o d (.slice t x (some y) none none))(hu:P.underlying t=some (.slice el))(hi:P.info? el=some i)(hs:i.size=size)(hx:e x= .slice ad m c)(hy:e y= .int .i64 l)(hl:l<=m)(w:World):(execOp e o).run P w= .ok (.value (.slice (if c=l then ad else ad.map (·.add (l *size))) (m-l) (c-l))) w:=by simp [execOp,ho.op,akJ,ak2,run_underlying hu,hx,hy,aie,typeInfo,hi,hs,ait,akt,asIntOf,hl]
def Hm {d:Nat}{t el:TypeId}{x y:Operand}{e:Operand->Value}{ad:Option Addr}{m c l size:Nat}{i:TypeInfo}(ho:al o d (.slice t x none (some y) none))(hu:P.underlying t=some (.slice el))(hi:P.info? el=some i)(hs:i.size=size)(hx:e x= .slice ad m c)(hy:e y= .int .i64 l)(hl:l<=c)(w:World):(execOp e o).run P w= .ok (.value (.slice ad l c)) w:=by
 have h0: ∀q:Addr,q.add 0=q:=(by grind [Addr.add])
 have:(if c=0 then ad else ad.map (·.add (0 *size)))=ad:=by cases ad<;>simp [h0]
 simp [execOp,ho.op,akJ,ak2,run_underlying hu,hx,hy,aie,typeInfo,hi,hs,ait,akt,asIntOf,hl];grind
def pW {d:Nat}{t el:TypeId}{x y:Operand}{e:Operand->Value}{g m c l size:Nat}{i:TypeInfo}(ho:al o d (.slice t x (some y) none none))(hu:P.underlying t=some (.slice el))(hi:P.info? el=some i)(hs:i.size=size)(hx:e x= .slice (some ⟨g,0,none⟩) m c)(hy:e y= .int .i64 l)(hl:l<=m)(hc:l<c)(w:World):(execOp e o).run P w= .ok (.value (.slice (some ⟨g,l *size,none⟩) (m-l) (c-l))) w:=by
 rw [CF ho hu hi hs hx hy hl w];have: ¬c=l:=aab
 simp_all [afJ,agO]
def alN {d:Nat}{x y:Operand}{t1 t2:TypeId}{f:FuncId}{e:Operand->Value}{v1 v2 v:Value}(ho:al o d (.call {callee:= .value (.func f),args:= #[x,y],argTypes:= #[t1,t2]})) (he:e (.func f)= .func (.func f) #[] #[]) (hx:e x=v1) (hy:e y=v2) (h:(callFunc f #[v1,v2]).run P w= .ok (.value v) w'):(execOp e o).run P w= .ok (.value v) w':=by grind [execOp,ho.op,resolve,invoke,builtin,afD]
def NW {d:Nat}{x y:Operand}{t1 t2:TypeId}{e:Operand->Value}{v1 v2 v:Value}(ho:al o d (.call {callee:= .builtin .append,args:= #[x,y],argTypes:= #[t1,t2]})) (hx:e x=v1) (hy:e y=v2) (h:(afH #[t1,t2] o.type #[v1,v2]).run P w= .ok v w'):(execOp e o).run P w= .ok (.value v) w':=by simp_all [execOp,ho.op,resolve,invoke,builtin]
def Hn {d:Nat}{x y:Operand}{t1 t2:TypeId}{e:Operand->Value}{v1 v2 v:Value}(ho:al o d (.call {callee:= .builtin .copy,args:= #[x,y],argTypes:= #[t1,t2]})) (hx:e x=v1) (hy:e y=v2) (h:(afC #[t1,t2] o.type #[v1,v2]).run P w= .ok v w'):(execOp e o).run P w= .ok (.value v) w':=by simp_all [execOp,ho.op,resolve,invoke,builtin]
def s9 {dT sT ty elem t:TypeId}{g o alO aqN r9 B2 size k:Nat}{a:Addr}{dp:Array Value}{cs:List Value}{i:TypeInfo}(hu:P.underlying dT=some (.slice elem))(hi:P.info? elem=some i)(hs:i.size=size)(hg:w.heap[g]? =some (.cells dp t (0,0)))(hk:Nat.min r9 alO=k)(hn:cs.length=k *size)(Cw: ∀(j:Nat) v,cs[j]? =some v->w.cell? (a.add j)=some v)(EO:o+cs.length<=dp.size)(h1: ∀v∈cs,v.oneCell'=true): (afC #[dT,sT] ty #[.slice (some ⟨g,o,none⟩) alO aqN,.slice (some a) r9 B2]).run P w= .ok (goInt k) (w.setRow g (dp.toList.take o++cs++dp.toList.drop (o+cs.length)).toArray):=by have hl:=run_loadCells_list (P:=P) w a cs Cw;have fw:=run_storeCells_at P g o t cs 0 dp w hg (by simpa using EO) h1;simp_all [afC,run_underlying,Builtin.lenOf,alP,aie,typeInfo]
def WZ (ops:Array Oper):Nat->Nat->Array Bool->Bool
 |0,i,listed=>(afA .any ops (listed.setIfInBounds i true)).isEmpty&&(afA .any ops listed==[i])
 |k+1,i,listed=>Region.free .any ops listed i&&(afA .any ops listed).contains i&&WZ ops k (i+1) (listed.setIfInBounds i true)
def abP (ops:Array Oper):Bool:=akw ops&&Nat.blt 0 ops.size&&WZ ops (ops.size-1) 0 (sh ops.size false)
structure abQ (ops:Array Oper) (k i:Nat) (listed:Array Bool):Prop where
 sel:akw ops=true
 ord:WZ ops k i listed=true
def Tm.draw {N:Act->World->Prop}{i d:Nat}{op:Op}{k:Nat}{listed:Array Bool}{v:Value}(ao:Tm a n σ)(hi:ops[i]? =some o)(ho:al o d op)(hd:d<n)(hb:abQ ops (k+1) i listed)(bU: ∀w,(execOp (ev σ) o).run P w= .ok (.value v) w)(h: ∀a',Tm a' n (rL σ d v)->abQ ops k (i+1) (listed.setIfInBounds i true)->wpAny P .any ops (qt N) (k+1) (listed.setIfInBounds i true) a' w):wpAny P .any ops (qt N) (k+2) listed a w:=by have ⟨hs,hb⟩:=hb;simp only [WZ,bD] at hb;have ⟨⟨h1,h2⟩,h3⟩:=hb;refine wpAny_take hi hs h1 h2 (λc a w hq=>hq.elim) (v:=v) (.inl (by grind [afy,ho.guard,ao.eval])) ?_;rw [ho.dst];exact h _ (ao.put hd v) ⟨hs,h3⟩
def Tm.last {N:Act->World->Prop}{i d:Nat}{op:Op}{listed:Array Bool}{v:Value}(ao:Tm a n σ)(hi:ops[i]? =some o)(ho:al o d op)(hd:d<n)(hb:abQ ops 0 i listed)(bU:(execOp (ev σ) o).run P w= .ok (.value v) w')(h: ∀a',Tm a' n (rL σ d v)->N a' w'):wpAny P .any ops (qt N) 1 listed a w:=by have ⟨hs,hb⟩:=hb;simp only [WZ,bD,List.isEmpty_iff,beq_iff_eq] at hb;have ⟨h1,h2⟩:=hb;refine wpAny_all h2 abu ?_;intro j hj;simp at hj;subst hj;unfold wpOp;simp only [hi,afy,ho.guard,if_true];left;unfold amt;rw [ao.eval,bU,akO,ho.dst];exact wpAny_done h1 (h _ (ao.put hd v)) 0
def abR {id k:Nat}(hm:P.follows .mixedOrders=true)(hb:abP ops=true)(hk:ops.size=k+1)(h:abQ ops k 0 (sh (k+1) false)->wpAny P .any ops (qt λa w=>Q .normal a w) (k+1) (sh (k+1) false) a {w with drawn:=w.drawn+1}): (ak3 id ops true).wp P Q a w:=by simp only [abP,bD] at hb;rw [hk] at hb;refine alQ ?_ (wp_region_any (Q:=qt λa w=>Q .normal a w) hm (by rw [hk];exact h ⟨hb.1.1,hb.2⟩));intro x a' w' hx;cases x<;>first|exact hx|exact hx.elim
def Tm.cond {x:Operand}{b:Bool}{A B:Code}(ao:Tm a n σ)(hx:ev σ x= .bool b)(h:(if b then A else B).wp P Q a w):(Code.cond x A B).wp P Q a w:=by simp_all [wp_cond,ao.eval]
end
def Az (r:Nat->Nat)(o:Nat->Oper)(tail:Code):Code:= .seq (.region (r 0) #[o 0] false) (.seq (.region (r 1) #[o 1,o 2,o 3] false) (.seq (.region (r 2) #[o 4,o 5,o 6] false) (.seq (.seq (.region (r 3) #[o 7,o 8] false) (.cond (.tmp 16) (.seq (.region (r 4) #[o 9,o 10] false) .ret) .skip)) (.seq (.region (r 5) #[o 11,o 12,o 13] false) (.seq (.seq (.region (r 6) #[o 14,o 15,o 16] false) (.cond (.tmp 22) (.seq (.region (r 7) #[o 17,o 18,o 19,o 20] false) .ret) .skip)) (.seq (.seq (.region (r 8) #[o 21,o 22,o 23,o 24,o 25,o 26] false) (.cond (.tmp 31) (.seq (.region (r 9) #[o 27,o 28,o 29,o 30,o 31,o 32,o 33,o 34,o 35,o 36] false) (.seq (.region (r 10) #[o 37,o 38,o 39,o 40,o 41] false) (.seq (.region (r 11) #[o 42,o 43,o 44,o 45,o 46,o 47,o 48,o 49,o 50] true) (.seq (.region (r 12) #[o 51,o 52] false) .ret)))) .skip)) (.seq (.region (r 13) #[o 53,o 54,o 55,o 56,o 57,o 58] false) (.seq (.seq (.region (r 14) #[o 59,o 60,o 61,o 62,o 63,o 64,o 65,o 66] false) (.cond (.tmp 68) (.seq (.region (r 15) #[o 67,o 68,o 69,o 70,o 71,o 72,o 73,o 74,o 75] true) (.seq (.region (r 16) #[o 76,o 77,o 78,o 79,o 80] false) (.seq (.region (r 17) #[o 81,o 82] false) .ret))) .skip)) tail))))))))
structure aqO (t ti tb fo:Nat) (o:Nat->Oper):Prop where
 h0:al (o 0) 6 (.assign (.const (.slice none 0 0)))
 h1:al (o 1) 10 (.move (.tmp 0))
 h2:al (o 2) 11 (.move (.tmp 1))
 h3:al (o 3) 12 (.slice t (.tmp 10) (some (.tmp 11)) none none)
 h4:al (o 4) 13 (.move (.tmp 2))
 h5:al (o 5) 14 (.call {callee:= .builtin .len,args:= #[.tmp 13],argTypes:= #[t]})
 h6:al (o 6) 7 (.assign (.tmp 14))
 h7:al (o 7) 15 (.move (.tmp 7))
 h8:al (o 8) 16 (.binOp .eql ti (.tmp 15) (.const (.int .i64 0)) ti)
 h9:al (o 9) 17 (.move (.tmp 0))
 Hi:al (o 10) 6 (.assign (.tmp 17))
 QK:al (o 11) 18 (.move (.tmp 0))
 Qo:al (o 12) 19 (.call {callee:= .builtin .len,args:= #[.tmp 18],argTypes:= #[t]})
 R6:al (o 13) 8 (.assign (.tmp 19))
 TH:al (o 14) 20 (.move (.tmp 1))
 NX:al (o 15) 21 (.move (.tmp 8))
 Mh:al (o 16) 22 (.binOp .eql ti (.tmp 20) (.tmp 21) ti)
 TJ:al (o 17) 23 (.move (.tmp 0))
 VP:al (o 18) 24 (.move (.tmp 2))
 W9:al (o 19) 25 (.call {callee:= .builtin .append,args:= #[.tmp 23,.tmp 24],argTypes:= #[t,t]})
 YZ:al (o 20) 6 (.assign (.tmp 25))
 VQ:al (o 21) 26 (.move (.tmp 8))
 Y0:al (o 22) 27 (.move (.tmp 7))
 TL:al (o 23) 28 (.binOp .add ti (.tmp 26) (.tmp 27) ti)
 Xa:al (o 24) 29 (.move (.tmp 0))
 R7:al (o 25) 30 (.call {callee:= .builtin .cap,args:= #[.tmp 29],argTypes:= #[t]})
 ZR:al (o 26) 31 (.binOp .gtr ti (.tmp 28) (.tmp 30) ti)
 h27:al (o 27) 32 (.move (.tmp 0))
 h28:al (o 28) 33 (.move (.tmp 1))
 h29:al (o 29) 34 (.slice t (.tmp 32) none (some (.tmp 33)) none)
 h30:al (o 30) 35 (.move (.tmp 8))
 h31:al (o 31) 36 (.move (.tmp 7))
 Y1:al (o 32) 37 (.binOp .add ti (.tmp 35) (.tmp 36) ti)
 h33:al (o 33) 38 (.move (.tmp 1))
 h34:al (o 34) 39 (.binOp .sub ti (.tmp 37) (.tmp 38) ti)
 h35:al (o 35) 40 (.call {callee:= .builtin .append,args:= #[.tmp 34,.tmp 39],argTypes:= #[t,ti]})
 h36:al (o 36) 9 (.assign (.tmp 40))
 h37:al (o 37) 41 (.move (.tmp 9))
 h38:al (o 38) 42 (.move (.tmp 1))
 h39:al (o 39) 43 (.slice t (.tmp 41) (some (.tmp 42)) none none)
 h40:al (o 40) 44 (.move (.tmp 2))
 h41:al (o 41) 45 (.call {callee:= .builtin .copy,args:= #[.tmp 43,.tmp 44],argTypes:= #[t,t]})
 h42:al (o 42) 46 (.move (.tmp 9))
 h43:al (o 43) 47 (.move (.tmp 1))
 h44:al (o 44) 48 (.move (.tmp 7))
 h45:al (o 45) 49 (.binOp .add ti (.tmp 47) (.tmp 48) ti)
 h46:al (o 46) 50 (.slice t (.tmp 46) (some (.tmp 49)) none none)
 h47:al (o 47) 51 (.move (.tmp 0))
 h48:al (o 48) 52 (.move (.tmp 1))
 h49:al (o 49) 53 (.slice t (.tmp 51) (some (.tmp 52)) none none)
 h50:al (o 50) 54 (.call {callee:= .builtin .copy,args:= #[.tmp 50,.tmp 53],argTypes:= #[t,t]})
 h51:al (o 51) 55 (.move (.tmp 9))
 h52:al (o 52) 6 (.assign (.tmp 55))
 h53:al (o 53) 56 (.move (.tmp 0))
 h54:al (o 54) 57 (.move (.tmp 8))
 h55:al (o 55) 58 (.move (.tmp 7))
 h56:al (o 56) 59 (.binOp .add ti (.tmp 57) (.tmp 58) ti)
 h57:al (o 57) 60 (.slice t (.tmp 56) none (some (.tmp 59)) none)
 h58:al (o 58) 0 (.assign (.tmp 60))
 h59:al (o 59) 61 (.move (.tmp 2))
 h60:al (o 60) 62 (.move (.tmp 0))
 h61:al (o 61) 63 (.move (.tmp 1))
 h62:al (o 62) 64 (.move (.tmp 7))
 h63:al (o 63) 65 (.binOp .add ti (.tmp 63) (.tmp 64) ti)
 h64:al (o 64) 66 (.slice t (.tmp 62) (some (.tmp 65)) none none)
 h65:al (o 65) 67 (.call {callee:= .value (.func fo),args:= #[.tmp 61,.tmp 66],argTypes:= #[t,t]})
 h66:al (o 66) 68 (.unOp .not tb (.tmp 67))
 h67:al (o 67) 69 (.move (.tmp 0))
 h68:al (o 68) 70 (.move (.tmp 1))
 h69:al (o 69) 71 (.move (.tmp 7))
 h70:al (o 70) 72 (.binOp .add ti (.tmp 70) (.tmp 71) ti)
 h71:al (o 71) 73 (.slice t (.tmp 69) (some (.tmp 72)) none none)
 h72:al (o 72) 74 (.move (.tmp 0))
 h73:al (o 73) 75 (.move (.tmp 1))
 h74:al (o 74) 76 (.slice t (.tmp 74) (some (.tmp 75)) none none)
 h75:al (o 75) 77 (.call {callee:= .builtin .copy,args:= #[.tmp 73,.tmp 76],argTypes:= #[t,t]})
 h76:al (o 76) 78 (.move (.tmp 0))
 h77:al (o 77) 79 (.move (.tmp 1))
 h78:al (o 78) 80 (.slice t (.tmp 78) (some (.tmp 79)) none none)
 h79:al (o 79) 81 (.move (.tmp 2))
 h80:al (o 80) 82 (.call {callee:= .builtin .copy,args:= #[.tmp 80,.tmp 81],argTypes:= #[t,t]})
 h81:al (o 81) 83 (.move (.tmp 0))
 h82:al (o 82) 6 (.assign (.tmp 83))
 d11:abP #[o 42,o 43,o 44,o 45,o 46,o 47,o 48,o 49,o 50]=true
 d15:abP #[o 67,o 68,o 69,o 70,o 71,o 72,o 73,o 74,o 75]=true
structure NY (P:Program) (f t ti tb el fo:Nat) (fn:Func) (r:Nat->Nat) (o:Nat->Oper) (tail:Code):Prop where
 pos:P.funcs[f]? =some fn
 name:(fn.name== "runtime.NumGoroutine")=false
 tmps:fn.ntmps=95
 res:fn.results= #[.tmp 6]
 body:fn.body=some (Az r o tail)
 ops:aqO t ti tb fo o
 mix:P.follows .mixedOrders=true
 Ab:P.underlying t=some (.slice el)
section
variable {P:Program}{f t ti tb el fo:Nat}{fn:Func}{r:Nat->Nat}{o:Nat->Oper}{tail:Code}{ie:TypeInfo}{size n m c c2 i g g2:Nat}{ad:Option Addr}{w:World}{key:Nat->Nat}{φ:Ph}
def TM {a:Act}{w:World} {σ:Nat->Value}{R:Ending->World->Prop}{v:Value}(hr:fn.results= #[.tmp 6])(ao:Tm a 95 σ)(h6:σ 6=v)(h:R (.returned v) w):bodyPost P fn R .ret a w:=by
 refine ⟨ao.defers,v,?_,h⟩;have h2:a.tmps[6]?.getD undef=v:=by have:=ao.get 6;rw [h6] at this;simpa using this
 simp_all [results]
def alS (hf:NY P f t ti tb el fo fn r o tail)(rG:P.info? el=some ie)(Ck:ie.size=size)(hm:0<m)(hn:n<=c)(hc:c<2^63)(hnm:n+m<2^63)(hi:i=n){v:Value}{w1:World}(bU: ∀ty,(afH #[t,t] ty #[.slice ad n c,.slice (some ⟨g2,0,none⟩) m c2]).run P w= .ok v w1) :Calls P f #[.slice ad n c,.int .i64 ((i:Nat):Int),.slice (some ⟨g2,0,none⟩) m c2] w λx w'=>x= .returned v/\w'=w1:=by
 refine calls_of_wp hf.pos hf.body ?_;rw [hf.tmps];have key: ∀a:Act,Tm a 95 (rL (rL (rL (λ_=>undef) 0 (.slice ad n c)) 1 (.int .i64 ((i:Nat):Int))) 2 (.slice (some ⟨g2,0,none⟩) m c2))->(Az r o tail).wp P (bodyPost P fn λx w'=>x= .returned v/\w'=w1) a w:=by intro a ao;unfold Az;refine wp_seq (wp_region ?_);refine ao.yU hf.ops.h0 λa ao=> ?_;refine wp_seq (wp_region ?_);refine ao.mv hf.ops.h1 λa ao=> ?_;refine ao.mv hf.ops.h2 λa ao=> ?_;refine ao.st hf.ops.h3 (CF hf.ops.h3 hf.Ab rG Ck rfl rfl aab) λa ao=> ?_;refine wp_seq (wp_region ?_);refine ao.mv hf.ops.h4 λa ao=> ?_;refine ao.st hf.ops.h5 (n8 hf.ops.h5 hf.Ab rfl) λa ao=> ?_;refine ao.yU hf.ops.h6 λa ao=> ?_;refine wp_seq ?_;refine wp_seq (wp_region ?_);refine ao.mv hf.ops.h7 λa ao=> ?_;refine ao.st hf.ops.h8 (pj hf.ops.h8 rfl rfl) λa ao=> ?_;refine ao.cond (b:=false) (by show IN (decide (((m:Nat):Int)=((0:Nat):Int)))=_;grind [decide_eq_false]) ?_;simp only [AI,if_false];refine wp_skip ?_;refine wp_seq (wp_region ?_);refine ao.mv hf.ops.QK λa ao=> ?_;refine ao.st hf.ops.Qo (n8 hf.ops.Qo hf.Ab rfl) λa ao=> ?_;refine ao.yU hf.ops.R6 λa ao=> ?_;refine wp_seq ?_;refine wp_seq (wp_region ?_);refine ao.mv hf.ops.TH λa ao=> ?_;refine ao.mv hf.ops.NX λa ao=> ?_;refine ao.st hf.ops.Mh (pj hf.ops.Mh rfl rfl) λa ao=> ?_;refine ao.cond (b:=true) (by show IN (decide (((i:Nat):Int)=((n:Nat):Int)))=_;grind) ?_;simp only [if_true];refine wp_seq (wp_region ?_);refine ao.mv hf.ops.TJ λa ao=> ?_;refine ao.mv hf.ops.VP λa ao=> ?_;refine ao.aZ (v:=v) hf.ops.W9 (NW hf.ops.W9 rfl rfl (bU _)) λa ao=> ?_;refine ao.yU hf.ops.YZ λa ao=> ?_;refine wp_ret ?_;show bodyPost P fn (λx wq=>x= .returned (v)/\wq=w1) .ret a w1;refine TM hf.res ao (v:=v) rfl ?_;exact ⟨rfl,rfl⟩
 grind [tm3]
theorem ahG (hf:NY P f t ti tb el fo fn r o tail)(rG:P.info? el=some ie)(Ck:ie.size=size)(hm:0<m)(hn:n<=c)(hc:c<2^63)(hnm:n+m<2^63)(hi:i<n)(xR:c<n+m){g9 G:Nat}{v1 v2:Value}{w1 w2 w3:World}(hG:n+m<=G)(hA: ∀ty,(afH #[t,ti] ty #[.slice (some ⟨g,0,none⟩) i c,.int .i64 ((n+m-i:Nat):Int)]).run P w= .ok (.slice (some ⟨g9,0,none⟩) (n+m) G) w1)(hB: ∀ty,(afC #[t,t] ty #[.slice (some ⟨g9,i *size,none⟩) (n+m-i) (G-i),.slice (some ⟨g2,0,none⟩) m c2]).run P w1= .ok v1 w2)(hC: ∀ty,(afC #[t,t] ty #[.slice (some ⟨g9,(i+m) *size,none⟩) (n+m-(i+m)) (G-(i+m)),.slice (some ⟨g,i *size,none⟩) (n-i) (c-i)]).run P {w2 with drawn:=w2.drawn+1}= .ok v2 w3) :Calls P f #[.slice (some ⟨g,0,none⟩) n c,.int .i64 ((i:Nat):Int),.slice (some ⟨g2,0,none⟩) m c2] w λx w'=>x= .returned (.slice (some ⟨g9,0,none⟩) (n+m) G)/\w'=w3:=by
 refine calls_of_wp hf.pos hf.body ?_;rw [hf.tmps];have key: ∀a:Act,Tm a 95 (rL (rL (rL (λ_=>undef) 0 (.slice (some ⟨g,0,none⟩) n c)) 1 (.int .i64 ((i:Nat):Int))) 2 (.slice (some ⟨g2,0,none⟩) m c2))->(Az r o tail).wp P (bodyPost P fn λx w'=>x= .returned (.slice (some ⟨g9,0,none⟩) (n+m) G)/\w'=w3) a w:=by intro a ao;unfold Az;refine wp_seq (wp_region ?_);refine ao.yU hf.ops.h0 λa ao=> ?_;refine wp_seq (wp_region ?_);refine ao.mv hf.ops.h1 λa ao=> ?_;refine ao.mv hf.ops.h2 λa ao=> ?_;refine ao.st hf.ops.h3 (CF hf.ops.h3 hf.Ab rG Ck rfl rfl aab) λa ao=> ?_;refine wp_seq (wp_region ?_);refine ao.mv hf.ops.h4 λa ao=> ?_;refine ao.st hf.ops.h5 (n8 hf.ops.h5 hf.Ab rfl) λa ao=> ?_;refine ao.yU hf.ops.h6 λa ao=> ?_;refine wp_seq ?_;refine wp_seq (wp_region ?_);refine ao.mv hf.ops.h7 λa ao=> ?_;refine ao.st hf.ops.h8 (pj hf.ops.h8 rfl rfl) λa ao=> ?_;refine ao.cond (b:=false) (by show IN (decide (((m:Nat):Int)=((0:Nat):Int)))=_;grind [decide_eq_false]) ?_;simp only [AI,if_false];refine wp_skip ?_;refine wp_seq (wp_region ?_);refine ao.mv hf.ops.QK λa ao=> ?_;refine ao.st hf.ops.Qo (n8 hf.ops.Qo hf.Ab rfl) λa ao=> ?_;refine ao.yU hf.ops.R6 λa ao=> ?_;refine wp_seq ?_;refine wp_seq (wp_region ?_);refine ao.mv hf.ops.TH λa ao=> ?_;refine ao.mv hf.ops.NX λa ao=> ?_;refine ao.st hf.ops.Mh (pj hf.ops.Mh rfl rfl) λa ao=> ?_;refine ao.cond (b:=false) (by show IN (decide (((i:Nat):Int)=((n:Nat):Int)))=_;grind [decide_eq_false]) ?_;simp only [AI,if_false];refine wp_skip ?_;refine wp_seq ?_;refine wp_seq (wp_region ?_);refine ao.mv hf.ops.VQ λa ao=> ?_;refine ao.mv hf.ops.Y0 λa ao=> ?_;refine ao.st hf.ops.TL (kE hf.ops.TL rfl rfl aab) λa ao=> ?_;refine ao.mv hf.ops.Xa λa ao=> ?_;refine ao.st hf.ops.R7 (abO hf.ops.R7 hf.Ab rfl) λa ao=> ?_;refine ao.st hf.ops.ZR (WY hf.ops.ZR rfl rfl) λa ao=> ?_;refine ao.cond (b:=true) (by show IN (decide (((c:Nat):Int)<((n+m:Nat):Int)))=_;grind) ?_;simp only [if_true];refine wp_seq (wp_region ?_);refine ao.mv hf.ops.h27 λa ao=> ?_;refine ao.mv hf.ops.h28 λa ao=> ?_;refine ao.st hf.ops.h29 (Hm hf.ops.h29 hf.Ab rG Ck rfl rfl aab) λa ao=> ?_;refine ao.mv hf.ops.h30 λa ao=> ?_;refine ao.mv hf.ops.h31 λa ao=> ?_;refine ao.st hf.ops.Y1 (kE hf.ops.Y1 rfl rfl aab) λa ao=> ?_;refine ao.mv hf.ops.h33 λa ao=> ?_;refine ao.st hf.ops.h34 (ahD hf.ops.h34 rfl rfl aab aab) λa ao=> ?_;refine ao.aZ (v:= .slice (some ⟨g9,0,none⟩) (n+m) G) hf.ops.h35 (NW hf.ops.h35 rfl rfl (hA _)) λa ao=> ?_;refine ao.yU hf.ops.h36 λa ao=> ?_;refine wp_seq (wp_region ?_);refine ao.mv hf.ops.h37 λa ao=> ?_;refine ao.mv hf.ops.h38 λa ao=> ?_;refine ao.st hf.ops.h39 (pW hf.ops.h39 hf.Ab rG Ck rfl rfl aab aab) λa ao=> ?_;refine ao.mv hf.ops.h40 λa ao=> ?_;refine ao.aZ (v:=v1) hf.ops.h41 (Hn hf.ops.h41 rfl rfl (hB _)) λa ao=> ?_;refine wp_seq (abR hf.mix hf.ops.d11 (k:=8) rfl λiH=> ?_);refine ao.draw (v:= .slice (some ⟨g9,0,none⟩) (n+m) G) rfl hf.ops.h42 abq iH (λw=>mu hf.ops.h42 _) (λa ao iH=> ?_);refine ao.draw (v:= .int .i64 ((i:Nat):Int)) rfl hf.ops.h43 abq iH (λw=>mu hf.ops.h43 _) (λa ao iH=> ?_);refine ao.draw (v:= .int .i64 ((m:Nat):Int)) rfl hf.ops.h44 abq iH (λw=>mu hf.ops.h44 _) (λa ao iH=> ?_);refine ao.draw (v:= .int .i64 ((i+m:Nat):Int)) rfl hf.ops.h45 abq iH (λw=>kE hf.ops.h45 rfl rfl aab _) (λa ao iH=> ?_);refine ao.draw (v:= .slice (some ⟨g9,(i+m) *size,none⟩) (n+m-(i+m)) (G-(i+m))) rfl hf.ops.h46 abq iH (λw=>pW hf.ops.h46 hf.Ab rG Ck rfl rfl aab aab _) (λa ao iH=> ?_);refine ao.draw (v:= .slice (some ⟨g,0,none⟩) n c) rfl hf.ops.h47 abq iH (λw=>mu hf.ops.h47 _) (λa ao iH=> ?_);refine ao.draw (v:= .int .i64 ((i:Nat):Int)) rfl hf.ops.h48 abq iH (λw=>mu hf.ops.h48 _) (λa ao iH=> ?_);refine ao.draw (v:= .slice (some ⟨g,i *size,none⟩) (n-i) (c-i)) rfl hf.ops.h49 abq iH (λw=>pW hf.ops.h49 hf.Ab rG Ck rfl rfl aab aab _) (λa ao iH=> ?_);refine ao.last (v:=v2) rfl hf.ops.h50 abq iH (Hn hf.ops.h50 rfl rfl (hC _)) (λa ao=> ?_);refine wp_seq (wp_region ?_);refine ao.mv hf.ops.h51 λa ao=> ?_;refine ao.yU hf.ops.h52 λa ao=> ?_;refine wp_ret ?_;show bodyPost P fn (λx wq=>x= .returned (.slice (some ⟨g9,0,none⟩) (n+m) G)/\wq=w3) .ret a w3;refine TM hf.res ao (v:= .slice (some ⟨g9,0,none⟩) (n+m) G) rfl ?_;exact ⟨rfl,rfl⟩
 grind [tm3]
theorem ahH (hf:NY P f t ti tb el fo fn r o tail)(rG:P.info? el=some ie)(Ck:ie.size=size)(hm:0<m)(hn:n<=c)(hc:c<2^63)(hnm:n+m<2^63)(hi:i<n)(xR:n+m<=c){v1 v2:Value}{w1 w2:World}(hO:(callFunc fo #[.slice (some ⟨g2,0,none⟩) m c2,.slice (some ⟨g,(i+m) *size,none⟩) (n+m-(i+m)) (c-(i+m))]).run P w= .ok (.value (.bool false)) w)(hB: ∀ty,(afC #[t,t] ty #[.slice (some ⟨g,(i+m) *size,none⟩) (n+m-(i+m)) (c-(i+m)),.slice (some ⟨g,i *size,none⟩) (n+m-i) (c-i)]).run P {w with drawn:=w.drawn+1}= .ok v1 w1) (hC: ∀ty,(afC #[t,t] ty #[.slice (some ⟨g,i *size,none⟩) (n+m-i) (c-i),.slice (some ⟨g2,0,none⟩) m c2]).run P w1= .ok v2 w2) :Calls P f #[.slice (some ⟨g,0,none⟩) n c,.int .i64 ((i:Nat):Int),.slice (some ⟨g2,0,none⟩) m c2] w λx w'=>x= .returned (.slice (some ⟨g,0,none⟩) (n+m) c)/\w'=w2:=by
 refine calls_of_wp hf.pos hf.body ?_;rw [hf.tmps];have key: ∀a:Act,Tm a 95 (rL (rL (rL (λ_=>undef) 0 (.slice (some ⟨g,0,none⟩) n c)) 1 (.int .i64 ((i:Nat):Int))) 2 (.slice (some ⟨g2,0,none⟩) m c2))->(Az r o tail).wp P (bodyPost P fn λx w'=>x= .returned (.slice (some ⟨g,0,none⟩) (n+m) c)/\w'=w2) a w:=by intro a ao;unfold Az;refine wp_seq (wp_region ?_);refine ao.yU hf.ops.h0 λa ao=> ?_;refine wp_seq (wp_region ?_);refine ao.mv hf.ops.h1 λa ao=> ?_;refine ao.mv hf.ops.h2 λa ao=> ?_;refine ao.st hf.ops.h3 (CF hf.ops.h3 hf.Ab rG Ck rfl rfl aab) λa ao=> ?_;refine wp_seq (wp_region ?_);refine ao.mv hf.ops.h4 λa ao=> ?_;refine ao.st hf.ops.h5 (n8 hf.ops.h5 hf.Ab rfl) λa ao=> ?_;refine ao.yU hf.ops.h6 λa ao=> ?_;refine wp_seq ?_;refine wp_seq (wp_region ?_);refine ao.mv hf.ops.h7 λa ao=> ?_;refine ao.st hf.ops.h8 (pj hf.ops.h8 rfl rfl) λa ao=> ?_;refine ao.cond (b:=false) (by show IN (decide (((m:Nat):Int)=((0:Nat):Int)))=_;grind [decide_eq_false]) ?_;simp only [AI,if_false];refine wp_skip ?_;refine wp_seq (wp_region ?_);refine ao.mv hf.ops.QK λa ao=> ?_;refine ao.st hf.ops.Qo (n8 hf.ops.Qo hf.Ab rfl) λa ao=> ?_;refine ao.yU hf.ops.R6 λa ao=> ?_;refine wp_seq ?_;refine wp_seq (wp_region ?_);refine ao.mv hf.ops.TH λa ao=> ?_;refine ao.mv hf.ops.NX λa ao=> ?_;refine ao.st hf.ops.Mh (pj hf.ops.Mh rfl rfl) λa ao=> ?_;refine ao.cond (b:=false) (by show IN (decide (((i:Nat):Int)=((n:Nat):Int)))=_;grind [decide_eq_false]) ?_;simp only [AI,if_false];refine wp_skip ?_;refine wp_seq ?_;refine wp_seq (wp_region ?_);refine ao.mv hf.ops.VQ λa ao=> ?_;refine ao.mv hf.ops.Y0 λa ao=> ?_;refine ao.st hf.ops.TL (kE hf.ops.TL rfl rfl aab) λa ao=> ?_;refine ao.mv hf.ops.Xa λa ao=> ?_;refine ao.st hf.ops.R7 (abO hf.ops.R7 hf.Ab rfl) λa ao=> ?_;refine ao.st hf.ops.ZR (WY hf.ops.ZR rfl rfl) λa ao=> ?_;refine ao.cond (b:=false) (by show IN (decide (((c:Nat):Int)<((n+m:Nat):Int)))=_;grind) ?_;simp only [AI,if_false];refine wp_skip ?_;refine wp_seq (wp_region ?_);refine ao.mv hf.ops.h53 λa ao=> ?_;refine ao.mv hf.ops.h54 λa ao=> ?_;refine ao.mv hf.ops.h55 λa ao=> ?_;refine ao.st hf.ops.h56 (kE hf.ops.h56 rfl rfl aab) λa ao=> ?_;refine ao.st hf.ops.h57 (Hm hf.ops.h57 hf.Ab rG Ck rfl rfl aab) λa ao=> ?_;refine ao.yU hf.ops.h58 λa ao=> ?_;refine wp_seq ?_;refine wp_seq (wp_region ?_);refine ao.mv hf.ops.h59 λa ao=> ?_;refine ao.mv hf.ops.h60 λa ao=> ?_;refine ao.mv hf.ops.h61 λa ao=> ?_;refine ao.mv hf.ops.h62 λa ao=> ?_;refine ao.st hf.ops.h63 (kE hf.ops.h63 rfl rfl aab) λa ao=> ?_;refine ao.st hf.ops.h64 (pW hf.ops.h64 hf.Ab rG Ck rfl rfl aab aab) λa ao=> ?_;refine ao.aZ (v:= .bool false) hf.ops.h65 (alN hf.ops.h65 rfl rfl rfl hO) λa ao=> ?_;refine ao.st hf.ops.h66 (TG hf.ops.h66 rfl) λa ao=> ?_;refine ao.cond (b:=true) rfl ?_;simp only [if_true];refine wp_seq (abR hf.mix hf.ops.d15 (k:=8) rfl λiH=> ?_);refine ao.draw (v:= .slice (some ⟨g,0,none⟩) (n+m) c) rfl hf.ops.h67 abq iH (λw=>mu hf.ops.h67 _) (λa ao iH=> ?_);refine ao.draw (v:= .int .i64 ((i:Nat):Int)) rfl hf.ops.h68 abq iH (λw=>mu hf.ops.h68 _) (λa ao iH=> ?_);refine ao.draw (v:= .int .i64 ((m:Nat):Int)) rfl hf.ops.h69 abq iH (λw=>mu hf.ops.h69 _) (λa ao iH=> ?_);refine ao.draw (v:= .int .i64 ((i+m:Nat):Int)) rfl hf.ops.h70 abq iH (λw=>kE hf.ops.h70 rfl rfl aab _) (λa ao iH=> ?_);refine ao.draw (v:= .slice (some ⟨g,(i+m) *size,none⟩) (n+m-(i+m)) (c-(i+m))) rfl hf.ops.h71 abq iH (λw=>pW hf.ops.h71 hf.Ab rG Ck rfl rfl aab aab _) (λa ao iH=> ?_);refine ao.draw (v:= .slice (some ⟨g,0,none⟩) (n+m) c) rfl hf.ops.h72 abq iH (λw=>mu hf.ops.h72 _) (λa ao iH=> ?_);refine ao.draw (v:= .int .i64 ((i:Nat):Int)) rfl hf.ops.h73 abq iH (λw=>mu hf.ops.h73 _) (λa ao iH=> ?_);refine ao.draw (v:= .slice (some ⟨g,i *size,none⟩) (n+m-i) (c-i)) rfl hf.ops.h74 abq iH (λw=>pW hf.ops.h74 hf.Ab rG Ck rfl rfl aab aab _) (λa ao iH=> ?_);refine ao.last (v:=v1) rfl hf.ops.h75 abq iH (Hn hf.ops.h75 rfl rfl (hB _)) (λa ao=> ?_);refine wp_seq (wp_region ?_);refine ao.mv hf.ops.h76 λa ao=> ?_;refine ao.mv hf.ops.h77 λa ao=> ?_;refine ao.st hf.ops.h78 (pW hf.ops.h78 hf.Ab rG Ck rfl rfl aab aab) λa ao=> ?_;refine ao.mv hf.ops.h79 λa ao=> ?_;refine ao.aZ (v:=v2) hf.ops.h80 (Hn hf.ops.h80 rfl rfl (hC _)) λa ao=> ?_;refine wp_seq (wp_region ?_);refine ao.mv hf.ops.h81 λa ao=> ?_;refine ao.yU hf.ops.h82 λa ao=> ?_;refine wp_ret ?_;show bodyPost P fn (λx wq=>x= .returned (.slice (some ⟨g,0,none⟩) (n+m) c)/\wq=w2) .ret a w2;refine TM hf.res ao (v:= .slice (some ⟨g,0,none⟩) (n+m) c) rfl ?_;exact ⟨rfl,rfl⟩
 grind [tm3]
theorem bn.take {xs:List MV}: ∀{cs:List Value} (i:Nat),bn key φ size cs xs->bn key φ size (cs.take (i *size)) (xs.take i):=by
 induction xs with
 |nil=>grind [bn]
 |cons x xs ih=>
  intro cs i h;obtain ⟨v,q,rfl,h1,h2,h3⟩:=h;cases i with
  |zero=>simp [bn]
  |succ i=>refine ⟨v,q.take (i *size),?_,h1,h2,ih i h3⟩;simp_all [agK,Nat.one_mul,akB,alX,afv]
theorem bn.drop {xs:List MV}: ∀{cs:List Value} (i:Nat),bn key φ size cs xs->bn key φ size (cs.drop (i *size)) (xs.drop i):=by
 induction xs with
 |nil=>grind [bn]
 |cons x xs ih=>
  intro cs i h;cases i with
  |zero=>simpa using h
  |succ i=>obtain ⟨v,q,rfl,h1,h2,h3⟩:=h;rw [agK,Nat.one_mul,akB,List.drop_append,h1,afB aab,akx,Nat.add_sub_cancel_left];grind
end
section
variable {P:Program}{c:Ctx}{f:Nat}{W W':World}{φ:Ph}{Z:Nat->Prop}{v0 v':Value}
def Mi {ty:Nat}{E:TI}{n:Nat}{cells:List Value}{rs:List MV}(hz: ∀b,W.heap.size<=b->Z b)(iA:oN φ W)(hE:c.ti ty=some E)(pg:E.cy=[])(Jg:c.mV (c.key f)=ty)(hold: ∀b,b<W.heap.size->some b≠v0.ownBlock->W'.heap[b]? =W.heap[b]?)(yS:W.heap.size<=W'.heap.size)(vX:Rest W W')(hv0: ∀b,v0.ownBlock=some b->Z b/\ ∀off,φ b off=none)(eS:W'.ownsRow 0 ty E.size v' n cells)(hn:rs.length=n)(kp:bn c.key φ E.size cells rs)(Zt: ∀b,v'.ownBlock=some b->v0.ownBlock=some b\/W.heap.size<=b): ∃φ',Trans Z φ W φ' W'/\oN φ' W'/\iG c Z φ' W' (c.key f) v' (.fresh rs):=by
 refine ⟨φ,⟨.refl _,?_,λ_ _ _=>rfl,yS,vX⟩,?_,?_⟩
 .grind
 .intro b off u hbo;have h1:=iA b off u hbo;have dX:=BY W _ h1;rw [afK (hold b dX (λhe=>by rw [(hv0 b he.symm).2 off] at hbo;cases hbo))];exact h1
 .show ch c (bC.plain Z) (np c.key φ) W' v' ⟨c.mV (c.key f),false,rs⟩;rw [Jg];refine ⟨E,cells,hE,pg,by grind,kp,λbg hb=> ?_⟩;rcases Zt bg hb with h|h
  .exact ⟨(hv0 bg h).1,λoff u hu=>(by have hu:φ bg off=some u:=hu;grind),λhc=>hc.elim⟩
  .refine ⟨hz bg h,λoff u hu=> ?_,λhc=>hc.elim⟩;have:=BY W _ (iA _ _ _ hu);grind
def alT {A dp:List Value}{cells news:List Value}{p q r:Nat}(hA:A.length=dp.length)(hp:p+news.length=q)(hc:cells.length=r)(Tf:p<=r)(EO:r+news.length<=dp.length)(h1:A.take p=cells.take p)(h2:(A.drop q).take (r-p)=cells.drop p):(A.take p++news++A.drop q).take (r+news.length)=cells.take p++news++cells.drop p:=by
 have hl:(A.take p).length=p:=by rw [AS];omega
 rw [alX,ad1,hl,hp,afv (by grind),h1];grind
theorem Jh {t ti tb el fo:Nat}{fn:Func}{r:Nat->Nat}{o:Nat->Oper}{tail:Code}{I E:TI}{xs ys:List MV}{i:Nat}(hf:NY P f t ti tb el fo fn r o tail)(hT:iz P c.ti)(hI:c.tv t=some I)(hL:I.IK=true)(hE:c.tv I.elem=some E)(uU:1<=E.bytes)(hel:el=I.elem)(ng:P.underlying ti=some (.int .i64))(Jg:c.mV (c.key f)=I.elem)(hg:c.cS (c.key f)=true)(hov: ∀args w,(callFunc fo args).run P w=((alY #[t,t] #[tb] args).run P w).andThen λv w'=> .ok (.value v) w')(hi:i<=xs.length)(hys:ys≠[])(qg:(xs.length+ys.length) *E.bytes<=2^46):dG P c f [.fresh xs,.i .i64 i,.fresh ys] (.fresh (xs.take i++ys++xs.drop i)):=by
 subst hel;obtain ⟨hIt,YV⟩:=a8 hI;obtain ⟨mT,pg⟩:=a8 hE;obtain ⟨hu,E2,GV,_,gq⟩:=TI.mn (hT t I hIt) hL;rw [mT] at GV;cases GV;obtain ⟨ie,z,rG,Ck,hby,hz0,Tb⟩:=kD (hT _ E mT) pg;intro φ W Z vs hz dx iA;simp only [cR,hg,if_true] at dx;obtain ⟨v0,v1,v2,xs',m1,ys',rfl,Tv,F0,A1,F2,eR⟩:=dx.resolve_right (by
  rintro (⟨_,_,_,_,_,m2,_,h1,h2,_⟩|⟨pos,_,_,_,_,_,_,_,h1,_⟩)
  .grind [MV.one]
  grind)
 simp only [aky,MV.fresh.injEq,and_true] at Tv;obtain ⟨rfl,rfl,rfl⟩:=Tv;have hv1:v1= .int .i64 (i:Int):=by obtain ⟨_,h⟩:=A1;generalize EN:[v1]=l at h;cases h;simpa using EN
 subst hv1;rw [Jg] at F0 F2;obtain ⟨I0,cells,hI0,_,zi,xW,R8⟩:=F0;have hI0:c.ti I.elem=some I0:=hI0;rw [mT] at hI0;cases hI0;obtain ⟨I2,news,VL,_,RH,Cu,aBV⟩:=F2;have VL:c.ti I.elem=some I2:=VL;rw [mT] at VL;cases VL;have zi:W.ownsRow 0 I.elem E.size v0 xs.length cells:=zi;have RH:W.ownsRow 0 I.elem E.size v2 ys.length news:=RH;have xW:bn c.key φ E.size cells xs:=xW;have Cu:bn c.key φ E.size news ys:=Cu;have hv0: ∀b,v0.ownBlock=some b->Z b/\ ∀off,φ b off=none:=by
  intro b hb;refine ⟨(R8 b hb).1,λoff=> ?_⟩;cases h:φ b off with
  |none=>rfl
  |some u=>have:=((R8 b hb).2.1 off u h).1;cases this
 have hm:0<ys.length:=List.length_pos_iff.2 hys;have QA:news.length=ys.length *E.size:=Cu.length;have ER:cells.length=xs.length *E.size:=xW.length;have hlen:xs.length+ys.length<=2^46:=agV (Nat.le_mul_of_pos_right _ uU) qg;obtain ⟨g2,c2,EQ,rfl,hg2,aEj,hc2,Qm,azz⟩: ∃g2 c2 EQ,v2= .slice (some ⟨g2,0,none⟩) ys.length c2/\W.heap[g2]? =some (.cells EQ I.elem (0,0))/\ys.length<=c2/\c2<=maxLen/\EQ.size=c2 *E.size/\EQ.toList.take (ys.length *E.size)=news:=by rcases RH.2 with ⟨_,h0⟩|⟨g2,c2,EQ,h1,_,h3,h4,h5,h6,h7⟩;all_goals grind
 have azA:=bx hg2;have auT: ∀{w:World},(w.heap[g2]? =W.heap[g2]?)-> ∀(j:Nat) (u:Value),news[j]? =some u->w.cell? ((⟨g2,0,none⟩:Addr).add j)=some u:=by intro w hw j u hj;have:=RH.cells (g:=g2) rfl j u hj;rw [afJ] at this⊢;rw [afK hw];exact this
 have bN: ∀g,v0.ownBlock=some g-> ∀{w:World},(w.heap[g]? =W.heap[g]?)-> ∀(j:Nat) (u:Value),cells[j]? =some u->w.cell? ((⟨g,0,none⟩:Addr).add j)=some u:=by intro g hg w hw j u hj;have:=zi.cells (g:=g) hg j u hj;rw [afJ] at this⊢;rw [afK hw];exact this
 have bU:(callFunc f [v0,.int .i64 (i:Int),.slice (some ⟨g2,0,none⟩) ys.length c2].toArray).run P W= .ok (.enter f #[v0,.int .i64 (i:Int),.slice (some ⟨g2,0,none⟩) ys.length c2]) W:=by
  have Me: ¬fn.name= "runtime.NumGoroutine" :=by simpa using hf.name
  simp [callFunc,hf.pos,Me,hf.body]
 unfold dF;rw [bU];have hrl:(xs.take i++ys++xs.drop i).length=xs.length+ys.length:=by simp;omega
 have Xb:bn c.key φ E.size (cells.take (i *E.size)++news++cells.drop (i *E.size)) (xs.take i++ys++xs.drop i):=((xW.take i).append Cu).append (xW.drop i);by_cases Am:i=xs.length
 .
  have Cw:Src (np c.key φ) W E.size (.slice (some ⟨g2,0,none⟩) ys.length c2) ys news:=⟨Cu,_,_,rfl,abu,(by grind)⟩
  have qh:cells.take (i *E.size)++news++cells.drop (i *E.size)=cells++news:=by rw [Am,<-ER,al0,List.drop_length,amd]
  rw [qh] at Xb;have fin: ∀v' W',atH W W' I.elem E.size v0 v' xs.length ys.length cells news-> ∃φ',Trans Z φ W φ' W'/\oN φ' W'/\iG c Z φ' W' (c.key f) v' (.fresh (xs.take i++ys++xs.drop i)):=by
   intro v' W' y7;refine Mi (v0:=v0) hz iA mT pg Jg y7.vP y7.size y7.rest hv0 y7.own hrl Xb ?_;intro b hb;rcases y7.place with h|h
   .grind
   .grind
  have ⟨v',W',hr,y7⟩:=FN (P:=P) (c:=c) (ty:=0) hu mT pg gq hT uU zi (Cw.apx hu) qg;have hr': ∀ty,(afH #[t,t] ty #[v0,.slice (some ⟨g2,0,none⟩) ys.length c2]).run P W= .ok v' W':=λty=>hr;have azB: ∃ad c0,v0= .slice ad xs.length c0/\xs.length<=c0/\c0<=maxLen:=by
   rcases zi.2 with ⟨h1,h0⟩|⟨g,c0,dp,h1,_,h3,h4,h5,_⟩
   .grind
   .grind
  obtain ⟨ad,c0,rfl,Zu,Ls⟩:=azB;refine (alS hf rG Ck hm Zu (by grind [maxLen]) aab Am hr').mono ?_;rintro x I6 ⟨rfl,rfl⟩;exact ⟨_,rfl,fin _ _ y7⟩
 .have Am:i<xs.length:=aab
  obtain ⟨g,c0,dp,rfl,hgc,Zu,Ls,Ci,YW⟩: ∃g c0 dp,v0= .slice (some ⟨g,0,none⟩) xs.length c0/\W.heap[g]? =some (.cells dp I.elem (0,0))/\xs.length<=c0/\c0<=maxLen/\dp.size=c0 *E.size/\dp.toList.take (xs.length *E.size)=cells:=by rcases zi.2 with ⟨_,h0⟩|⟨g,c0,dp,h1,_,h3,h4,h5,h6,h7⟩;all_goals grind
  have hgl:=bx hgc;have hgg:g≠g2:=λh=>eR g rfl (by rw [h];rfl);have yT:i *E.size<=xs.length *E.size:=aft _ hi;have him:(i+ys.length) *E.size=i *E.size+news.length:=by rw [agK,QA]
  have hnm:(xs.length+ys.length) *E.size=xs.length *E.size+news.length:=by rw [agK,QA]
  have VO:(cells.drop (i *E.size)).length=(xs.length-i) *E.size:=by rw [afu,ER,akF]
  have aEk:(xs.length-i) *E.size=xs.length *E.size-i *E.size:=akF _ _ _;have aoE: ∀{w:World},(w.heap[g]? =W.heap[g]?)-> ∀(j:Nat) (u:Value),(cells.drop (i *E.size))[j]? =some u->w.cell? ((⟨g,i *E.size,none⟩:Addr).add j)=some u:=by intro w hw j u hj;rw [afE] at hj;have:=bN g rfl hw _ u hj;rw [afJ] at this⊢;rwa [agO] at this
  have ho1: ∀u∈cells.drop (i *E.size),u.oneCell'=true:=λu hu=>xW.Cv u (List.mem_of_mem_drop hu);have auU:Rest W {W with drawn:=W.drawn+1}:=⟨rfl,rfl,rfl⟩
  by_cases xR:c0<xs.length+ys.length
  .have hk:i+(xs.length+ys.length-i)=xs.length+ys.length:=aab
   obtain ⟨G,hG⟩: ∃G,G=grownCap W (xs.length+ys.length) c0 I.elem:=⟨_,rfl⟩
   have hGn:xs.length+ys.length<=G:=by rw [hG];exact grownCap_ge W _ _ _
   have hGm:G<=maxLen:=by rw [hG];exact (by grind [grownCap_le_maxLen,maxLen])
   obtain ⟨VR,auV⟩: ∃VR:Array Value,VR=(cells.take (i *E.size)).toArray++aec z.cells (xs.length+ys.length-i)++aec z.cells (G-(xs.length+ys.length)):=⟨_,rfl⟩
   have hRl:VR.size=G *E.size:=by rw [auV];simp only [Array.size_append,ajW,AS,aec,Array.size_map,Array.size_range,Tb];rw [ahQ (by grind),<-agK,<-agK];congr 1;omega
   have hRt:VR.toList.take (i *E.size)=cells.take (i *E.size):=by
    rw [auV];simp only [Array.toList_append,agG];have hl:(cells.take (i *E.size)).length=i *E.size:=by rw [AS,ER];exact ahQ yT
    rw [afz aab,afv aab]
   have hA: ∀ty,(afH #[t,ti] ty #[.slice (some ⟨g,0,none⟩) i c0,.int .i64 ((xs.length+ys.length-i:Nat):Int)]).run P W= .ok (.slice (some ⟨W.heap.size,0,none⟩) (xs.length+ys.length) G) (W.drew.alloc (.cells VR I.elem)):=λty=>by
    have hold:(alP ie.size i (.slice (some ⟨g,0,none⟩) i c0)).run P W.drew= .ok (cells.take (i *E.size)).toArray W.drew:=by
     refine run_firstCells_some W.drew ie.size i ⟨g,0,none⟩ i c0 _ (by grind) (λj v hj=> ?_);rw [agu] at hj;split at hj
     .exact bN g rfl rfl j v hj
     .cases hj
    have h:=Lib.run_append_grow_zeros W t ti ty I.elem ie z .i64 .i64 hu ng rG hz0 (some ⟨g,0,none⟩) i c0 (cells.take (i *E.size)) hold (xs.length+ys.length-i) aab (by grind) aab aab (by exact agV (aft _ (by omega:xs.length+ys.length-i<=xs.length+ys.length)) (by grind)) (by rw [hby,hk];exact growslice_fits xR (by grind));grind
   have hg9:(W.drew.alloc (.cells VR I.elem)).heap[W.heap.size]? =some (.cells VR I.elem (0,0)):=ju W.drew _;have Ti: ∀b,b<W.heap.size->(W.drew.alloc (.cells VR I.elem)).heap[b]? =W.heap[b]? :=λb hb=>qn W.drew _ b hb;have hnG:(xs.length+ys.length) *E.size<=VR.size:=by rw [hRl];exact aft _ hGn
   obtain ⟨RA,hRA⟩: ∃RA:List Value,RA=VR.toList.take (i *E.size)++news++VR.toList.drop (i *E.size+news.length):=⟨_,rfl⟩
   have aEn:RA.length=VR.size:=by rw [hRA];simp only [ad1,AS,afu,ab2];omega
   have hB: ∀ty,(afC #[t,t] ty #[.slice (some ⟨W.heap.size,i *E.size,none⟩) (xs.length+ys.length-i) (G-i),.slice (some ⟨g2,0,none⟩) ys.length c2]).run P (W.drew.alloc (.cells VR I.elem))= .ok (goInt ((ys.length:Nat):Int)) (afL (W.drew.alloc (.cells VR I.elem)) W.heap.size RA.toArray):=λty=>by rw [hRA];exact s9 (size:=E.size) hu rG Ck hg9 (by grind) QA (auT (Ti g2 azA)) aab Cu.Cv
   have aqR:=setRow_heap (W.drew.alloc (.cells VR I.elem)) W.heap.size VR RA.toArray I.elem (0,0) hg9;obtain ⟨W2,Xc⟩: ∃W2,W2=afL (W.drew.alloc (.cells VR I.elem)) W.heap.size RA.toArray:=⟨_,rfl⟩
   have auW: ∀b,b<W.heap.size->W2.heap[b]? =W.heap[b]? :=(by grind [setRow_other])
   have ZS:Rest W W2:=by rw [Xc];exact (show Rest W W.drew from ⟨rfl,rfl,rfl⟩).trans ((Rest.alloc W.drew VR I.elem).trans (Rest.setRow _ _ _))
   have aEo:W2.heap.size=W.heap.size+1:=by rw [Xc,setRow_size];exact Array.size_push _
   rw [<-Xc] at hB aqR;have hC:=λty=>s9 (P:=P) (dT:=t) (sT:=t) (ty:=ty) (size:=E.size) (alO:=xs.length+ys.length-(i+ys.length)) (aqN:=G-(i+ys.length)) (r9:=xs.length-i) (B2:=c0-i) (k:=xs.length-i) (o:=(i+ys.length) *E.size) (a:=⟨g,i *E.size,none⟩) (w:={W2 with drawn:=W2.drawn+1}) hu rG Ck aqR (by grind) VO (aoE (auW g hgl)) (by grind) ho1;refine (ahG hf rG Ck hm Zu (by grind) aab Am xR hGn hA hB hC).mono ?_;rintro x I6 ⟨rfl,rfl⟩;refine ⟨_,rfl,?_⟩;refine Mi (v0:= .slice (some ⟨g,0,none⟩) xs.length c0) (n:=xs.length+ys.length) (cells:=cells.take (i *E.size)++news++cells.drop (i *E.size)) hz iA mT pg Jg ?_ ?_ ?_ hv0 ?_ hrl Xb (λb hb=> .inr (by cases hb;grind))
   .grind [setRow_other]
   .rw [setRow_size];grind
   .exact ZS.trans ((show Rest W2 {W2 with drawn:=W2.drawn+1} from ⟨rfl,rfl,rfl⟩).trans (Rest.setRow _ _ _))
   .refine ⟨by grind,.inr ⟨W.heap.size,G,_,rfl,afN _,setRow_heap {W2 with drawn:=W2.drawn+1} W.heap.size RA.toArray _ I.elem (0,0) aqR,hGn,hGm,?_,?_⟩⟩
    .simp;omega
    .have xO:(cells.take (i *E.size)++news++cells.drop (i *E.size)).length=(xs.length+ys.length) *E.size:=by rw [Xb.length,hrl]
     grind
  .have xR:xs.length+ys.length<=c0:=aab
   have hcz:dp.toList.length=dp.size:=ab2;have EO:(xs.length+ys.length) *E.size<=dp.size:=by rw [Ci];exact aft _ xR
   have hO:(callFunc fo #[.slice (some ⟨g2,0,none⟩) ys.length c2,.slice (some ⟨g,(i+ys.length) *E.size,none⟩) (xs.length+ys.length-(i+ys.length)) (c0-(i+ys.length))]).run P W= .ok (.value (.bool false)) W:=by rw [hov,Lib.run_overlaps_apart W t tb I.elem hu E.size (λw=>by simp_all [aie,typeInfo]) ⟨g2,0,none⟩ ⟨g,(i+ys.length) *E.size,none⟩ _ _ _ _ (Ne.symm hgg) I.elem I.elem EQ.size dp.size (by grind [World.shape?]) (by grind [World.shape?]) (by rw [Ci];exact Nat.ne_of_gt (Nat.mul_pos aab gq)) (by grind [World.frozen?]) (by grind [World.frozen?])];rfl
   let R1:List Value:=dp.toList.take ((i+ys.length) *E.size)++cells.drop (i *E.size)++dp.toList.drop ((i+ys.length) *E.size+(cells.drop (i *E.size)).length);have hR1:R1.length=dp.size:=by simp only [R1,ad1,AS,afu,ab2];rw [VO] at *;omega
   have hB: ∀ty,(afC #[t,t] ty #[.slice (some ⟨g,(i+ys.length) *E.size,none⟩) (xs.length+ys.length-(i+ys.length)) (c0-(i+ys.length)),.slice (some ⟨g,i *E.size,none⟩) (xs.length+ys.length-i) (c0-i)]).run P {W with drawn:=W.drawn+1}= .ok (goInt ((xs.length-i:Nat):Int)) (afL {W with drawn:=W.drawn+1} g R1.toArray):=λty=>s9 (size:=E.size) hu rG Ck (w:={W with drawn:=W.drawn+1}) hgc (by grind) VO (aoE rfl) (by grind) ho1;have azE:(afL {W with drawn:=W.drawn+1} g R1.toArray).heap[g]? =some (.cells R1.toArray I.elem (0,0)):=setRow_heap {W with drawn:=W.drawn+1} g dp R1.toArray I.elem (0,0) hgc;have auW: ∀b,b≠g->(afL {W with drawn:=W.drawn+1} g R1.toArray).heap[b]? =W.heap[b]? :=λb hb=>setRow_other {W with drawn:=W.drawn+1} g b R1.toArray hb;have hC:=λty=>s9 (P:=P) (dT:=t) (sT:=t) (ty:=ty) (size:=E.size) (alO:=xs.length+ys.length-i) (aqN:=c0-i) (r9:=ys.length) (B2:=c2) (k:=ys.length) (o:=i *E.size) (a:=⟨g2,0,none⟩) hu rG Ck azE (by grind) QA (by grind) (by grind) Cu.Cv;refine (ahH hf rG Ck hm Zu (by grind [maxLen]) aab Am xR hO hB hC).mono ?_;rintro x I6 ⟨rfl,rfl⟩;refine ⟨_,rfl,?_⟩;rw [setRow_setRow];have vX:Rest W (afL {W with drawn:=W.drawn+1} g (R1.toArray.toList.take (i *E.size)++news++R1.toArray.toList.drop (i *E.size+news.length)).toArray):=auU.trans (Rest.setRow _ _ _);refine Mi (v0:= .slice (some ⟨g,0,none⟩) xs.length c0) (n:=xs.length+ys.length) (cells:=cells.take (i *E.size)++news++cells.drop (i *E.size)) hz iA mT pg Jg ?_ abu vX hv0 ?_ hrl Xb (λb hb=> .inl hb)
   .intro b hb eR;refine setRow_other {W with drawn:=W.drawn+1} g b _ (λh=>eR ?_);rw [h];rfl
   .refine ⟨by grind,.inr ⟨g,c0,_,rfl,afN _,setRow_heap {W with drawn:=W.drawn+1} g dp _ I.elem (0,0) hgc,xR,Ls,?_,?_⟩⟩
    .simp;omega
    .rw [hnm];refine alT (dp:=dp.toList) (r:=xs.length *E.size) (by grind) rfl ER yT (by grind) ?_ ?_
     .rw [<-YW,alj,ahQ yT];simp only [R1];rw [agG,afz (by rw [AS,hcz];omega),alj,ahQ aab]
     .grind
end
structure gX (o:Oper) (op:Op):Prop where
 dst:o.dst=none
 op:o.op=op
 guard:o.guard=none
section
variable {P:Program}{Q:Exit->Act->World->Prop}{ops:Array Oper}{o:Oper}{a:Act}{w w':World}{n:Nat}{σ:Nat->Value}
def Tm.aoF {i:Nat}{op:Op}{rest:List Nat}{v:Value}(ao:Tm a n σ)(hi:ops[i]? =some o)(ho:gX o op)(bU:(execOp (ev σ) o).run P w= .ok (.value v) w')(h:wpOps P ops Q rest a w'):wpOps P ops Q (i::rest) a w:=by refine yF hi ho.guard (v:=v) (w':=w') (by grind [ao.eval]) ?_;rw [ho.dst];exact h
def NZ (ops:Array Oper):Nat->Nat->Array Bool->Bool
 |0,i,listed=>(afA .any ops listed==[i])&&(afA .any ops (listed.setIfInBounds i true)==[i+1])&&(afA .any ops ((listed.setIfInBounds i true).setIfInBounds (i+1) true)).isEmpty
 |k+1,i,listed=>Region.free .any ops listed i&&(afA .any ops listed).contains i&&NZ ops k (i+1) (listed.setIfInBounds i true)
def ZT (ops:Array Oper):Bool:=akw ops&&Nat.blt 1 ops.size&&NZ ops (ops.size-2) 0 (sh ops.size false)
structure TN (ops:Array Oper) (k i:Nat) (listed:Array Bool):Prop where
 sel:akw ops=true
 ord:NZ ops k i listed=true
def Tm.R9 {N:Act->World->Prop}{i d:Nat}{op:Op}{k:Nat}{listed:Array Bool}{v:Value}(ao:Tm a n σ)(hi:ops[i]? =some o)(ho:al o d op)(hd:d<n)(hb:TN ops (k+1) i listed)(bU: ∀w,(execOp (ev σ) o).run P w= .ok (.value v) w)(h: ∀a',Tm a' n (rL σ d v)->TN ops k (i+1) (listed.setIfInBounds i true)->wpAny P .any ops (qt N) (k+2) (listed.setIfInBounds i true) a' w):wpAny P .any ops (qt N) (k+3) listed a w:=by have ⟨hs,hb⟩:=hb;simp only [NZ,bD] at hb;have ⟨⟨h1,h2⟩,h3⟩:=hb;refine wpAny_take hi hs h1 h2 (λc a w hq=>hq.elim) (v:=v) (.inl (by grind [afy,ho.guard,ao.eval])) ?_;rw [ho.dst];exact h _ (ao.put hd v) ⟨hs,h3⟩
def Tm.auX {N:Act->World->Prop}{i d d2:Nat}{op op2:Op}{o2:Oper}{listed:Array Bool}{v v2:Value}(ao:Tm a n σ)(hi:ops[i]? =some o)(ho:al o d op)(hd:d<n)(hi2:ops[i+1]? =some o2)(dO:al o2 d2 op2)(hd2:d2<n)(hb:TN ops 0 i listed)(bU:(execOp (ev σ) o).run P w= .ok (.value v) w')(R3:(execOp (ev (rL σ d v)) o2).run P w'= .ok (.value v2) w')(h: ∀a',Tm a' n (rL (rL σ d v) d2 v2)->N a' w'):wpAny P .any ops (qt N) 2 listed a w:=by have ⟨hs,hb⟩:=hb;simp only [NZ,bD,List.isEmpty_iff,beq_iff_eq] at hb;have ⟨⟨h1,h2⟩,h3⟩:=hb;refine wpAny_all h1 abu ?_;intro j hj;simp at hj;subst hj;unfold wpOp;simp only [hi,afy,ho.guard,if_true];left;unfold amt;rw [ao.eval,bU,akO,ho.dst];have ahI:=ao.put hd v;refine wpAny_all h2 abu ?_;intro q hq;simp at hq;subst hq;unfold wpOp;simp only [hi2,afy,dO.guard,if_true];left;unfold amt;rw [ahI.eval,R3,akO,dO.dst];exact wpAny_done h3 (h _ (ahI.put hd2 v2)) 0
def ahJ {id k:Nat}(hm:P.follows .mixedOrders=true)(hb:ZT ops=true)(hk:ops.size=k+2)(h:TN ops k 0 (sh (k+2) false)->wpAny P .any ops (qt λa w=>Q .normal a w) (k+2) (sh (k+2) false) a {w with drawn:=w.drawn+1}): (ak3 id ops true).wp P Q a w:=by simp only [ZT,bD] at hb;rw [hk] at hb;refine alQ ?_ (wp_region_any (Q:=qt λa w=>Q .normal a w) hm (by rw [hk];exact h ⟨hb.1.1,hb.2⟩));intro x a' w' hx;cases x<;>first|exact hx|exact hx.elim
def Sa {d:Nat}{t el:TypeId}{x y z m3:Operand}{e:Operand->Value}{ad:Option Addr}{m c l h k:Nat}{i:TypeInfo}(ho:al o d (.slice t x (some y) (some z) (some m3)))(hu:P.underlying t=some (.slice el))(hi:P.info? el=some i)(hx:e x= .slice ad m c)(hy:e y= .int .i64 l)(hz:e z= .int .i64 h)(hm:e m3= .int .i64 k)(h1:l<=h)(h2:h<=k)(h3:k<=c)(w:World):(execOp e o).run P w= .ok (.value (.slice (if k=l then ad else ad.map (·.add (l *i.size))) (h-l) (k-l))) w:=by simp [execOp,ho.op,akJ,ak2,run_underlying hu,hx,hy,hz,hm,aie,typeInfo,hi,ait,akt,asIntOf,h1,h2,h3]
def Xd {d:Nat}{t el:TypeId}{x y z:Operand}{e:Operand->Value}{ad:Option Addr}{m c l h size:Nat}{i:TypeInfo}(ho:al o d (.slice t x (some y) (some z) none))(hu:P.underlying t=some (.slice el))(hi:P.info? el=some i)(hs:i.size=size)(hx:e x= .slice ad m c)(hy:e y= .int .i64 l)(hz:e z= .int .i64 h)(h1:l<=h)(h2:h<=c)(w:World):(execOp e o).run P w= .ok (.value (.slice (if c=l then ad else ad.map (·.add (l *size))) (h-l) (c-l))) w:=by simp [execOp,ho.op,akJ,ak2,run_underlying hu,hx,hy,hz,aie,typeInfo,hi,hs,ait,akt,asIntOf,h1,h2]
def abX {x:Operand}{t1:TypeId}{e:Operand->Value}{v1 v:Value}(ho:gX o (.call {callee:= .builtin .clear,args:= #[x],argTypes:= #[t1]})) (hx:e x=v1) (h:(akn #[t1] o.type #[v1]).run P w= .ok v w'):(execOp e o).run P w= .ok (.value v) w':=by simp [execOp,ho.op,resolve,invoke,builtin,hx,h]
def CG {t ty elem t2:TypeId}{g off n c size:Nat}{z:Value}{dp:Array Value}{i:TypeInfo}(hu:P.underlying t=some (.slice elem))(hi:P.info? elem=some i)(hz:i.zero=some z)(Tb:z.cells.size=size)(h1: ∀v∈z.cells.toList,v.oneCell'=true)(hg:w.heap[g]? =some (.cells dp t2 (0,0)))(hn:0<n)(EO:off+n *size<=dp.size): ∃zs:List Value,zs.length=n *size/\(akn #[t] ty #[.slice (some ⟨g,off,none⟩) n c]).run P w= .ok (.tuple #[]) (w.setRow g (dp.toList.take off++zs++dp.toList.drop (off+zs.length)).toArray):=by
 refine ⟨(aec z.cells n).toList,?_,?_⟩
 .grind [aec]
 .have hl:(aec z.cells n).toList.length=n *size:=by simp [aec,Tb]
  have fw:=run_storeCells_at P g off t2 (aec z.cells n).toList 0 dp w hg (by grind) (by
   intro v hv;simp only [aec,Array.toList_map,List.mem_map,Array.mem_toList_iff,Array.mem_range] at hv;obtain ⟨j,hj,rfl⟩:=hv;have gq:0<z.cells.size:=by
    rcases Nat.eq_zero_or_pos z.cells.size with h0|h0
    .grind
    .exact h0
   have dX:j%z.cells.size<z.cells.size:=Nat.mod_lt _ gq;grind)
  obtain ⟨m,rfl⟩: ∃m,n=m+1:=⟨n-1,aab⟩
  simp_all [akn,run_underlying,zeroValue,typeInfo]
end
theorem iY {w:World}{g:Nat}{dp:Array Value}{t:TypeId}{fr:Nat×Nat}(cs:Array Value)(hg:w.heap[g]? =some (.cells dp t fr)):(w.setRow g cs).heap[g]? =some (.cells cs t fr):=by simp [afL,Array.getElem?_modify,hg]
def Ho (r:Nat->Nat)(o:Nat->Oper):Code:= .seq (.region (r 0) #[o 0] false) (.seq (.region (r 1) #[o 1,o 2,o 3,o 4,o 5,o 6] false) (.seq (.seq (.region (r 2) #[o 7,o 8,o 9] false) (.cond (.tmp 16) (.seq (.region (r 3) #[o 10,o 11] false) .ret) .skip)) (.seq (.region (r 4) #[o 12,o 13,o 14] false) (.seq (.region (r 5) #[o 15,o 16,o 17,o 18,o 19,o 20,o 21,o 22] true) (.seq (.region (r 6) #[o 23,o 24,o 25,o 26,o 27,o 28] false) (.seq (.region (r 7) #[o 29,o 30] false) .ret))))))
structure aqS (t ti:Nat) (o:Nat->Oper):Prop where
 h0:al (o 0) 6 (.assign (.const (.slice none 0 0)))
 h1:al (o 1) 8 (.move (.tmp 0))
 h2:al (o 2) 9 (.move (.tmp 1))
 h3:al (o 3) 10 (.move (.tmp 2))
 h4:al (o 4) 11 (.move (.tmp 0))
 h5:al (o 5) 12 (.call {callee:= .builtin .len,args:= #[.tmp 11],argTypes:= #[t]})
 h6:al (o 6) 13 (.slice t (.tmp 8) (some (.tmp 9)) (some (.tmp 10)) (some (.tmp 12)))
 h7:al (o 7) 14 (.move (.tmp 1))
 h8:al (o 8) 15 (.move (.tmp 2))
 h9:al (o 9) 16 (.binOp .eql ti (.tmp 14) (.tmp 15) ti)
 Hi:al (o 10) 17 (.move (.tmp 0))
 QK:al (o 11) 6 (.assign (.tmp 17))
 Qo:al (o 12) 18 (.move (.tmp 0))
 R6:al (o 13) 19 (.call {callee:= .builtin .len,args:= #[.tmp 18],argTypes:= #[t]})
 TH:al (o 14) 7 (.assign (.tmp 19))
 NX:al (o 15) 20 (.move (.tmp 0))
 Mh:al (o 16) 21 (.move (.tmp 1))
 TJ:al (o 17) 22 (.slice t (.tmp 20) none (some (.tmp 21)) none)
 VP:al (o 18) 23 (.move (.tmp 0))
 W9:al (o 19) 24 (.move (.tmp 2))
 YZ:al (o 20) 25 (.slice t (.tmp 23) (some (.tmp 24)) none none)
 VQ:al (o 21) 26 (.call {callee:= .builtin .append,args:= #[.tmp 22,.tmp 25],argTypes:= #[t,t]})
 Y0:al (o 22) 0 (.assign (.tmp 26))
 TL:al (o 23) 27 (.move (.tmp 0))
 Xa:al (o 24) 28 (.move (.tmp 0))
 R7:al (o 25) 29 (.call {callee:= .builtin .len,args:= #[.tmp 28],argTypes:= #[t]})
 ZR:al (o 26) 30 (.move (.tmp 7))
 h27:al (o 27) 31 (.slice t (.tmp 27) (some (.tmp 29)) (some (.tmp 30)) none)
 h28:gX (o 28) (.call {callee:= .builtin .clear,args:= #[.tmp 31],argTypes:= #[t]})
 h29:al (o 29) 32 (.move (.tmp 0))
 h30:al (o 30) 6 (.assign (.tmp 32))
 d5:ZT #[o 15,o 16,o 17,o 18,o 19,o 20,o 21,o 22]=true
structure Xe (P:Program) (f t ti el:Nat) (fn:Func) (r:Nat->Nat) (o:Nat->Oper):Prop where
 pos:P.funcs[f]? =some fn
 name:(fn.name== "runtime.NumGoroutine")=false
 tmps:fn.ntmps=33
 res:fn.results= #[.tmp 6]
 body:fn.body=some (Ho r o)
 ops:aqS t ti o
 mix:P.follows .mixedOrders=true
 Ab:P.underlying t=some (.slice el)
section
variable {P:Program}{f t ti el:Nat}{fn:Func}{r:Nat->Nat}{o:Nat->Oper}{ie:TypeInfo}{size n c i j g:Nat}{ad:Option Addr}{w:World}
def abY {a:Act}{w:World} {σ:Nat->Value}{R:Ending->World->Prop}{v:Value}(hr:fn.results= #[.tmp 6])(ao:Tm a 33 σ)(h6:σ 6=v)(h:R (.returned v) w):bodyPost P fn R .ret a w:=by
 refine ⟨ao.defers,v,?_,h⟩;have h2:a.tmps[6]?.getD undef=v:=by have:=ao.get 6;rw [h6] at this;simpa using this
 simp_all [results]
def ahK (hf:Xe P f t ti el fn r o)(rG:P.info? el=some ie)(hn:n<=c)(hi:i<=n): Calls P f #[.slice ad n c,.int .i64 ((i:Nat):Int),.int .i64 ((i:Nat):Int)] w λx w'=>x= .returned (.slice ad n c)/\w'=w:=by
 refine calls_of_wp hf.pos hf.body ?_;rw [hf.tmps];have key: ∀a:Act,Tm a 33 (rL (rL (rL (λ_=>undef) 0 (.slice ad n c)) 1 (.int .i64 ((i:Nat):Int))) 2 (.int .i64 ((i:Nat):Int)))->(Ho r o).wp P (bodyPost P fn λx w'=>x= .returned (.slice ad n c)/\w'=w) a w:=by intro a ao;unfold Ho;refine wp_seq (wp_region ?_);refine ao.yU hf.ops.h0 λa ao=> ?_;refine wp_seq (wp_region ?_);refine ao.mv hf.ops.h1 λa ao=> ?_;refine ao.mv hf.ops.h2 λa ao=> ?_;refine ao.mv hf.ops.h3 λa ao=> ?_;refine ao.mv hf.ops.h4 λa ao=> ?_;refine ao.st hf.ops.h5 (n8 hf.ops.h5 hf.Ab rfl) λa ao=> ?_;refine ao.step rfl hf.ops.h6 abq (Sa hf.ops.h6 hf.Ab rG rfl rfl rfl rfl (afx _) hi hn _) (λa ao=> ?_);refine wp_seq ?_;refine wp_seq (wp_region ?_);refine ao.mv hf.ops.h7 λa ao=> ?_;refine ao.mv hf.ops.h8 λa ao=> ?_;refine ao.st hf.ops.h9 (pj hf.ops.h9 rfl rfl) λa ao=> ?_;refine ao.cond (b:=true) (by show IN (decide (((i:Nat):Int)=((i:Nat):Int)))=_;grind) ?_;simp only [if_true];refine wp_seq (wp_region ?_);refine ao.mv hf.ops.Hi λa ao=> ?_;refine ao.yU hf.ops.QK λa ao=> ?_;refine wp_ret ?_;show bodyPost P fn (λx wq=>x= .returned (.slice ad n c)/\wq=w) .ret a w;refine abY hf.res ao (v:= .slice ad n c) rfl ?_;exact ⟨rfl,rfl⟩
 grind [tm3]
theorem ahL (hf:Xe P f t ti el fn r o)(rG:P.info? el=some ie)(Ck:ie.size=size)(hn:n<=c)(hij:i<j)(hj:j<=n){w1 w2:World}(hA: ∀ty,(afH #[t,t] ty #[.slice (some ⟨g,0,none⟩) i c,.slice (if c=j then (some ⟨g,0,none⟩:Option Addr) else some ⟨g,j *size,none⟩) (n-j) (c-j)]).run P {w with drawn:=w.drawn+1}= .ok (.slice (some ⟨g,0,none⟩) (i+(n-j)) c) w1) (hC: ∀ty,(akn #[t] ty #[.slice (some ⟨g,(i+(n-j)) *size,none⟩) (n-(i+(n-j))) (c-(i+(n-j)))]).run P w1= .ok (.tuple #[]) w2): Calls P f #[.slice (some ⟨g,0,none⟩) n c,.int .i64 ((i:Nat):Int),.int .i64 ((j:Nat):Int)] w λx w'=>x= .returned (.slice (some ⟨g,0,none⟩) (i+(n-j)) c)/\w'=w2:=by
 refine calls_of_wp hf.pos hf.body ?_;rw [hf.tmps];have h0: ∀l:Nat,(⟨g,0,none⟩:Addr).add l=⟨g,l,none⟩:=λl=>by simp_all [afJ,agO]
 have key: ∀a:Act,Tm a 33 (rL (rL (rL (λ_=>undef) 0 (.slice (some ⟨g,0,none⟩) n c)) 1 (.int .i64 ((i:Nat):Int))) 2 (.int .i64 ((j:Nat):Int)))->(Ho r o).wp P (bodyPost P fn λx w'=>x= .returned (.slice (some ⟨g,0,none⟩) (i+(n-j)) c)/\w'=w2) a w:=by intro a ao;unfold Ho;refine wp_seq (wp_region ?_);refine ao.yU hf.ops.h0 λa ao=> ?_;refine wp_seq (wp_region ?_);refine ao.mv hf.ops.h1 λa ao=> ?_;refine ao.mv hf.ops.h2 λa ao=> ?_;refine ao.mv hf.ops.h3 λa ao=> ?_;refine ao.mv hf.ops.h4 λa ao=> ?_;refine ao.st hf.ops.h5 (n8 hf.ops.h5 hf.Ab rfl) λa ao=> ?_;refine ao.step rfl hf.ops.h6 abq (Sa hf.ops.h6 hf.Ab rG rfl rfl rfl rfl (Nat.le_of_lt hij) hj hn _) (λa ao=> ?_);refine wp_seq ?_;refine wp_seq (wp_region ?_);refine ao.mv hf.ops.h7 λa ao=> ?_;refine ao.mv hf.ops.h8 λa ao=> ?_;refine ao.st hf.ops.h9 (pj hf.ops.h9 rfl rfl) λa ao=> ?_;refine ao.cond (b:=false) (by show IN (decide (((i:Nat):Int)=((j:Nat):Int)))=_;grind [decide_eq_false]) ?_;simp only [AI,if_false];refine wp_skip ?_;refine wp_seq (wp_region ?_);refine ao.mv hf.ops.Qo λa ao=> ?_;refine ao.st hf.ops.R6 (n8 hf.ops.R6 hf.Ab rfl) λa ao=> ?_;refine ao.yU hf.ops.TH λa ao=> ?_;refine wp_seq (ahJ hf.mix hf.ops.d5 (k:=6) rfl λiH=> ?_);refine ao.R9 (v:= .slice (some ⟨g,0,none⟩) n c) rfl hf.ops.NX abq iH (λw=>mu hf.ops.NX _) (λa ao iH=> ?_);refine ao.R9 (v:= .int .i64 ((i:Nat):Int)) rfl hf.ops.Mh abq iH (λw=>mu hf.ops.Mh _) (λa ao iH=> ?_);refine ao.R9 (v:= .slice (some ⟨g,0,none⟩) i c) rfl hf.ops.TJ abq iH (λw=>Hm hf.ops.TJ hf.Ab rG Ck rfl rfl aab _) (λa ao iH=> ?_);refine ao.R9 (v:= .slice (some ⟨g,0,none⟩) n c) rfl hf.ops.VP abq iH (λw=>mu hf.ops.VP _) (λa ao iH=> ?_);refine ao.R9 (v:= .int .i64 ((j:Nat):Int)) rfl hf.ops.W9 abq iH (λw=>mu hf.ops.W9 _) (λa ao iH=> ?_);refine ao.R9 (v:= .slice (if c=j then (some ⟨g,0,none⟩:Option Addr) else some ⟨g,j *size,none⟩) (n-j) (c-j)) rfl hf.ops.YZ abq iH (λw=>by refine (CF (P:=P) hf.ops.YZ hf.Ab rG Ck (ad:=some ⟨g,0,none⟩) (m:=n) (c:=c) (l:=j) rfl rfl hj w).trans ?_;grind) (λa ao iH=> ?_);refine ao.auX (v:= .slice (some ⟨g,0,none⟩) (i+(n-j)) c) (v2:= .slice (some ⟨g,0,none⟩) (i+(n-j)) c) rfl hf.ops.VQ abq rfl hf.ops.Y0 abq iH (NW hf.ops.VQ rfl rfl (hA _)) (DZ hf.ops.Y0 _) (λa ao=> ?_);refine wp_seq (wp_region ?_);refine ao.mv hf.ops.TL λa ao=> ?_;refine ao.mv hf.ops.Xa λa ao=> ?_;refine ao.st hf.ops.R7 (n8 hf.ops.R7 hf.Ab rfl) λa ao=> ?_;refine ao.mv hf.ops.ZR λa ao=> ?_;refine ao.step (v:= .slice (some ⟨g,(i+(n-j)) *size,none⟩) (n-(i+(n-j))) (c-(i+(n-j)))) rfl hf.ops.h27 abq (by refine (Xd (P:=P) hf.ops.h27 hf.Ab rG Ck (ad:=some ⟨g,0,none⟩) (m:=i+(n-j)) (c:=c) (l:=i+(n-j)) (h:=n) rfl rfl rfl aab aab w1).trans ?_;rw [if_neg (by grind)];rw [show (some (⟨g,0,none⟩:Addr)).map (·.add ((i+(n-j)) *size))=some ⟨g,(i+(n-j)) *size,none⟩ from congrArg some (h0 _)]) (λa ao=> ?_);refine ao.aoF (v:= .tuple #[]) rfl hf.ops.h28 (abX hf.ops.h28 rfl (hC _)) ?_;refine wp_seq (wp_region ?_);refine ao.mv hf.ops.h29 λa ao=> ?_;refine ao.yU hf.ops.h30 λa ao=> ?_;refine wp_ret ?_;show bodyPost P fn (λx wq=>x= .returned (.slice (some ⟨g,0,none⟩) (i+(n-j)) c)/\wq=w2) .ret a w2;refine abY hf.res ao (v:= .slice (some ⟨g,0,none⟩) (i+(n-j)) c) rfl ?_;exact ⟨rfl,rfl⟩
 grind [tm3]
end
section
variable {P:Program}{c:Ctx}{f:Nat}
theorem Sb {t ti el:Nat}{fn:Func}{r:Nat->Nat}{o:Nat->Oper}{I E:TI}{xs:List MV}{i j:Nat}(hf:Xe P f t ti el fn r o)(hT:iz P c.ti)(hI:c.tv t=some I)(hL:I.IK=true)(hE:c.tv I.elem=some E)(hel:el=I.elem)(Jg:c.mV (c.key f)=I.elem)(hg:c.cS (c.key f)=true)(hij:i<=j)(hj:j<=xs.length):dG P c f [.fresh xs,.i .i64 i,.i .i64 j] (.fresh (xs.take i++xs.drop j)):=by
 subst hel;obtain ⟨hIt,YV⟩:=a8 hI;obtain ⟨mT,pg⟩:=a8 hE;obtain ⟨hu,E2,GV,_,gq⟩:=TI.mn (hT t I hIt) hL;rw [mT] at GV;cases GV;obtain ⟨ie,z,rG,Ck,hby,hz0,Tb⟩:=kD (hT _ E mT) pg;obtain ⟨ie2,z2,ahM,hz2,hzr⟩:=FQ hE hT;rw [rG] at ahM;cases ahM;rw [hz0] at hz2;cases hz2;have hz1: ∀v∈z.cells.toList,v.oneCell'=true:=(hzr (np c.key λ_ _=>none)).cells;intro φ W Z vs hz dx iA;simp only [cR,hg,if_true] at dx;obtain ⟨v0,v1,v2,xs',m1,m2,rfl,Tv,aBY,F0,A1,A2⟩:=(dx.resolve_left (by
  grind)).resolve_right (by
  rintro ⟨pos,_,_,_,_,_,_,_,h1,_⟩;grind)
 simp only [aky,MV.fresh.injEq,and_true] at Tv;obtain ⟨rfl,rfl,rfl⟩:=Tv;have num: ∀{v:Value} {n:Nat},cQ c.key φ v (.i .i64 (n:Int))->v= .int .i64 (n:Int):=by intro v n h;obtain ⟨_,h⟩:=h;generalize EN:[v]=l at h;cases h;simpa using EN
 have hv1:=num A1;have hv2:=num A2;subst hv1;subst hv2;rw [Jg] at F0;obtain ⟨I0,cells,hI0,_,zi,xW,R8⟩:=F0;have hI0:c.ti I.elem=some I0:=hI0;rw [mT] at hI0;cases hI0;have zi:W.ownsRow 0 I.elem E.size v0 xs.length cells:=zi;have xW:bn c.key φ E.size cells xs:=xW;have hv0: ∀b,v0.ownBlock=some b->Z b/\ ∀off,φ b off=none:=by
  intro b hb;refine ⟨(R8 b hb).1,λoff=> ?_⟩;cases h:φ b off with
  |none=>rfl
  |some u=>have:=((R8 b hb).2.1 off u h).1;cases this
 have ER:cells.length=xs.length *E.size:=xW.length;have bU:(callFunc f [v0,.int .i64 (i:Int),.int .i64 (j:Int)].toArray).run P W= .ok (.enter f #[v0,.int .i64 (i:Int),.int .i64 (j:Int)]) W:=by
  have Me: ¬fn.name= "runtime.NumGoroutine" :=by simpa using hf.name
  simp [callFunc,hf.pos,Me,hf.body]
 unfold dF;rw [bU];rcases Nat.lt_or_ge i j with dX|hge
 .
  obtain ⟨g,cp,dp,rfl,_,hg0,Zu,Ls,Ci,YW⟩: ∃g cp dp,v0= .slice (some ⟨g,0,none⟩) xs.length cp/\0<=g/\W.heap[g]? =some (.cells dp I.elem (0,0))/\xs.length<=cp/\cp<=maxLen/\dp.size=cp *E.size/\dp.toList.take (xs.length *E.size)=cells:=by rcases zi.2 with ⟨_,h0⟩|h;all_goals grind
  have hl0:cells.length<=dp.size:=by rw [ER,Ci];exact (by grind)
  obtain ⟨news,aoG⟩: ∃news,news=cells.drop (j *E.size):=⟨_,rfl⟩
  have QA:news.length=(xs.length-j) *E.size:=by rw [aoG,afu,ER,akF]
  have YU: ∀u∈news,u.oneCell'=true:=λu hu=>xW.Cv u (by grind);have hmul: ∀{a b:Nat},a<=b->a *E.size<=b *E.size:=λh=>aft _ h;have aEr:i *E.size<=j *E.size:=hmul aab;have hjn:j *E.size<=xs.length *E.size:=hmul hj;have aEs:xs.length *E.size<=cp *E.size:=hmul Zu;have hlo:(i+(xs.length-j)) *E.size=i *E.size+news.length:=by rw [agK,QA]
  have M8:news.length+j *E.size=xs.length *E.size:=by rw [QA,akF];omega
  obtain ⟨ET,aoH⟩: ∃ET:Array Value,ET=(dp.toList.take (i *E.size)++news++dp.toList.drop (i *E.size+news.length)).toArray:=⟨_,rfl⟩
  have auY:dp.toList.length=dp.size:=ab2;have aoI:ET.toList.length=ET.size:=ab2;have hA: ∀ty,(afH #[t,t] ty #[.slice (some ⟨g,0,none⟩) i cp,.slice (if cp=j then (some ⟨g,0,none⟩:Option Addr) else some ⟨g,j *E.size,none⟩) (xs.length-j) (cp-j)]).run P {W with drawn:=W.drawn+1}= .ok (.slice (some ⟨g,0,none⟩) (i+(xs.length-j)) cp) (({W with drawn:=W.drawn+1}:World).setRow g ET):=by
   intro ty;have EO:i *ie.size+news.length<=dp.size:=by rw [Ck,Ci];omega
   by_cases hcj:cp=j
   .rw [if_pos hcj];refine run_append_room (P:=P) (w:={W with drawn:=W.drawn+1}) t ty I.elem ie hu rG g i cp dp hg0 ⟨g,0,none⟩ (xs.length-j) (cp-j) news (by grind) ?_ YU aab EO|>.trans ?_;all_goals grind
   .rw [if_neg hcj];refine run_append_room (P:=P) (w:={W with drawn:=W.drawn+1}) t ty I.elem ie hu rG g i cp dp hg0 ⟨g,j *E.size,none⟩ (xs.length-j) (cp-j) news (by grind) ?_ YU aab EO|>.trans ?_
    .intro q u hq;have h1:=zi.cells (g:=g) rfl (j *E.size+q) u (by grind);simp_all [afJ,agO]
    grind
  have Nb:ET.size=dp.size:=by rw [aoH];simp only [ajW,ad1,AS,afu,auY];omega
  have hg1:(({W with drawn:=W.drawn+1}:World).setRow g ET).heap[g]? =some (.cells ET I.elem (0,0)):=iY _ hg0;obtain ⟨zs,hzl,hC0⟩:=CG (P:=P) (t:=t) (ty:=0) (c:=cp-(i+(xs.length-j))) (w:=({W with drawn:=W.drawn+1}:World).setRow g ET) (off:=(i+(xs.length-j)) *E.size) (n:=xs.length-(i+(xs.length-j))) hu rG hz0 Tb hz1 hg1 aab (by grind);obtain ⟨EQ,Wm⟩: ∃EQ:Array Value,EQ=(ET.toList.take ((i+(xs.length-j)) *E.size)++zs++ET.toList.drop ((i+(xs.length-j)) *E.size+zs.length)).toArray:=⟨_,rfl⟩
  rw [<-Wm] at hC0;have hC: ∀ty,(akn #[t] ty #[.slice (some ⟨g,(i+(xs.length-j)) *E.size,none⟩) (xs.length-(i+(xs.length-j))) (cp-(i+(xs.length-j)))]).run P (({W with drawn:=W.drawn+1}:World).setRow g ET)= .ok (.tuple #[]) ((({W with drawn:=W.drawn+1}:World).setRow g ET).setRow g EQ):=λty=>hC0;refine (ahL (w:=W) hf rG Ck Zu dX hj hA hC).mono ?_;rintro x w' ⟨rfl,rfl⟩;refine ⟨_,rfl,?_⟩;have azG:zs.length=(j-i) *E.size:=by rw [hzl];congr 1;omega
  have hc2:EQ.size=dp.size:=by rw [Wm];simp only [ajW,ad1,AS,afu,aoI,Nb];rw [azG,akF,hlo];omega
  have azz:EQ.toList.take ((i+(xs.length-j)) *E.size)=cells.take (i *E.size)++cells.drop (j *E.size):=by
   rw [Wm];have l1:(ET.toList.take ((i+(xs.length-j)) *E.size)).length=(i+(xs.length-j)) *E.size:=by rw [AS,aoI,Nb,Ci,hlo];omega
   rw [show∀l:List Value,l.toArray.toList=l from λ_=>rfl,agG,afz (by grind),afv (by grind),hlo,aoH];have l2:(dp.toList.take (i *E.size)).length=i *E.size:=by rw [AS,auY,Ci];omega
   rw [show∀l:List Value,l.toArray.toList=l from λ_=>rfl,afz (by grind),afv (by grind),aoG];congr 1;rw [<-YW,alj,ahQ aab]
  have hg2:((({W with drawn:=W.drawn+1}:World).setRow g ET).setRow g EQ).heap[g]? =some (.cells EQ I.elem (0,0)):=iY _ hg1;have hrl:(xs.take i++xs.drop j).length=i+(xs.length-j):=by rw [ad1,AS,afu];omega
  refine Mi (n:=i+(xs.length-j)) (cells:=cells.take (i *E.size)++cells.drop (j *E.size)) hz iA mT pg Jg ?_ ?_ ?_ hv0 ?_ hrl ((xW.take i).append (xW.drop j)) ?_
  .intro b _ eR;have hbg:b≠g:=λe=>eR (by rw [e];rfl);grind [setRow_other]
  .simp [afL]
  .have r1:Rest W ({W with drawn:=W.drawn+1}:World):=⟨rfl,rfl,rfl⟩
   exact (r1.trans (Rest.setRow _ g ET)).trans (Rest.setRow _ g EQ)
  .refine ⟨?_,(by grind)⟩;grind
  .intro b hb;exact .inl hb
 .
  have hji:j=i:=aab
  subst hji;have ⟨ad,cp,hv,Zu⟩: ∃ad cp,v0= .slice ad xs.length cp/\xs.length<=cp:=by rcases zi.2 with ⟨h1,h2⟩|⟨g,cp,dp,h1,_,_,h4,_⟩;all_goals grind
  subst hv;refine (ahK (w:=W) (ad:=ad) hf rG Zu hj).mono ?_;rintro x w' ⟨rfl,rfl⟩;refine ⟨_,rfl,φ,⟨.refl _,λ_ _ _=>rfl,λ_ _ _=>rfl,afx _,.refl _⟩,iA,?_⟩;show ch c (bC.plain Z) (np c.key φ) w' _ ⟨c.mV (c.key f),false,xs.take j++xs.drop j⟩;rw [Jg,akT];exact ⟨E,cells,mT,pg,zi,xW,R8⟩
end
def uV:List MV->Option MV
 |[.fresh xs,.i .i64 i,.i .i64 j]=>bif decide (0<=i)&&(decide (i<=j)&&decide (j<=(xs.length:Int))) then some (.fresh (xs.take i.toNat++xs.drop j.toNat)) else none
 |_=>none
def Hp {ms:List MV}{r:MV}(h:uV ms=some r): ∃xs i j,ms=[.fresh xs,.i .i64 ((i:Nat):Int),.i .i64 ((j:Nat):Int)]/\r= .fresh (xs.take i++xs.drop j)/\i<=j/\j<=xs.length:=by unfold uV at h;grind
section
variable {P:Program}{Q:Exit->Act->World->Prop}{ops:Array Oper}{o:Oper}{a:Act}{w w':World}{n:Nat}{σ:Nat->Value}
theorem tm2 (v0 v1:Value)(k:Nat):Tm {tmps:= #[v0,v1]++sh k undef,defers:=[]} (k+2) (rL (rL (λ_=>undef) 0 v0) 1 v1):=by
 refine ⟨rfl,by grind,λq=> ?_⟩;by_cases h0:q=0
 .subst h0;show (#[v0,v1]++sh k undef).getD 0 undef=v0;simp [OF]
 by_cases h1:q=1
 .subst h1;show (#[v0,v1]++sh k undef).getD 1 undef=v1;simp [OF]
 have e: ∀{x y:Nat},x≠y->ac4 x y=false:=(by grind [ac4,absurd,AT])
 simp only [rL,e h0,e h1,cond_false];simp [OF,afT,show¬q<2 by omega];grind
def Tm.call {i d:Nat}{op:Op}{rest:List Nat}{f:Nat}{args:Array Value}{Rp:Value->World->Prop}(ao:Tm a n σ)(hi:ops[i]? =some o)(ho:al o d op)(hd:d<n)(bU:(execOp (ev σ) o).run P w=(callFunc f args).run P w)(hc:dF P f args w Rp)(h: ∀v w' a',Rp v w'->Tm a' n (rL σ d v)->wpOps P ops Q rest a' w'):wpOps P ops Q (i::rest) a w:=by rw [wpOps_cons];unfold wpOp;simp only [hi,afy,ho.guard,if_true];left;refine y8 (by grind [ao.eval]) hc ?_;intro v w' hr;rw [ho.dst];exact h v w' _ hr (ao.put hd v)
def TP {d:Nat}{t el:TypeId}{x y:Operand}{e:Operand->Value}{g n c j size:Nat}{i:TypeInfo}(ho:al o d (.indexAddr t x y))(hu:P.underlying t=some (.slice el))(hi:P.info? el=some i)(hs:i.size=size)(hx:e x= .slice (some ⟨g,0,none⟩) n c)(hy:e y= .int .i64 ((j:Nat):Int))(hj:j<n)(w:World):(execOp e o).run P w= .ok (.value (.pointer (some ⟨g,j *size,none⟩))) w:=by
 have h2: ¬n<=j:=aab
 simp [execOp,ho.op,hx,hy,anV,asIntOf,run_underlying hu,h2,aie,typeInfo,hi,hs,afJ]
def Mj {c:Ctx}{d:Nat}{t:TypeId}{I:TI}{x:Operand}{e:Operand->Value}{g off:Nat}{vs:List Value}(ho:al o d (.load t x))(hr:pU c.ti P t I)(hc:I.cy=[])(fw:I.st=true)(hl:vs.length=I.size)(hx:e x= .pointer (some ⟨g,off,none⟩))(hm:w.rangeAt g off vs):(execOp e o).run P w= .ok (.value (.agg vs.toArray)) w:=by rcases ja (P:=P) hr hc hl hm with ⟨_,h⟩|⟨h,_⟩;all_goals simp_all [execOp,ho.op]
def Mk {d:Nat}{t:TypeId}{e:Operand->Value}{i:TypeInfo}{z:Value}(ho:al o d (.alloc t))(hi:P.info? t=some i)(hz:i.zero=some z)(w:World): (execOp e o).run P w= .ok (.value (.pointer (some ⟨w.heap.size,0,none⟩))) (w.alloc (.cells z.cells t)):=by simp [execOp,ho.op,Instr.alloc,zeroValue,typeInfo,hi,hz,newVar,newRow,newObj,Sem.run]
def Hq {c:Ctx}{t:TypeId}{I:TI}{x y:Operand}{e:Operand->Value}{g off:Nat}{v:Value}{arr:Array Value}{T:TypeId}(ho:gX o (.store t x y))(hr:pU c.ti P t I)(hc:I.cy=[])(hx:e x= .pointer (some ⟨g,off,none⟩))(hy:e y=v)(hs:v.cells.toList.length=I.size)(lB: ∀u∈v.cells.toList,u.oneCell'=true)(cD:w.heap[g]? =some (.cells arr T (0,0)))(EO:off+I.size<=arr.size): (execOp e o).run P w= .ok .skip (w.setRow g (arr.toList.take off++v.cells.toList++arr.toList.drop (off+I.size)).toArray):=by have:=pf (P:=P) (w:=w) hr hc hs lB cD EO;simp_all [execOp,ho.op]
def Tm.CH {i:Nat}{op:Op}{rest:List Nat}(ao:Tm a n σ)(hi:ops[i]? =some o)(ho:gX o op)(bU:(execOp (ev σ) o).run P w= .ok .skip w')(h:wpOps P ops Q rest a w'):wpOps P ops Q (i::rest) a w:=by rw [wpOps_cons];unfold wpOp;simp only [hi,afy,ho.guard,if_true];left;unfold amt;rw [ao.eval,bU];simp only [Oper.upon];rw [ho.dst];exact h
def N0 {d:Nat} {t t':TypeId}{x y:Operand}{e:Operand->Value}{p q:Int}(ho:al o d (.binOp .lss t x y t'))(hx:e x= .int .i64 p)(hy:e y= .int .i64 q)(w:World): (execOp e o).run P w= .ok (.value (.bool (decide (p<q)))) w:=zh ho hx hy (λw=>by simp [Go.binOp,Op.intCmp]) w
def abZ {d:Nat}{x y:Operand}{t:Array TypeId}{e:Operand->Value}{g:Nat}{lb:Array Value}{v:Value}(ho:al o d (.call {callee:= .value x,args:= #[y],argTypes:=t})) (hx:e x= .func (.func g) #[] lb) (hy:e y=v) (w:World): (execOp e o).run P w=(callFunc g (#[v]++lb)).run P w:=by grind [execOp,ho.op,resolve,invoke,afD]
def alU {d:Nat}{x y:Operand}{t:Array TypeId}{e:Operand->Value}{g:Nat}{v u:Value}(ho:al o d (.call {callee:= .value (.func g),args:= #[x,y],argTypes:=t})) (he:e (.func g)= .func (.func g) #[] #[]) (hx:e x=v) (hy:e y=u) (w:World): (execOp e o).run P w=(callFunc g #[v,u]).run P w:=by grind [execOp,ho.op,resolve,invoke,afD]
end
def TQ (r:Nat->Nat)(o:Nat->Oper):Code:= .seq (.region (r 0) #[o 0] false) (.seq (.seq (.region (r 1) #[o 1,o 2,o 3] false) (.block 0 (.loop (.seq (.region (r 2) #[o 4] false) (.seq (.cond (.tmp 9) .skip (.exit 0)) (.seq (.block 1 (.seq (.region (r 3) #[o 5,o 6] false) (.seq (.region (r 4) #[o 7,o 8,o 9,o 10,o 11,o 12] false) (.cond (.tmp 16) (.seq (.region (r 5) #[o 13,o 14] false) .ret) .skip)))) (.region (r 6) #[o 15,o 16] false))))))) (.seq (.region (r 7) #[o 17] false) .ret))
structure aqU (t el ti:Nat) (o:Nat->Oper):Prop where
 h0:al (o 0) 4 (.assign (.const (.int .i64 0)))
 h1:al (o 1) 6 (.move (.tmp 0))
 h2:al (o 2) 7 (.call {callee:= .builtin .len,args:= #[.tmp 6],argTypes:= #[t]})
 h3:al (o 3) 8 (.move (.const (.int .i64 0)))
 h4:al (o 4) 9 (.binOp .lss ti (.tmp 8) (.tmp 7) ti)
 h5:al (o 5) 10 (.move (.tmp 8))
 h6:al (o 6) 5 (.assign (.tmp 10))
 h7:al (o 7) 11 (.move (.tmp 1))
 h8:al (o 8) 12 (.move (.tmp 0))
 h9:al (o 9) 13 (.move (.tmp 5))
 Hi:al (o 10) 14 (.indexAddr t (.tmp 12) (.tmp 13))
 QK:al (o 11) 15 (.load el (.tmp 14))
 Qo:al (o 12) 16 (.call {callee:= .value (.tmp 11),args:= #[.tmp 15],argTypes:= #[el]})
 R6:al (o 13) 17 (.move (.tmp 5))
 TH:al (o 14) 4 (.assign (.tmp 17))
 NX:al (o 15) 18 (.binOp .add ti (.tmp 8) (.const (.int .i64 1)) ti)
 Mh:al (o 16) 8 (.move (.tmp 18))
 TJ:al (o 17) 4 (.assign (.const (.int .i64 (-1))))
structure ahN (P:Program) (f t ti el:Nat) (fn:Func) (r:Nat->Nat) (o:Nat->Oper):Prop where
 pos:P.funcs[f]? =some fn
 name:(fn.name== "runtime.NumGoroutine")=false
 tmps:fn.ntmps=19
 res:fn.results= #[.tmp 4]
 body:fn.body=some (TQ r o)
 ops:aqU t el ti o
 Ab:P.underlying t=some (.slice el)
def TR {P:Program}{fn:Func}{n:Nat}{a:Act}{w:World} {σ:Nat->Value}{R:Ending->World->Prop}{v:Value}(hr:fn.results= #[.tmp 4])(ao:Tm a n σ)(h6:σ 4=v)(h:R (.returned v) w):bodyPost P fn R .ret a w:=by
 refine ⟨ao.defers,v,?_,h⟩;have h2:a.tmps[4]?.getD undef=v:=by have:=ao.get 4;rw [h6] at this;simpa using this
 simp_all [results]
def Xf {key:Nat->Nat} {φ:Ph}{size:Nat}{xs:List MV}{cells:List Value}(h:bn key φ size cells xs){k:Nat}(hk:k<xs.length): ((cells.drop (k *size)).take size).length=size/\jI key φ ((cells.drop (k *size)).take size) xs[k]:=by have ⟨p1,v1,p2,he,I7,xO,fG⟩:=h.at (ahE hk);grind
def N1 {key:Nat->Nat} {φ:Ph}{vs:List Value}{x:MV}(h:jI key φ vs x){ms:List MV}(hx:x= .agg ms):cQ key φ (.agg vs.toArray) x:=by
 subst hx;cases h with
 |agg _ _ h=>exact ⟨vs.toArray,rfl,by simpa using h⟩
section
variable {P:Program}{c:Ctx}{f t ti el:Nat}{fn:Func}{r:Nat->Nat}{o:Nat->Oper}{E:TI}{n cp g0 g:Nat}{ad:Option Addr}{ob:Option Nat}{w:World}{lb:Array Value}{S:Type}{Inv:S->(Nat->Prop)->Ph->World->Prop}{step:S->MV->Option (Bool×S)}
theorem ahO (hf:ahN P f t ti el fn r o)(hp:Ay P c g lb Inv step)(hT:iz P c.ti)(hE:c.tv el=some E)(fw:E.st=true){xs:List MV}{cells:List Value}{dp:Array Value}{T:TypeId} {φ0:Ph}{Z0:Nat->Prop} {s0 s':S}{ys:List MV}(NQ: ∀x∈xs,∃ms,x= .agg ms)(had:0<xs.length->ad=some ⟨g0,0,none⟩/\ob=some g0/\w.heap[g0]? =some (.cells dp T (0,0))/\dp.toList.take (xs.length *E.size)=cells)(hg0: ∀b,ob=some b-> ¬Z0 b/\b<w.heap.size/\ ∀off,φ0 b off=none)(kp:bn c.key φ0 E.size cells xs)(auZ:xs.length<2^63)(hinv:Inv s0 Z0 φ0 w)(ml: ∀b,w.heap.size<=b->Z0 b)(iA:oN φ0 w)(hd:rZ step s0 xs=some (ys,s')): Calls P f #[.slice ad xs.length cp,.func (.func g) #[] lb] w λe W=> ∃Z φ,(∀b,ob=some b->W.heap[b]? =w.heap[b]?)/\ ((e= .returned (.int .i64 (-1))/\ys=xs/\ES c ob Inv Z0 φ0 w s' Z φ W)\/ ∃k,∃hk:k<xs.length,∃sk,e= .returned (.int .i64 (k:Int))/\rZ step s0 (xs.take (k+1))=some (xs.take k,sk)/\ES c ob Inv Z0 φ0 w sk Z φ W):=by
 have ⟨mT,pg⟩:=a8 hE;have ⟨ie,z,rG,Ck,hby,hz0,Tb⟩:=kD (hT _ E mT) pg;refine calls_of_wp hf.pos hf.body ?_;rw [hf.tmps];generalize aoJ:(λ(e:Ending) (W:World)=> ∃Z φ,(∀b,ob=some b->W.heap[b]? =w.heap[b]?)/\ ((e= .returned (.int .i64 (-1))/\ys=xs/\ES c ob Inv Z0 φ0 w s' Z φ W)\/ ∃k,∃hk:k<xs.length,∃sk,e= .returned (.int .i64 (k:Int))/\rZ step s0 (xs.take (k+1))=some (xs.take k,sk)/\ES c ob Inv Z0 φ0 w sk Z φ W))=aqV;have key: ∀a:Act,Tm a 19 (rL (rL (λ_=>undef) 0 (.slice ad xs.length cp)) 1 (.func (.func g) #[] lb))->(TQ r o).wp P (bodyPost P fn aqV) a w:=by
  intro a ao;unfold TQ;refine wp_seq (wp_region ?_);refine ao.yU hf.ops.h0 λa ao=> ?_;refine wp_seq (wp_seq (wp_region ?_));refine ao.mv hf.ops.h1 λa ao=> ?_;refine ao.st hf.ops.h2 (n8 hf.ops.h2 hf.Ab rfl) λa ao=> ?_;refine ao.mv hf.ops.h3 λa ao=> ?_;refine wp_block (wp_loop (λa W=> ∃σ,Tm a 19 σ/\σ 0= .slice ad xs.length cp/\σ 1= .func (.func g) #[] lb/\σ 7= .int .i64 ((xs.length:Nat):Int)/\ ∃k:Nat,k<=xs.length/\σ 8= .int .i64 (k:Int)/\ (∀b,ob=some b->W.heap[b]? =w.heap[b]?)/\ ∃s Z φ,rZ step s0 (xs.take k)=some (xs.take k,s)/\ES c ob Inv Z0 φ0 w s Z φ W) (λa W=>match a.tmps.getD 8 undef with| .int _ k=>xs.length-k.toNat|_=>0) ?_ ?_)
  .refine ⟨_,ao,rfl,rfl,rfl,0,afN _,rfl,λ_ _=>rfl,s0,Z0,φ0,rfl,⟨hinv,ml,λb hb=> .inl hb,iA,.refl _ _ _,(by grind)⟩⟩
  .rintro a W ⟨σ,ao,h0,h1,h7,k,hk,h8,Lx,s,Z,φ,hdk,hW⟩;refine wp_seq (wp_region ?_);have hm8:(match a.tmps.getD 8 undef with| .int _ k=>xs.length-k.toNat|_=>0)=xs.length-k:=by rw [ao.get 8,h8];simp
   refine ao.st hf.ops.h4 (N0 hf.ops.h4 h8 h7) λa ao=> ?_;refine wp_seq ?_;by_cases dX:k<xs.length;rotate_left
   .refine ao.cond (b:=false) (by show IN (decide ((k:Int)<(xs.length:Int)))=_;grind) ?_;refine wp_exit ?_;refine wp_seq (wp_region ?_);refine ao.yU hf.ops.TJ λa ao=> ?_;refine wp_ret ?_;refine TR hf.res ao (v:= .int .i64 (-1)) rfl ?_;grind
   .refine ao.cond (b:=true) (by show IN (decide ((k:Int)<(xs.length:Int)))=_;grind) ?_;refine wp_skip ?_;have ⟨aqW,hob,cD,bN⟩:=had aab;have h0':=h0;rw [aqW] at h0';have ⟨yk,sk,b,sk',e1,e2,e3⟩:=abL hd dX;rw [hdk] at e1;simp at e1;have ⟨rfl,rfl⟩:=e1;have ahP:=kp.mono hW.tr.ph;have ⟨hl,fG⟩:=Xf ahP dX;have aqX:W.rangeAt g0 (k *E.size) ((cells.drop (k *E.size)).take E.size):=by
     intro j v hj;have M7:j<E.size:=by have:=(ahB.1 hj).1;omega
     have hW0:W.heap[g0]? =some (.cells dp T (0,0)):=(Lx g0 hob).trans cD;rw [cell_of hW0,<-akr];rw [ahF M7,afE,<-bN,agu] at hj;split at hj
     .exact hj
     .cases hj
    have ⟨ms,Tv⟩:=NQ _ (akL dX);have ZN:cQ c.key φ (.agg ((cells.drop (k *E.size)).take E.size).toArray) xs[k]:=N1 fG Tv;refine wp_seq (wp_block ?_);refine wp_seq (wp_region ?_);refine ao.mv (hv:=h8) hf.ops.h5 λa ao=> ?_;refine ao.yU hf.ops.h6 λa ao=> ?_;refine wp_seq (wp_region ?_);refine ao.mv (hv:=h1) hf.ops.h7 λa ao=> ?_;refine ao.mv (hv:=h0') hf.ops.h8 λa ao=> ?_;refine ao.mv hf.ops.h9 λa ao=> ?_;refine ao.step rfl hf.ops.Hi abq (TP hf.ops.Hi hf.Ab rG Ck rfl rfl dX _) (λa ao=> ?_);refine ao.step rfl hf.ops.QK abq (Mj hf.ops.QK (hT _ E mT) pg fw hl rfl aqX) (λa ao=> ?_);refine ao.call rfl hf.ops.Qo abq (abZ hf.ops.Qo rfl rfl _) (hp.call hW.inv hW.new hW.mj ZN e2) ?_;rintro v W2 a ⟨rfl,φ',t1,t2,t3⟩ ao;have hnz: ∀b,ob=some b-> ¬Z b:=λb hb hz=>by rcases hW.sub _ hz with h|h;all_goals grind
    have aod: ∀b,ob=some b->W2.heap[b]? =w.heap[b]? :=λb hb=>(t1.heap b (hnz b hb) (by grind)).trans (Lx b hb);have Xc:ES c ob Inv Z0 φ0 w sk' Z φ' W2:=⟨t3,λb hb=>hW.new b (agV t1.size hb),hW.sub,t2,hW.tr.trans (t1.sup λb hb=> .inl (hW.sub b hb)),λb off hb=>by rw [t1.free b off (hnz b hb)];exact hW.free b off hb⟩
    cases b with
    |true=>refine ao.cond (b:=true) rfl ?_;refine wp_seq (wp_region ?_);refine ao.mv hf.ops.R6 λa ao=> ?_;refine ao.yU hf.ops.TH λa ao=> ?_;refine wp_ret ?_;refine TR hf.res ao (v:= .int .i64 (k:Int)) rfl ?_;grind
    |false=>
     refine ao.cond (b:=false) rfl ?_;refine wp_skip ?_;refine wp_region ?_;refine ao.st hf.ops.NX (kE (q:=1) hf.ops.NX h8 rfl aab) λa ao=> ?_;refine ao.mv hf.ops.Mh λa ao=> ?_;refine ⟨⟨_,ao,h0,h1,h7,k+1,aab,rfl,aod,sk',Z,φ',?_,Xc⟩,?_⟩
     .grind [List.take_add_one,ahE]
     .have:a.tmps.getD 8 undef= .int .i64 ((k+1:Nat):Int):=by rw [ao.get 8];rfl
      grind
 grind [tm2]
end
def lp {P:Program}{f:Nat}{fn:Func}{b:Code}{args:Array Value}{w:World}{R:Value->World->Prop}(gq:P.funcs[f]? =some fn)(zd:(fn.name== "runtime.NumGoroutine")=false)(jP:fn.body=some b)
 (h:Calls P f args w λe W=> ∃v,e= .returned v/\R v W):dF P f args w R:=by
 have bU:(callFunc f args).run P w= .ok (.enter f args) w:=by
  have Me: ¬fn.name= "runtime.NumGoroutine" :=by simpa using zd
  simp [callFunc,gq,Me,jP]
 grind [dF]
def N2 (r:Nat->Nat)(o:Nat->Oper):Code:= .seq (.region (r 0) #[o 0] false) (.seq (.region (r 1) #[o 1,o 2,o 3,o 4] false) (.seq (.seq (.region (r 2) #[o 5,o 6] false) (.cond (.tmp 12) (.seq (.region (r 3) #[o 7,o 8] false) .ret) .skip)) (.seq (.seq (.region (r 4) #[o 9,o 10,o 11] false) (.block 0 (.loop (.seq (.seq (.region (r 5) #[o 12,o 13,o 14,o 15] false) (.cond (.tmp 19) .skip (.exit 0))) (.seq (.block 1 (.seq (.region (r 6) #[o 16,o 17,o 18,o 19,o 20,o 21] false) (.seq (.region (r 7) #[o 22,o 23,o 24,o 25] false) (.cond (.tmp 29) (.seq (.region (r 8) #[o 26,o 27,o 28,o 29,o 30] false) (.region (r 9) #[o 31,o 32,o 33] false)) .skip)))) (.region (r 10) #[o 34,o 35,o 36] false)))))) (.seq (.region (r 11) #[o 37,o 38,o 39,o 40] false) (.seq (.region (r 12) #[o 41,o 42,o 43,o 44] false) .ret)))))
structure alV (t el ti tb fu fi:Nat) (o:Nat->Oper):Prop where
 h0:al (o 0) 4 (.assign (.const (.slice none 0 0)))
 h1:al (o 1) 8 (.move (.tmp 0))
 h2:al (o 2) 9 (.move (.tmp 1))
 h3:al (o 3) 10 (.call {callee:= .value (.func fi),args:= #[.tmp 8,.tmp 9],argTypes:= #[t,fu]})
 h4:al (o 4) 5 (.assign (.tmp 10))
 h5:al (o 5) 11 (.move (.tmp 5))
 h6:al (o 6) 12 (.binOp .eql ti (.tmp 11) (.const (.int .i64 (-1))) ti)
 h7:al (o 7) 13 (.move (.tmp 0))
 h8:al (o 8) 4 (.assign (.tmp 13))
 h9:al (o 9) 14 (.move (.tmp 5))
 Hi:al (o 10) 15 (.binOp .add ti (.tmp 14) (.const (.int .i64 1)) ti)
 QK:al (o 11) 6 (.assign (.tmp 15))
 Qo:al (o 12) 16 (.move (.tmp 6))
 R6:al (o 13) 17 (.move (.tmp 0))
 TH:al (o 14) 18 (.call {callee:= .builtin .len,args:= #[.tmp 17],argTypes:= #[t]})
 NX:al (o 15) 19 (.binOp .lss ti (.tmp 16) (.tmp 18) ti)
 Mh:al (o 16) 22 (.move (.tmp 0))
 TJ:al (o 17) 23 (.move (.tmp 6))
 VP:al (o 18) 24 (.indexAddr t (.tmp 22) (.tmp 23))
 W9:al (o 19) 25 (.load el (.tmp 24))
 YZ:al (o 20) 7 (.alloc el)
 VQ:gX (o 21) (.store el (.tmp 7) (.tmp 25))
 Y0:al (o 22) 26 (.move (.tmp 1))
 TL:al (o 23) 27 (.load el (.tmp 7))
 Xa:al (o 24) 28 (.call {callee:= .value (.tmp 26),args:= #[.tmp 27],argTypes:= #[el]})
 R7:al (o 25) 29 (.unOp .not tb (.tmp 28))
 ZR:al (o 26) 30 (.move (.tmp 0))
 h27:al (o 27) 31 (.move (.tmp 5))
 h28:al (o 28) 32 (.load el (.tmp 7))
 h29:al (o 29) 33 (.indexAddr t (.tmp 30) (.tmp 31))
 h30:gX (o 30) (.store el (.tmp 33) (.tmp 32))
 h31:al (o 31) 34 (.move (.tmp 5))
 Y1:al (o 32) 35 (.binOp .add ti (.tmp 34) (.const (.int .i64 1)) ti)
 h33:al (o 33) 5 (.assign (.tmp 35))
 h34:al (o 34) 20 (.move (.tmp 6))
 h35:al (o 35) 21 (.binOp .add ti (.tmp 20) (.const (.int .i64 1)) ti)
 h36:al (o 36) 6 (.assign (.tmp 21))
 h37:al (o 37) 36 (.move (.tmp 0))
 h38:al (o 38) 37 (.move (.tmp 5))
 h39:al (o 39) 38 (.slice t (.tmp 36) (some (.tmp 37)) none none)
 h40:gX (o 40) (.call {callee:= .builtin .clear,args:= #[.tmp 38],argTypes:= #[t]})
 h41:al (o 41) 39 (.move (.tmp 0))
 h42:al (o 42) 40 (.move (.tmp 5))
 h43:al (o 43) 41 (.slice t (.tmp 39) none (some (.tmp 40)) none)
 h44:al (o 44) 4 (.assign (.tmp 41))
structure ahR (P:Program) (f t ti tb fu fi el:Nat) (fn:Func) (r:Nat->Nat) (o:Nat->Oper):Prop where
 pos:P.funcs[f]? =some fn
 name:(fn.name== "runtime.NumGoroutine")=false
 tmps:fn.ntmps=42
 res:fn.results= #[.tmp 4]
 body:fn.body=some (N2 r o)
 ops:alV t el ti tb fu fi o
 Ab:P.underlying t=some (.slice el)
section
variable {P:Program}{c:Ctx}{f fi t ti tb fu el:Nat}{fn fni:Func}{r ri:Nat->Nat}{o oi:Nat->Oper}{E:TI}{cp g0 g:Nat}{ad:Option Addr}{ob:Option Nat}{w W W2:World}{lb:Array Value}{S:Type}{Inv:S->(Nat->Prop)->Ph->World->Prop}{step:S->MV->Option (Bool×S)}{Z0 Z:Nat->Prop}{φ0 φ:Ph}{s:S}
def ES.move (hp:Ay P c g lb Inv step)(hW:ES c ob Inv Z0 φ0 w s Z φ W)(yS:W.heap.size<=W2.heap.size)(ov: ∀b,b<W.heap.size->ob≠some b->W2.heap[b]? =W.heap[b]?)(vX:Rest W W2)(hnz: ∀b,ob=some b-> ¬Z b): ES c ob Inv Z0 φ0 w s (λb=>(Z b/\b<W.heap.size)\/W2.heap.size<=b) φ W2:=by
 have hws:=hW.tr.size;refine ⟨hp.mono (hp.frame hW.inv yS (by grind)) λb hb=> .inl hb,λb hb=> .inr hb,λb hb=> ?_,λb off v hv=> ?_,?_,hW.free⟩
 .rcases hb with hb|hb
  .exact hW.sub b hb.1
  grind
 .have h1:=hW.mj b off v hv;have dX:=BY W _ h1;have eR:ob≠some b:=by intro e;rw [hW.free b off e] at hv;cases hv
  grind [afK]
 .refine hW.tr.trans ⟨.refl _,λb hb dX=> ?_,λ_ _ _=>rfl,yS,vX⟩;grind
structure au1 (c:Ctx) (sz n cp:Nat) (cells:List Value) (dp:Array Value) (φ:Ph) (i j:Nat) (ys:List MV):Prop where
 size:dp.size=cp *sz
 done:bn c.key φ sz (dp.toList.take (i *sz)) ys
 len:ys.length=i
 rest:(dp.toList.take (n *sz)).drop (j *sz)=cells.drop (j *sz)
def alW (c:Ctx)(ob:Option Nat){S:Type}(Inv:S->(Nat->Prop)->Ph->World->Prop)(step:S->MV->Option (Bool×S))(Z0:Nat->Prop) (φ0:Ph)(w:World)(xs ys:List MV) (s0 s':S)(v:Value)(W:World):Prop:=∃Z φ,(∀b,ob=some b->W.heap[b]? =w.heap[b]?)/\((v= .int .i64 (-1)/\ys=xs/\ES c ob Inv Z0 φ0 w s' Z φ W)\/ ∃k,∃hk:k<xs.length,∃sk,v= .int .i64 (k:Int)/\rZ step s0 (xs.take (k+1))=some (xs.take k,sk)/\ES c ob Inv Z0 φ0 w sk Z φ W)
theorem Xg (hf:ahR P f t ti tb fu fi el fn r o)(hfi:ahN P fi t ti el fni ri oi)(hp:Ay P c g lb Inv step)(hT:iz P c.ti)(hE:c.tv el=some E)(fw:E.st=true)(gq:0<E.size){xs:List MV}{cells:List Value}{dp:Array Value} {s0 s':S}{ys:List MV}(NQ: ∀x∈xs,∃ms,x= .agg ms)(had:0<xs.length->ad=some ⟨g0,0,none⟩/\ob=some g0/\w.heap[g0]? =some (.cells dp el (0,0))/\dp.toList.take (xs.length *E.size)=cells/\xs.length<=cp/\dp.size=cp *E.size)(hg0: ∀b,ob=some b-> ¬Z0 b/\b<w.heap.size/\ ∀off,φ0 b off=none)(kp:bn c.key φ0 E.size cells xs)(auZ:xs.length<2^63)(hinv:Inv s0 Z0 φ0 w)(ml: ∀b,w.heap.size<=b->Z0 b)(iA:oN φ0 w)(hd:rZ step s0 xs=some (ys,s')): Calls P f #[.slice ad xs.length cp,.func (.func g) #[] lb] w λe W=> ∃v,e= .returned v/\ ∃Z φ,ES c ob Inv Z0 φ0 w s' Z φ W/\ ((v= .slice ad xs.length cp/\ys=xs/\ ∀b,ob=some b->W.heap[b]? =w.heap[b]?)\/ (0<xs.length/\v= .slice (some ⟨g0,0,none⟩) ys.length cp/\ ∃tu,W.heap[g0]? =some (.cells tu el (0,0))/\tu.size=cp *E.size/\bn c.key φ E.size (tu.toList.take (ys.length *E.size)) ys)):=by
 obtain ⟨mT,pg⟩:=a8 hE;obtain ⟨ie,z,rG,Ck,hby,hz0,Tb⟩:=kD (hT _ E mT) pg;obtain ⟨ie2,z2,ahM,hz2,hzr⟩:=FQ hE hT;rw [rG] at ahM;cases ahM;rw [hz0] at hz2;cases hz2;have hz1: ∀v∈z.cells.toList,v.oneCell'=true:=(hzr (np c.key λ_ _=>none)).cells;have au2:dF P fi #[.slice ad xs.length cp,.func (.func g) #[] lb] w (alW c ob Inv step Z0 φ0 w xs ys s0 s'):=by
  refine lp hfi.pos hfi.name hfi.body ((ahO hfi hp hT hE fw NQ (λh=>⟨(had h).1,(had h).2.1,(had h).2.2.1,(had h).2.2.2.1⟩) hg0 kp auZ hinv ml iA hd).mono ?_);rintro e W ⟨Z,φ,h1,h2⟩;rcases h2 with ⟨rfl,h3,h4⟩|⟨k,hk,sk,rfl,h3,h4⟩
  .exact ⟨_,rfl,Z,φ,h1,.inl ⟨rfl,h3,h4⟩⟩
  .exact ⟨_,rfl,Z,φ,h1,(by grind)⟩
 refine calls_of_wp hf.pos hf.body ?_;rw [hf.tmps];generalize aoJ:(λ(e:Ending) (W:World)=> ∃v,e= .returned v/\ ∃Z φ,ES c ob Inv Z0 φ0 w s' Z φ W/\ ((v= .slice ad xs.length cp/\ys=xs/\ ∀b,ob=some b->W.heap[b]? =w.heap[b]?)\/ (0<xs.length/\v= .slice (some ⟨g0,0,none⟩) ys.length cp/\ ∃tu,W.heap[g0]? =some (.cells tu el (0,0))/\tu.size=cp *E.size/\bn c.key φ E.size (tu.toList.take (ys.length *E.size)) ys)))=aqV;have key: ∀a:Act,Tm a 42 (rL (rL (λ_=>undef) 0 (.slice ad xs.length cp)) 1 (.func (.func g) #[] lb))->(N2 r o).wp P (bodyPost P fn aqV) a w:=by
  intro a ao;unfold N2;refine wp_seq (wp_region ?_);refine ao.yU hf.ops.h0 λa ao=> ?_;refine wp_seq (wp_region ?_);refine ao.mv hf.ops.h1 λa ao=> ?_;refine ao.mv hf.ops.h2 λa ao=> ?_;refine ao.call rfl hf.ops.h3 abq (alU hf.ops.h3 rfl rfl rfl _) au2 ?_;clear au2;rintro v W1 a1 ⟨Z,φ,Lx,qh⟩ au3;clear ao;refine au3.yU hf.ops.h4 λa2 ahI=> ?_;clear au3;refine wp_seq (wp_seq (wp_region ?_));refine ahI.mv hf.ops.h5 λa3 aqY=> ?_;clear ahI;rcases qh with ⟨rfl,rfl,hW⟩|⟨k,hk,sk,rfl,hdk,hW⟩
  .refine aqY.st hf.ops.h6 (pj hf.ops.h6 rfl rfl) λa ao=> ?_;refine ao.cond (b:=true) (by rfl) ?_;refine wp_seq (wp_region ?_);refine ao.mv hf.ops.h7 λa ao=> ?_;refine ao.yU hf.ops.h8 λa ao=> ?_;refine wp_ret ?_;refine TR hf.res ao (v:= .slice ad ys.length cp) rfl ?_;grind
  .refine aqY.st hf.ops.h6 (pj hf.ops.h6 rfl rfl) λa ao=> ?_;refine ao.cond (b:=false) (by show IN (decide ((k:Int)= -1))=_;simp_all) ?_;simp only [AI,if_false];refine wp_skip ?_;refine wp_seq (wp_seq (wp_region ?_));refine ao.mv hf.ops.h9 λa ao=> ?_;refine ao.st hf.ops.Hi (kE (q:=1) hf.ops.Hi rfl rfl aab) λa ao=> ?_;refine ao.yU hf.ops.QK λa4 au4=> ?_;clear aqY ao;obtain ⟨aqW,hob,cD,bN,azJ,azK⟩:=had aab;have hg1:=hg0 g0 hob;have azL: ∀b,ob=some b->b=g0:=(by grind)
   have hmul: ∀{a b:Nat},a<=b->a *E.size<=b *E.size:=λh=>aft _ h;refine wp_block (wp_loop (λa W=> ∃σ,Tm a 42 σ/\σ 0= .slice (some ⟨g0,0,none⟩) xs.length cp/\σ 1= .func (.func g) #[] lb/\ ∃i j:Nat,i<j/\j<=xs.length/\σ 5= .int .i64 (i:Int)/\σ 6= .int .i64 (j:Int)/\ ∃tu sj Z φ yj,W.heap[g0]? =some (.cells tu el (0,0))/\rZ step s0 (xs.take j)=some (yj,sj)/\ES c ob Inv Z0 φ0 w sj Z φ W/\au1 c E.size xs.length cp cells tu φ i j yj) (λa W=>match a.tmps.getD 6 undef with| .int _ k=>xs.length-k.toNat|_=>0) ?_ ?_)
   .refine ⟨_,au4,by show akG ad xs.length cp=_;rw [aqW],rfl,k,k+1,aab,aab,rfl,rfl,dp,sk,Z,φ,xs.take k,(Lx g0 hob).trans cD,hdk,hW,⟨azK,?_,by grind,by rw [bN]⟩⟩;have h1:=(kp.mono hW.tr.ph).take k;grind
   .clear Lx hdk hW au4 cD;rintro a W ⟨σ,ao,h0,h1,i,j,hij,hjn,h5,h6,tu,sj,Z',φ',yj,Lx,hdj,hW,hR⟩;have hm6:(match a.tmps.getD 6 undef with| .int _ k=>xs.length-k.toNat|_=>0)=xs.length-j:=by rw [ao.get 6,h6];simp
    rw [hm6];clear hm6;have hnz: ∀b,ob=some b-> ¬Z' b:=λb hb hz=>by rcases hW.sub _ hz with h|h;all_goals grind
    refine wp_seq (wp_seq (wp_region ?_));refine ao.mv (hv:=h6) hf.ops.Qo λa ao=> ?_;refine ao.mv (hv:=h0) hf.ops.R6 λa ao=> ?_;refine ao.st hf.ops.TH (n8 hf.ops.TH hf.Ab rfl) λa ao=> ?_;refine ao.st hf.ops.NX (N0 hf.ops.NX rfl rfl) λa ao=> ?_;by_cases dX:j<xs.length;rotate_left
    .
     refine ao.cond (b:=false) (by show IN (decide ((j:Int)<(xs.length:Int)))=_;grind) ?_;refine wp_exit ?_;have azM:j=xs.length:=aab
     subst azM;rw [al0,hd] at hdj;simp at hdj;have ⟨rfl,rfl⟩:=hdj;have hlen:=hR.len;have yS:=hR.size;have EO:i *E.size+(xs.length-i) *E.size<=tu.size:=by rw [<-agK,yS];exact hmul aab
     have ⟨zs,hzl,au5⟩:=CG (P:=P) (w:=W) (t:=t) (ty:=(o 40).type) (g:=g0) (off:=i *E.size) (n:=xs.length-i) (c:=cp-i) hf.Ab rG hz0 Tb hz1 Lx aab EO;have ⟨W3,hW3⟩: ∃W3,W3=W.setRow g0 (tu.toList.take (i *E.size)++zs++tu.toList.drop (i *E.size+zs.length)).toArray:=⟨_,rfl⟩
     rw [<-hW3] at au5;have Hr:=hW.move hp (W2:=W3) (by grind [afL]) (by grind [setRow_other]) (by rw [hW3];exact .setRow _ _ _) hnz;refine wp_seq (wp_region ?_);refine ao.mv (hv:=h0) hf.ops.h37 λa ao=> ?_;refine ao.mv (hv:=h5) hf.ops.h38 λa ao=> ?_;refine ao.step rfl hf.ops.h39 abq (pW hf.ops.h39 hf.Ab rG Ck rfl rfl aab aab _) (λa ao=> ?_);refine ao.aoF (v:= .tuple #[]) rfl hf.ops.h40 (abX hf.ops.h40 rfl au5) ?_;refine wp_seq (wp_region ?_);refine ao.mv (hv:=h0) hf.ops.h41 λa ao=> ?_;refine ao.mv (hv:=h5) hf.ops.h42 λa ao=> ?_;refine ao.st hf.ops.h43 (Hm hf.ops.h43 hf.Ab rG Ck rfl rfl aab) λa ao=> ?_;refine ao.yU hf.ops.h44 λa ao=> ?_;refine wp_ret ?_;refine TR hf.res ao (v:= .slice (some ⟨g0,0,none⟩) i cp) rfl ?_;rw [<-aoJ];refine ⟨_,rfl,_,φ',Hr,.inr ⟨aab,by rw [hlen],_,by rw [hW3];exact iY _ Lx,?_,?_⟩⟩
     .grind
     grind [agG,AS,Nat.min_self,hR.done]
    .refine ao.cond (b:=true) (by show IN (decide ((j:Int)<(xs.length:Int)))=_;grind) ?_;simp only [if_true];refine wp_skip ?_;obtain ⟨yk,sk',b,sk2,e1,e2,e3⟩:=abL hd dX;rw [hdj] at e1;simp only [IT,an0] at e1;obtain ⟨rfl,rfl⟩:=e1;have ahP:=kp.mono hW.tr.ph;obtain ⟨hl,fG⟩:=Xf ahP dX;obtain ⟨VS,Zp⟩: ∃VS,VS=(cells.drop (j *E.size)).take E.size:=⟨_,rfl⟩
     rw [<-Zp] at hl fG;have ER:tu.toList.length=cp *E.size:=by rw [ab2,hR.size]
     have hj1:j *E.size+E.size<=xs.length *E.size:=by rw [<-ag7];exact hmul dX
     have Zu:xs.length *E.size<=cp *E.size:=hmul azJ;have yT:i *E.size+E.size<=j *E.size:=by rw [<-ag7];exact hmul hij
     have aqX:W.rangeAt g0 (j *E.size) VS:=by
      intro q v hq;have hql:q<E.size:=by have:=(ahB.1 hq).1;omega
      rw [cell_of Lx,<-akr];rw [Zp,ahF hql,<-hR.rest,afE,ahF aab] at hq;exact hq
     have lB: ∀u∈VS,u.oneCell'=true:=λu hu=>kp.Cv u (by grind);obtain ⟨ms,Tv⟩:=NQ _ (akL dX);have ZN:cQ c.key φ' (.agg VS.toArray) xs[j]:=N1 fG Tv;have hsc:(Value.agg VS.toArray).cells.toList=VS:=by simp [al3]
     refine wp_seq (wp_block ?_);refine wp_seq (wp_region ?_);refine ao.mv (hv:=h0) hf.ops.Mh λa ao=> ?_;refine ao.mv (hv:=h6) hf.ops.TJ λa ao=> ?_;refine ao.step rfl hf.ops.VP abq (TP hf.ops.VP hf.Ab rG Ck rfl rfl dX _) (λa ao=> ?_);refine ao.step rfl hf.ops.W9 abq (Mj hf.ops.W9 (hT _ E mT) pg fw hl rfl aqX) (λa ao=> ?_);refine ao.step rfl hf.ops.YZ abq (Mk hf.ops.YZ rG hz0 _) (λa ao=> ?_);have aoK:(W.alloc (.cells z.cells el)).heap[W.heap.size]? =some (.cells z.cells el (0,0)):=ju W _;refine ao.CH rfl hf.ops.VQ (Hq (v:= .agg VS.toArray) (off:=0) hf.ops.VQ (hT _ E mT) pg rfl rfl (by rw [hsc,hl]) (by grind) aoK (by grind)) ?_;rw [hsc];obtain ⟨W2,Xc⟩: ∃W2,W2=(W.alloc (.cells z.cells el)).setRow W.heap.size (z.cells.toList.take 0++VS++z.cells.toList.drop (0+E.size)).toArray:=⟨_,rfl⟩
     rw [<-Xc];have Qm:W2.heap.size=W.heap.size+1:=by rw [Xc,setRow_size];simp
     have hold: ∀b,b<W.heap.size->W2.heap[b]? =W.heap[b]? :=λb hb=>by rw [Xc,setRow_other _ _ _ _ aab];exact (dk.alloc W z.cells el).vP b hb
     have aoL:W2.heap[W.heap.size]? =some (.cells VS.toArray el (0,0)):=by
      rw [Xc,iY _ aoK];congr 3;have:z.cells.toList.drop (0+E.size)=[]:=by rw [agO,afB];rw [ab2,Tb];exact afx _
      rw [this];simp
     have ZS:Rest W W2:=by rw [Xc];exact (Rest.alloc W z.cells el).trans (.setRow _ _ _)
     have hgl:g0<W.heap.size:=(by grind)
     have Hr:=hW.move hp (W2:=W2) aab (λb hb _=>hold b hb) ZS hnz;have aqZ: ∀b,ob=some b-> ¬((Z' b/\b<W.heap.size)\/W2.heap.size<=b):=by
      intro b hb;have:=azL b hb;subst this;rintro (h|h)
      .grind
      .omega
     have aoM: ∀{W:World} {b:Nat},W.heap[b]? =some (.cells VS.toArray el (0,0))->W.rangeAt b 0 VS:=by intro W b hb q v hq;rw [cell_of hb,agO];simpa using hq
     refine wp_seq (wp_region ?_);refine ao.mv (hv:=h1) hf.ops.Y0 λa ao=> ?_;refine ao.step rfl hf.ops.TL abq (Mj hf.ops.TL (hT _ E mT) pg fw hl rfl (aoM aoL)) (λa ao=> ?_);refine ao.call rfl hf.ops.Xa abq (abZ hf.ops.Xa rfl rfl _) (hp.call Hr.inv Hr.new Hr.mj ZN e2) ?_;rintro v W3 a ⟨rfl,φ3,t1,t2,t3⟩ ao;have ahS:W3.heap[g0]? =some (.cells tu el (0,0)):=(t1.heap g0 (aqZ g0 hob) aab).trans (by grind);have au6:W3.heap[W.heap.size]? =some (.cells VS.toArray el (0,0)):=(t1.heap _ (by grind) aab).trans aoL;have hW3:ES c ob Inv Z0 φ0 w sk2 (λb=>(Z' b/\b<W.heap.size)\/W2.heap.size<=b) φ3 W3:=⟨t3,(by grind),Hr.sub,t2,Hr.tr.trans (t1.sup λb hb=> .inl (Hr.sub b hb)),λb off hb=>by rw [t1.free b off (aqZ b hb)];exact Hr.free b off hb⟩
     refine ao.st hf.ops.R7 (TG hf.ops.R7 rfl) λa ao=> ?_;cases b with
     |true=>
      refine ao.cond (b:=false) rfl ?_;refine wp_skip ?_;refine wp_region ?_;refine ao.mv (hv:=h6) hf.ops.h34 λa ao=> ?_;refine ao.st hf.ops.h35 (kE (q:=1) hf.ops.h35 rfl rfl aab) λa ao=> ?_;refine ao.yU hf.ops.h36 λa ao=> ?_;refine ⟨⟨_,ao,h0,h1,i,j+1,aab,aab,h5,rfl,tu,sk2,_,φ3,yj,ahS,by rw [e3];rfl,hW3,⟨hR.size,hR.done.mono t1.ph,hR.len,?_⟩⟩,?_⟩
      .rw [show (j+1) *E.size=j *E.size+E.size from ag7 _ _,<-akD,<-akD,hR.rest]
      .have:a.tmps.getD 6 undef= .int .i64 ((j+1:Nat):Int):=by rw [ao.get 6];rfl
       rw [this];simp;omega
     |false=>
      refine ao.cond (b:=true) rfl ?_;simp only [if_true];refine wp_seq (wp_region ?_);refine ao.mv (hv:=h0) hf.ops.ZR λa ao=> ?_;refine ao.mv (hv:=h5) hf.ops.h27 λa ao=> ?_;refine ao.step rfl hf.ops.h28 abq (Mj hf.ops.h28 (hT _ E mT) pg fw hl rfl (aoM au6)) (λa ao=> ?_);refine ao.step rfl hf.ops.h29 abq (TP hf.ops.h29 hf.Ab rG Ck rfl rfl aab _) (λa ao=> ?_);refine ao.CH rfl hf.ops.h30 (Hq (v:= .agg VS.toArray) (off:=i *E.size) hf.ops.h30 (hT _ E mT) pg rfl rfl (by rw [hsc,hl]) (by grind) ahS (by grind)) ?_;rw [hsc];have ⟨W4,hW4⟩: ∃W4,W4=W3.setRow g0 (tu.toList.take (i *E.size)++VS++tu.toList.drop (i *E.size+E.size)).toArray:=⟨_,rfl⟩
      rw [<-hW4];have aq0:=hW3.move hp (W2:=W4) (by rw [hW4,setRow_size];grind) (by grind [setRow_other]) (by rw [hW4];exact .setRow _ _ _) aqZ;refine wp_region ?_;refine ao.mv (hv:=h5) hf.ops.h31 λa ao=> ?_;refine ao.st hf.ops.Y1 (kE (q:=1) hf.ops.Y1 rfl rfl aab) λa ao=> ?_;refine ao.yU hf.ops.h33 λa ao=> ?_;refine wp_region ?_;refine ao.mv (hv:=h6) hf.ops.h34 λa ao=> ?_;refine ao.st hf.ops.h35 (kE (q:=1) hf.ops.h35 rfl rfl aab) λa ao=> ?_;refine ao.yU hf.ops.h36 λa ao=> ?_;refine ⟨⟨_,ao,h0,h1,i+1,j+1,aab,aab,rfl,rfl,_,sk2,_,φ3,yj++[xs[j]],by rw [hW4];exact iY _ ahS,by rw [e3];rfl,aq0,⟨?_,?_,by rw [ad1,hR.len];rfl,?_⟩⟩,?_⟩
      .grind [ajW,ad1,AS,afu]
      .rw [show (i+1) *E.size=i *E.size+E.size from ag7 _ _];have h9:(tu.toList.take (i *E.size)++VS).length=i *E.size+E.size:=by rw [ad1,AS,ER,hl];omega
       rw [<-h9,amy];exact (hR.done.mono t1.ph).append ⟨VS,[],abu,hl,fG.mono t1.ph,rfl⟩
      .have h8:cells.drop ((j+1) *E.size)=(tu.toList.take (xs.length *E.size)).drop ((j+1) *E.size):=by rw [show (j+1) *E.size=j *E.size+E.size from ag7 _ _,<-akD,<-akD,hR.rest]
       rw [h8];apply alR;intro q;have Hi:(j+1) *E.size=j *E.size+E.size:=ag7 _ _;rw [afE,afE,agu,agu];split
       .have h9:(tu.toList.take (i *E.size)++VS).length=i *E.size+E.size:=by rw [ad1,AS,ER,hl];omega
        rw [List.getElem?_append_right (by grind),h9,afE];congr 1;omega
       .rfl
      .have:a.tmps.getD 6 undef= .int .i64 ((j+1:Nat):Int):=by rw [ao.get 6];rfl
       rw [this];simp;omega
 grind [tm2]
def alZ (hf:ahR P f t ti tb fu fi el fn r o)(hfi:ahN P fi t ti el fni ri oi)(hT:iz P c.ti)(hE:c.tv el=some E)(fw:E.st=true)(gq:0<E.size):TD P c f el:=by
 refine ⟨?_⟩;intro S Inv step g lb hp v0 xs ys w Z0 φ0 s0 s' NQ im NK hinv ml iA hd;have ⟨mT,pg⟩:=a8 hE;have ⟨I,cells,hI,YV,eS,kp,qf⟩:=im.row;rw [mT] at hI;cases hI;have eS:w.ownsRow 0 el E.size v0 xs.length cells:=eS;have rR: ∀b,v0.ownBlock=some b-> ∀off,φ0 b off=none:=by
  intro b hb off;cases h:φ0 b off with
  |none=>rfl
  |some u=>have:=((qf b hb).2.1 off u h).1;cases this
 rcases eS.2 with ⟨rfl,h0⟩|⟨gb,cap,dp,rfl,_,cD,Zu,Ls,Ci,YW⟩
 .have hx:xs=[]:=akv h0;subst hx;refine lp hf.pos hf.name hf.body ((Xg (ob:=none) (g0:=0) (dp:= #[]) hf hfi hp hT hE fw gq (cp:=0) NQ (λh=>absurd h abu) (λb hb=>by cases hb) kp abu hinv ml iA hd).mono ?_);rintro e W ⟨v,rfl,Z,φ,hW,h1⟩;rcases h1 with ⟨rfl,rfl,_⟩|⟨h1,_⟩
  .exact ⟨_,rfl,Z,φ,hW,⟨E,[],mT,pg,⟨abu,.inl ⟨rfl,rfl⟩⟩,rfl,λbg hb=>by simp [afF] at hb⟩,λ_ h=>h⟩
  .simp at h1
 .have dX:=bx cD;have azO:xs.length<2^63:=by unfold Go.maxLen at Ls;omega
  refine lp hf.pos hf.name hf.body ((Xg (ob:=some gb) (g0:=gb) hf hfi hp hT hE fw gq (cp:=cap) NQ (λh=>⟨rfl,rfl,cD,YW,Zu,Ci⟩) (λb hb=>by cases hb;exact ⟨NK gb rfl,dX,rR gb rfl⟩) kp azO hinv ml iA hd).mono ?_);rintro e W ⟨v,rfl,Z,φ,hW,h1⟩;rcases h1 with ⟨rfl,rfl,h2⟩|⟨h0,rfl,tu,h2,h3,h4⟩
  .refine ⟨_,rfl,Z,φ,hW,⟨E,cells,mT,pg,⟨eS.1,.inr ⟨gb,cap,dp,rfl,afN _,(h2 gb rfl).trans cD,Zu,Ls,Ci,YW⟩⟩,kp.mono hW.tr.ph,λbg hb=>⟨hb,λoff u hu=> ?_,λhc=>hc.elim⟩⟩,λ_ h=>h⟩;have hu:φ bg off=some u:=hu;rw [hW.free bg off hb] at hu;cases hu
  .have hle:ys.length<=cap:=agV (ahz hd) Zu;refine ⟨_,rfl,Z,φ,hW,⟨E,tu.toList.take (ys.length *E.size),mT,pg,⟨?_,.inr ⟨gb,cap,tu,rfl,afN _,?_,hle,Ls,h3,rfl⟩⟩,h4,λbg hb=>⟨hb,λoff u hu=> ?_,λhc=>hc.elim⟩⟩,λ_ h=>h⟩
   .exact h4.length
   .exact h2
   .have hu:φ bg off=some u:=hu;rw [hW.free bg off hb] at hu;cases hu
end
section
variable {P:Program}{c:Ctx}{ops:Array Oper}{N:Act->World->Prop}{φ:Ph}{o:Oper}{a:Act}{w w':World}{n:Nat}{σ:Nat->Value}{Q:Exit->Act->World->Prop}{d:Nat}{e:Operand->Value}
structure DS (c:Ctx) (ops:Array Oper) (pre rest:List Nat) (listed:Array Bool):Prop where
 lst:Lst ops listed pre
 dr:tq c ops.toList pre rest=true
 all: ∀i,i<ops.size->i∈pre\/i∈rest
 lt: ∀i∈pre,i<ops.size
 sel: ∀(j:Nat) (o:Oper) cs b,ops[j]? =some o->o.op≠ .select cs b
def DS.facts {x:Nat}{rest pre:List Nat}{listed:Array Bool}(h:DS c ops pre (x::rest) listed)(hx:ops[x]? =some o): x∉pre/\x∉rest/\x∈afA .any ops listed/\DS c ops (x::pre) rest (listed.setIfInBounds x true)/\ (bif jE o&&!iW c o then tp c ops.toList o [x] rest else (rest.all λy=>match ops.toList[y]? with
   |some p=>bif Lp p then MX ops.toList p o&&apz c p else I4 p (λi=>ac4 i x||(bL rest i&&!apA ops.toList i))
   |none=>false))=true:=by
 have ZK:x<ops.size:=(by grind)
 have hd:=h.dr;have hox:ops.toList[x]? =some o:=by simpa using hx
 simp only [tq,hox] at hd;simp only [bD,afI] at hd;have ⟨⟨⟨⟨d1,d2⟩,d3⟩,d4⟩,d5⟩:=hd;have NM:x∉pre:=by rw [<-bH,d2];simp
 have NN:x∉rest:=by rw [<-bH,d3];simp
 refine ⟨NM,NN,?_,⟨h.lst.set ZK,d5,?_,?_,h.sel⟩,?_⟩
 .refine mem_ready.2 ⟨(h.lst.qu ZK).2 NM,o,hx,λed hed hb=> ?_⟩;have:=af2.1 d1 ed (by simpa using hed);simp only [zf,hb,an1,an2] at this;have hm:=(bH _ _).1 this;exact (h.lst.done (h.lt _ hm)).2 hm
 .intro i hi;rcases h.all i hi with h1|h1;all_goals grind
 .intro i hi;rcases an3.1 hi with rfl|hi
  .exact ZK
  .exact h.lt i hi
 .exact d4
theorem al1 {o:Oper}(h:rY o=true):mR c o=true:=by simp [mR,h]
def DS.read {x d:Nat}{rest pre:List Nat}{listed:Array Bool}{op:Op}{v:Value}(h:DS c ops pre (x::rest) listed)(hx:ops[x]? =some o)(ho:al o d op)(hd:d<n)(hrd:jE o=true)(hmv:iW c o=false)(fw:still c o=false)(hlk:EK o=none)(ao:Tm a n σ)(hi:oN φ w)(bU: ∀w',(rY o=true->dk w w')->(execOp (ev σ) o).run P w'= .ok (.value v) w')(Wt: ∀a',Tm a' n (rL σ d v)->DS c ops (x::pre) rest (listed.setIfInBounds x true)->B5 P c ops N φ rest.length (listed.setIfInBounds x true) a' w):B5 P c ops N φ (rest.length+1) listed a w:=by
 have ⟨NM,NN,FR,xy,d4⟩:=h.facts hx;simp only [hrd,hmv,amz,Bool.and_self,cond_true] at d4;obtain ⟨D,D1,D2,D3,D4⟩:=yD rest [x] d4 (λy hy eR=>absurd (by simpa using hy) eR);have hL:=h.lst;refine Ax (v:=v) D3 hx h.sel rest.length listed a w ?_ ?_ FR ?_ hi ?_
 .intro j oj hoj hjD hjx ZI;have WT:j<ops.size:=(by grind)
  have hjr:j∈rest:=by
   rcases h.all j WT with h1|h1
   .exact absurd h1 ((hL.qu WT).1 ZI)
   .grind
  grind [sf]
 .intro d hd;have hdn:d∉pre:=by
   rcases D2 d hd with h1|h1
   .grind
   .grind [nt,xy.dr]
  by_cases VO:d<ops.size
  .cases hg:listed.getD d false with
   |false=>rfl
   |true=>exact absurd ((hL.done VO).1 hg) hdn
  .have hl: ¬d<listed.size:=by rw [hL.size];exact VO
   simp [hl]
 .refine .inl ⟨by simp [afy,ho.guard],λw' hg=> ?_⟩;grind [ao.eval,al1,gf,ag5]
 .rw [ho.dst];exact Wt _ (ao.put hd v) xy
def DS.au7 {x:Nat}{rest pre:List Nat}{listed:Array Bool}(h:DS c ops pre (x::rest) listed)(hx:ops[x]? =some o)(hno: ∀y∈rest,∀p,ops[y]? =some p->Lp p=false)(hnr:(jE o&&!iW c o)=false)(hw:wpOp P ops (qt N) x (λa' w'=>((∀oi,sf c oi ops x=true->gf c oi w w')/\oN φ w')/\B5 P c ops N φ rest.length (listed.setIfInBounds x true) a' w') a w):B5 P c ops N φ (rest.length+1) listed a w:=by
 have ⟨NM,NN,FR,xy,d4⟩:=h.facts hx;simp only [hnr,cond_false] at d4;refine ⟨(by grind),λi hi=> ?_⟩;have ⟨hun,oi,hoi,ZL⟩:=mem_ready.1 hi;have adH:i<ops.size:=(by grind)
 have Am:=(h.lst.qu adH).1 hun;by_cases hix:i=x
 .grind
 .have hir:i∈rest:=by
   rcases h.all i adH with h1|h1
   .grind
   .exact (an3.1 h1).resolve_left hix
  have h1:=af2.1 d4 i hir;have aqD:ops.toList[i]? =some oi:=by simpa using hoi
  simp only [aqD,hno i hir oi hoi,cond_false] at h1;have ⟨ed,hed,hb⟩:=aku.1 h1;simp at hb;have NO:=ZL ed (by simpa using hed) hb.1;have vA:ed.on=x\/ed.on∈rest:=by
   rcases hb.2 with h2|h2
   .simp_all
   .grind [bH]
  have dX:ed.on<listed.size:=by apply Decidable.byContradiction;intro hh;simp [hh] at NO
  have hm:=(h.lst.done (by rw [<-h.lst.size];exact dX)).1 NO;grind [nt,xy.dr]
theorem DS.done {pre:List Nat}{listed:Array Bool}(h:DS c ops pre [] listed)(hN:N a w):B5 P c ops N φ 0 listed a w:=by
 refine ⟨?_,hN⟩;cases hr:afA .any ops listed with
 |nil=>rfl
 |cons i is=>
  have hi:i∈afA .any ops listed:=by rw [hr];simp
  have ⟨h1,o,ho,_⟩:=mem_ready.1 hi;have dX:i<ops.size:=(by grind)
  exact absurd ((h.all i dX).resolve_right abu) ((h.lst.qu dX).1 h1)
def Xh {id:Nat}{ord:List Nat}(hm:P.follows .mixedOrders=true)(hd:Ad c ops ord=true)(h: ∀listed,DS c ops [] ord listed->B5 P c ops (λa w=>Q .normal a w) φ ord.length listed a {w with drawn:=w.drawn+1}):(ak3 id ops true).wp P Q a w:=by
 simp only [Ad,bD] at hd;have ⟨⟨⟨hns,hl0⟩,uw⟩,hd⟩:=hd;have TB: ∀(j:Nat) (o:Oper) cs b,ops[j]? =some o->o.op≠ .select cs b:=by intro j o cs b ho he;have:=af2.1 hns o (by grind);simp [he] at this
 have hlen:ord.length=ops.size:=by have:=AT hl0;simpa using this
 refine alQ (Q:=qt λa w=>Q .normal a w) ?_ (wp_region_any hm (WQ (c:=c) (φ:=φ) _ _ _ _ ?_))
 .intro x a' w' hx;cases x<;>first|exact hx|exact hx.elim
 .rw [<-hlen];exact h _ ⟨⟨by simp [hlen],(by simp_all)⟩,hd,λi hi=> .inr ((bH _ _).1 (by grind)),abu,TB⟩
def lC {t f g off q:Nat}{x:Operand}{I:TI}(ho:al o d (.fieldAddr t x f))(hT:iz P c.ti)(hI:c.tv t=some I)(fw:I.st=true)(hq:I.xx[f]? =some q)(hx:e x= .pointer (some ⟨g,off,none⟩))(w:World):(execOp e o).run P w= .ok (.value (.pointer (some ⟨g,off+q,none⟩))) w:=by
 have ⟨ng,hc⟩:=a8 hI;have ⟨d,i,h1,h2,h3,h4⟩:=hT t I ng;cases d<;>simp only [tt] at h4;case struct fs=>
  have ⟨_,_,_,ho1,dO,ho3,_⟩:=h4;rw [<-ho1,List.getElem?_map] at hq;cases hf:fs.toList[f]? with
  |none=>grind
  |some fl=>
   simp [hf] at hq;have hf':fs[f]? =some fl:=by simpa using hf
   have ⟨J,hJ,hJc,hJs⟩:=ho3 f fl hf';have ⟨ij,hij,hs,_⟩:=(hT _ _ hJ).info hJc;have hz:ij.size≠0:=aab
   simp [execOp,ho.op,hx,Instr.fieldAt,run_underlying h1,hf',alm,fieldPlace,aie,typeInfo,hij,hz,afJ]
 all_goals grind
def nu {t g off:Nat}{I:TI}{v:Value}(hT:iz P c.ti)(hI:c.tv t=some I)(fw:I.st=false)(hs:I.size=1)(hm:w.cell? ⟨g,off,none⟩=some v):(ahs t (.pointer (some ⟨g,off,none⟩))).run P w= .ok v w:=by
 have ⟨ng,hc⟩:=a8 hI;have hr:w.rangeAt g off [v]:=by
  intro j u hj;cases j with
  |zero=>grind
  |succ j=>simp at hj
 rcases ja (P:=P) (hT t I ng) hc (vs:=[v]) (by simp [hs]) hr with ⟨h,_⟩|⟨_,u,hu,h⟩;all_goals grind
theorem FV {t g off:Nat}{I:TI}{vs:List Value}(hT:iz P c.ti)(hI:c.tv t=some I)(fw:I.st=true)(hs:vs.length=I.size)(hm:w.rangeAt g off vs):(ahs t (.pointer (some ⟨g,off,none⟩))).run P w= .ok (.agg vs.toArray) w:=by have ⟨ng,hc⟩:=a8 hI;rcases ja (P:=P) (hT t I ng) hc hs hm with ⟨_,h⟩|⟨h,_⟩;all_goals grind
def yH {t:Nat}{x:Operand}{v:Value}(ho:al o d (.load t x))(h:(ahs t (e x)).run P w= .ok v w):(execOp e o).run P w= .ok (.value v) w:=by simp [execOp,ho.op,h]
def si {x:Operand}{ad:Addr}(ho:al o d (.nilCheck x))(hx:e x= .pointer (some ad))(w:World):(execOp e o).run P w= .ok (.value (.pointer (some ad))) w:=by simp [execOp,ho.op,hx]
def al2 {t el:TypeId}{x y:Operand}{g off n cp j size:Nat}{i:TypeInfo}(ho:al o d (.indexAddr t x y))(hu:P.underlying t=some (.slice el))(hi:P.info? el=some i)(hs:i.size=size)(hx:e x= .slice (some ⟨g,off,none⟩) n cp)(hy:e y= .int .i64 ((j:Nat):Int))(hj:j<n)(w:World):(execOp e o).run P w= .ok (.value (.pointer (some ⟨g,off+j *size,none⟩))) w:=by
 have h2: ¬n<=j:=aab
 simp [execOp,ho.op,hx,hy,anV,asIntOf,run_underlying hu,h2,aie,typeInfo,hi,hs,afJ]
def ab0 {t:Nat}{x:Operand}(ho:al o d (.box t x))(w:World):(execOp e o).run P w= .ok (.value (.pointer (some ⟨w.heap.size,0,none⟩))) (w.alloc (.cells (e x).cells t)):=by simp [execOp,ho.op,Instr.box,newVar,newRow,newObj,Sem.run]
def TS {x:Operand}{t:TypeId}{g:Nat}{v:Value}(ho:al o d (.call {callee:= .value (.func g),args:= #[x],argTypes:= #[t]})) (he:e (.func g)= .func (.func g) #[] #[]) (hx:e x=v) (w:World):(execOp e o).run P w=(callFunc g #[v]).run P w:=by grind [execOp,ho.op,resolve,invoke,afD]
def TT {x y:Operand}{t:Array TypeId}{g:Nat}{v u:Value}(ho:al o d (.call {callee:= .value (.func g),args:= #[x,y],argTypes:=t})) (he:e (.func g)= .func (.func g) #[] #[]) (hx:e x=v) (hy:e y=u) (w:World):(execOp e o).run P w=(callFunc g #[v,u]).run P w:=by grind [execOp,ho.op,resolve,invoke,afD]
def ab1 {x y z:Operand}{t:Array TypeId}{g:Nat}{v u s:Value}(ho:al o d (.call {callee:= .value (.func g),args:= #[x,y,z],argTypes:=t})) (he:e (.func g)= .func (.func g) #[] #[]) (hx:e x=v) (hy:e y=u) (hz:e z=s) (w:World):(execOp e o).run P w=(callFunc g #[v,u,s]).run P w:=by grind [execOp,ho.op,resolve,invoke,afD]
end
structure axt (tS tb tB ti:Nat) (o:Nat->Oper):Prop where
 h0:al (o 0) 6 (.move (.tmp 0))
 h1:al (o 1) 7 (.nilCheck (.tmp 6))
 h2:al (o 2) 8 (.fieldAddr tS (.tmp 7) 1)
 h3:al (o 3) 9 (.load tb (.tmp 8))
 h4:al (o 4) 10 (.call {callee:= .builtin .len,args:= #[.tmp 9],argTypes:= #[tb]})
 h5:al (o 5) 11 (.move (.const (.int .i64 0)))
 h6:al (o 6) 12 (.binOp .lss ti (.tmp 11) (.tmp 10) ti)
 h7:al (o 7) 13 (.move (.tmp 11))
 h8:al (o 8) 14 (.indexAddr tb (.tmp 9) (.tmp 11))
 h9:al (o 9) 15 (.load tB (.tmp 14))
 Hi:al (o 10) 4 (.assign (.tmp 13))
 QK:al (o 11) 5 (.assign (.tmp 15))
 Qo:al (o 12) 16 (.move (.tmp 5))
 R6:al (o 13) 17 (.unOp .not tB (.tmp 16))
 TH:al (o 14) 18 (.move (.tmp 1))
 NX:al (o 15) 19 (.move (.tmp 4))
 Mh:al (o 16) 20 (.call {callee:= .value (.tmp 18),args:= #[.tmp 19],argTypes:= #[ti]})
 TJ:al (o 17) 21 (.binOp .add ti (.tmp 11) (.const (.int .i64 1)) ti)
 VP:al (o 18) 11 (.move (.tmp 21))
def aq2 {P:Program}{fn:Func}{n:Nat}{a:Act}{w:World} {σ:Nat->Value}{R:Value->World->Prop}(hr:fn.results= #[])(ao:Tm a n σ)(h: ∀v,R v w):bodyPost P fn (λe W=> ∃v,e= .returned v/\R v W) .normal a w:=by refine ⟨ao.defers,.tuple #[],?_,_,rfl,h _⟩;simp [results,hr]
section
variable {P:Program}{c:Ctx}{f tS tb tB ti:Nat}{fn:Func}{r:Nat->Nat}{o:Nat->Oper}{IS Ib IB:TI}{w:World}
end
structure aB3 (P:Program) (f fE tP t3:Nat) (fn:Func) (r:Nat) (o:Nat->Oper):Prop where
 pos:P.funcs[f]? =some fn
 name:(fn.name== "runtime.NumGoroutine")=false
 tmps:fn.ntmps=8
 res:fn.results= #[]
 body:fn.body=some (.region r #[o 0,o 1,o 2,o 3] false)
 h0:al (o 0) 4 (.load tP (.tmp 1))
 h1:al (o 1) 5 (.move (.tmp 0))
 h2:al (o 2) 6 (.load t3 (.tmp 2))
 h3: ∃ts,al (o 3) 7 (.call {callee:= .value (.func fE),args:= #[.tmp 4,.tmp 5,.tmp 6],argTypes:=ts})
structure CS where
 F:Int
 T:Int
 bl:List MV
 wl:List MV
 nl:List MV
 pl:List MV
def CS.ls (s:CS):List MV:=[.i .i64 s.F,.i .i64 s.T,.list s.bl,.list s.wl,.list s.nl,.list s.pl]
abbrev KS (f ty:Nat):List LK:=[.k (.i .i64),.k (.i .i64),.k .l,.k .l,.own f ty false,.k .l]
structure Six where
 b:Value
 w:Value
 n:Value
 p:Value
def Six.vs (s:CS)(v:Six):List Value:=[.int .i64 s.F,.int .i64 s.T,v.b,v.w,v.n,v.p]
structure Xi (c:Ctx) (Z:Nat->Prop) (φ:Ph) (W:World) (bc ty:Nat) (s:CS) (v:Six):Prop where
 heap: ∃T,W.heap[bc]? =some (.cells (v.vs s).toArray T (0,0))
 cz:Z bc
 free: ∀o,φ bc o=none
 b:jI c.key φ [v.b] (.list s.bl)
 w:jI c.key φ [v.w] (.list s.wl)
 p:jI c.key φ [v.p] (.list s.pl)
 n:ch c (bC.plain Z) (np c.key φ) W v.n ⟨ty,false,s.nl⟩
 off:v.n.ownBlock≠some bc
section
variable {P:Program}{c:Ctx}{Z:Nat->Prop}{φ:Ph}{W W':World}{bc ty f:Nat}{s:CS}
def ahT:RJ (KS f ty) s.ls=some ([.p (.i .i64 s.F),.p (.i .i64 s.T),.p (.list s.bl),.p (.list s.wl),.own f,.p (.list s.pl)],[(f,⟨ty,false,s.nl⟩)]):=by simp [RJ,CS.ls,KS,cZ,mi,kw,gC,gI,gL,gN,VW]
def TU {key:Nat->Nat}{vs:List Value}{m:MV}(h:jI key φ vs m)(hm:m.one=true): ∃v,vs=[v]:=by have ⟨v,h1,_⟩:=h.one hm;exact ⟨v,h1⟩
def eY.six (h:eY c Z φ W bc (KS f ty) s.ls): ∃v,Xi c Z φ W bc ty s v:=by
 have ⟨cs,m,E,arr,T,h1,h2,h3,h4,h5,h6,h7⟩:=h;rw [ahT] at h1;simp at h1;have ⟨rfl,rfl⟩:=h1;have ⟨v0,r0,e0,⟨_,l0⟩,h5⟩:=h5;have ⟨v1,r1,e1,⟨_,l1⟩,h5⟩:=h5;have ⟨v2,r2,e2,⟨_,l2⟩,h5⟩:=h5;have ⟨v3,r3,e3,⟨_,l3⟩,h5⟩:=h5;obtain ⟨v4,r4,e4,⟨vn,rfl,_,hE⟩,h5⟩:=h5;have ⟨v5,r5,e5,⟨_,l5⟩,h5⟩:=h5;subst h5;cases l0;cases l1;obtain ⟨vb,rfl⟩:=TU l2 rfl;obtain ⟨vw,rfl⟩:=TU l3 rfl;obtain ⟨vp,rfl⟩:=TU l5 rfl;have hf:aN [(f,(⟨ty,false,s.nl⟩:pC))] f=some ⟨ty,false,s.nl⟩:=by simp [aN]
 have hE:=hE _ hf;subst hE;have ⟨k1,k2⟩:=h6 f _ hf;refine ⟨⟨vb,vw,_,vp⟩,⟨T,?_⟩,h3,h4,l2,l3,l5,k1.env rfl rfl,k2⟩;have:arr=(Six.vs s ⟨vb,vw,E f,vp⟩).toArray:=by apply Array.toList_inj.1;rw [e0,e1,e2,e3,e4,e5];rfl
 rw [<-this];exact h2
def Xi.cell {v:Six}(h:Xi c Z φ W bc ty s v):eY c Z φ W bc (KS f ty) s.ls:=by
 have ⟨T,hh⟩:=h.heap;have lB:v.n.oneCell'=true:=by obtain ⟨I,cells,q1,q2,q3,q4,q5⟩:=h.n.row;rcases q3.2 with ⟨h1,_⟩|⟨g,cap,dp,h1,_⟩<;>rw [h1]<;>rfl
 have hf: ∀f' o',aN [(f,(⟨ty,false,s.nl⟩:pC))] f'=some o'->f'=f/\o'=⟨ty,false,s.nl⟩:=by
  intro f' o' ho;simp only [aN,iy] at ho;by_cases kC:f=f'
  .subst kC;simp at ho;exact ⟨rfl,ho.symm⟩
  .simp [kC] at ho
 refine ⟨_,_,λ_=>v.n,_,T,ahT,hh,h.cz,h.free,?_,?_,?_⟩
 .exact ⟨[_],_,rfl,⟨rfl,.i _ _⟩,[_],_,rfl,⟨rfl,.i _ _⟩,[_],_,rfl,⟨rfl,h.b⟩,[_],_,rfl,⟨rfl,h.w⟩,[_],_,rfl,⟨_,rfl,lB,λ_ _=>rfl⟩,[_],_,rfl,⟨rfl,h.p⟩,rfl⟩
 .intro f' o' ho;obtain ⟨rfl,rfl⟩:=hf f' o' ho;exact ⟨h.n.env rfl rfl,h.off⟩
 .intro f1 f2 o1 o2 k h1 h2 _ _;exact (hf f1 o1 h1).1.trans (hf f2 o2 h2).1.symm
def eY.frame {bg:Nat}{ks:List LK}{ls:List MV}(h:eY c Z φ W bg ks ls)(yS:W.heap.size<=W'.heap.size)(ov: ∀b,Z b->b<W.heap.size->W'.heap[b]? =W.heap[b]?):eY c (λb=>Z b/\b<W.heap.size) φ W' bg ks ls:=by
 have ⟨cs,m,E,arr,T,k1,k2,k3,k4,k5,k6,k7⟩:=h;have dX:=bx k2;refine ⟨cs,m,E,arr,T,k1,(ov bg k3 dX).trans k2,⟨k3,dX⟩,k4,k5,λf' o' ho=>⟨?_,(k6 f' o' ho).2⟩,k7⟩;have ⟨I,cells,q1,q2,q3,q4,q5⟩:=(k6 f' o' ho).1.row;refine ⟨I,cells,q1,q2,⟨q3.1,?_⟩,q4,λb hb=>⟨⟨(q5 b hb).1,Ng q3 hb⟩,(q5 b hb).2⟩⟩;rcases q3.2 with h6|⟨g,cap,dp,r1,r2,r3,r4⟩
 .exact .inl h6
 .exact .inr ⟨g,cap,dp,r1,r2,(ov g (q5 g (by rw [r1];rfl)).1 (bx r3)).trans r3,r4⟩
def eY.more {φ':Ph}{bg:Nat}{ks:List LK}{ls:List MV}(h:eY c Z φ W bg ks ls)(hp:iZ φ φ')(hz: ∀b o,Z b->φ' b o=φ b o):eY c Z φ' W bg ks ls:=by
 have ⟨cs,m,E,arr,T,k1,k2,k3,k4,k5,k6,k7⟩:=h;have vA:ll (λ_=>True) (λ_=>True) ⟨c.key,φ,E,λ_=>bg,m⟩ ⟨c.key,φ',E,λ_=>bg,m⟩:=⟨rfl,hp,λ_ _=>rfl,λf o ho _=>⟨o,ho,rfl,rfl⟩⟩
 refine ⟨cs,m,E,arr,T,k1,k2,k3,λo=>by rw [hz bg o k3];exact k4 o,k5.on vA (λ_ _ _ _=>trivial),λf' o' ho=>⟨?_,(k6 f' o' ho).2⟩,k7⟩;have ⟨I,cells,q1,q2,q3,q4,q5⟩:=(k6 f' o' ho).1.row;refine ⟨I,cells,q1,q2,q3,q4.mono hp,λb hb=>⟨(q5 b hb).1,λoff u hu=>(q5 b hb).2.1 off u ?_,λhc=>hc.elim⟩⟩;have hu:φ' b off=some u:=hu;rw [hz b off (q5 b hb).1] at hu;exact hu
theorem ch.still {v:Value}{xs:List MV}(h:ch c (bC.plain Z) (np c.key φ) W v ⟨ty,false,xs⟩)(hi:oN φ W): ∃φ',iZ φ φ'/\oN φ' W/\(∀b o,v.ownBlock≠some b->φ' b o=φ b o)/\jI c.key φ' [v] (.list xs):=by
 have ⟨I,cells,hI,YV,eS,kp,hz⟩:=h.row;have hlen:=kp.length;have hno: ∀b,v.ownBlock=some b-> ∀off,φ b off=none:=by
  intro b hb off;cases hq:φ b off with
  |none=>rfl
  |some u=>exact absurd ((hz b hb).2.1 off u hq).1 abu
 have hle:iZ φ (mF φ v cells):=by
  intro b off u hu;unfold mF;by_cases hc:v.ownBlock=some b/\off<cells.length
  .rw [hno b hc.1 off] at hu;cases hu
  .rw [if_neg hc];exact hu
 refine ⟨mF φ v cells,hle,?_,λb o hb=>by unfold mF;simp [hb],?_⟩
 .intro b off u hu;unfold mF at hu;by_cases hc:v.ownBlock=some b/\off<cells.length
  .rw [if_pos hc] at hu;rcases eS.2 with ⟨hE,_⟩|⟨g,cap,dp,hE,_,hg,hn,Ls,Ci,YW⟩
   .rw [hE] at hc;simp [afF] at hc
   .rw [hE] at hc;simp only [afF,IT] at hc;have ⟨hb,ho⟩:=hc;subst hb;rw [cell_of hg];rw [<-YW,agu] at hu;have aB4:cells.length=xs.length *I.size:=hlen;have dO:off<xs.length *I.size:=aab
    simp only [dO,if_true] at hu;simpa using hu
  .rw [if_neg hc] at hu;exact hi _ _ _ hu
 .have Cu:=kp.mono hle;rcases eS.2 with ⟨hE,hn⟩|⟨g,cap,dp,hE,_,hg,hn,Ls,Ci,YW⟩
  .have hx:xs=[]:=akv hn;rw [hE,hx];exact .list none 0 [] 0 0 0 (λ_=>[]) abu abu abu abu abu
  .have hv:[v]=[akG (some ⟨g,0,none⟩) xs.length cap]:=by rw [hE]
   rw [hv];have Zp: ∀i (hi:i<xs.length),∃v1,v1.length=I.size/\jI c.key (mF φ v cells) v1 xs[i]/\(cells.drop (i *I.size)).take I.size=v1:=by intro i hi;obtain ⟨p1,v1,p2,he,I7,xO,fG⟩:=Cu.at (ahE hi);refine ⟨v1,xO,fG,?_⟩;rw [he,agG,<-I7,List.drop_left,<-xO,amy]
   refine .list (some ⟨g,0,none⟩) cap xs g 0 I.size (λi=>(cells.drop (i *I.size)).take I.size) hn (λ_=>rfl) ?_ ?_ ?_
   .intro i hi;have ⟨v1,h1,_,h3⟩:=Zp i hi;rw [h3,h1]
   .intro i j hi hj;have hb:v.ownBlock=some g:=by rw [hE];rfl
    have ac9:i *I.size+j<cells.length:=by
     rw [hlen];calc i *I.size+j<i *I.size+I.size:=aab
      _=(i+1) *I.size:=by rw [ag7]
      _<=xs.length *I.size:=aft _ hi
    unfold mF;simp_all
   .intro i hi;have ⟨v1,_,h2,h3⟩:=Zp i hi;rw [h3];exact h2
def Sc (φ:Ph)(b:Nat)(vs:List Value):Ph:=λb' o=>if b'=b then vs[o]? else φ b' o
def N3 {b:Nat}{vs:List Value}(h: ∀o,φ b o=none):iZ φ (Sc φ b vs):=by
 intro b' o u hu;unfold Sc;by_cases hb:b'=b
 .subst hb;rw [h] at hu;cases hu
 .rw [if_neg hb];exact hu
def Hs {b:Nat}{vs:List Value}{T:TypeId}(hi:oN φ W)(hh:W.heap[b]? =some (.cells vs.toArray T (0,0))):oN (Sc φ b vs) W:=by
 intro b' o u hu;unfold Sc at hu;by_cases hb:b'=b
 .subst hb;rw [cell_of hh];simpa using hu
 .rw [if_neg hb] at hu;exact hi _ _ _ hu
theorem Xi.still {v:Six}(h:Xi c Z φ W bc ty s v)(hi:oN φ W): ∃φ',iZ φ φ'/\oN φ' W/\(∀b o,¬Z b->φ' b o=φ b o)/\il c.key φ' (v.vs s) s.ls/\ ∀j,j<6->φ' bc j=(v.vs s)[j]? :=by
 have ⟨φ1,k1,k2,k3,k4⟩:=h.n.still hi;have ⟨T,hh⟩:=h.heap;have rR: ∀o,φ1 bc o=none:=λo=>by rw [k3 bc o h.off];exact h.free o
 have hle:=N3 (vs:=v.vs s) rR;have hz: ∀b,v.n.ownBlock=some b->Z b:=by obtain ⟨I,cells,_,_,_,_,q5⟩:=h.n.row;exact λb hb=>(q5 b hb).1
 refine ⟨Sc φ1 bc (v.vs s),k1.trans hle,Hs k2 hh,λb o hb=> ?_,?_,λj hj=>by simp [Sc]⟩
 .have h1:b≠bc:=λe=>hb (by rw [e];exact h.cz);unfold Sc;rw [if_neg h1];exact k3 b o λe=>hb (hz b e)
 .have m:=k1.trans hle;exact .cons [_] _ _ _ (.i _ _) (.cons [_] _ _ _ (.i _ _) (.cons [_] _ _ _ (h.b.mono m) (.cons [_] _ _ _ (h.w.mono m) (.cons [_] _ _ _ (k4.mono hle) (.cons [_] _ _ _ (h.p.mono m) .nil)))))
end
def N4 (W:World)(b:Nat)(v:Int):Prop:= ∃T,W.heap[b]? =some (.cells #[.int .i64 v] T (0,0))
structure CI0 (c:Ctx) (φ0:Ph) (w0:World) (φ1:Ph) (bc bv br f ty:Nat) (s:CS) (v:Int) (W:World) (Z:Nat->Prop) (φ:Ph):Prop where
 cell:eY c Z φ W bc (KS f ty) s.ls
 mj:oN φ W
 tr:Trans (λb=>w0.heap.size<=b) φ0 w0 φ W
 base:iZ φ1 φ
 sub: ∀b,Z b->w0.heap.size<=b
 hv:N4 W bv v
 zv: ¬Z bv
 fv: ∀o,φ bv o=none
 nv:w0.heap.size<=bv
 hr: ∃arr T,W.heap[br]? =some (.cells arr T (0,0))/\arr.size=6
 zr: ¬Z br
 fr: ∀o,φ br o=none
 nr:w0.heap.size<=br
 ne:br≠bv
def CI (c:Ctx) (φ0:Ph)(w0:World) (φ1:Ph)(bc bv br f ty:Nat)(s:CS)(v:Int)(W:World):Prop:= ∃Z φ,CI0 c φ0 w0 φ1 bc bv br f ty s v W Z φ
section
variable {P:Program}{c:Ctx}{φ0 φ1:Ph}{w0 W W':World}{bc bv br f ty:Nat}{s s':CS}{v v':Int}{Z:Nat->Prop}{φ:Ph}
def sn {W W':World}{b:Nat}{o:Nat}{u:Value}(h:W.cell? ⟨b,o,none⟩=some u)(hs:b<W.heap.size->W'.heap[b]? =W.heap[b]?):W'.cell? ⟨b,o,none⟩=some u:=by have hl:=BY W _ h;rw [afK (hs hl)];exact h
def CI0.same (h:CI0 c φ0 w0 φ1 bc bv br f ty s v W Z φ)(hs:W.heap.size<=W'.heap.size)(hr:Rest W W')(hold: ∀b,b<W.heap.size->b≠bv->W'.heap[b]? =W.heap[b]?)(hv:N4 W' bv v'):CI0 c φ0 w0 φ1 bc bv br f ty s v' W' (λb=>Z b/\b<W.heap.size) φ:=by
 have hzv: ∀b,Z b->b≠bv:=λb hb e=>h.zv (by rw [<-e];exact hb);have ⟨arr,T,Lu,V8⟩:=h.hr;refine ⟨h.cell.frame hs λb hb hl=>hold b hl (hzv b hb),λb o u hu=> ?_,⟨h.tr.ph,λb hb hl=> ?_,h.tr.free,agV h.tr.size hs,h.tr.rest.trans hr⟩,h.base,λb hb=>h.sub b hb.1,hv,λhb=>h.zv hb.1,h.fv,h.nv,⟨arr,T,?_,V8⟩,λhb=>h.zr hb.1,h.fr,h.nr,h.ne⟩
 .refine sn (h.mj b o u hu) λhl=>hold b hl λe=> ?_;rw [e,h.fv] at hu;cases hu
 .have xO:b<W.heap.size:=Nat.lt_of_lt_of_le hl h.tr.size;rw [hold b xO (λe=>hb (by rw [e];exact h.nv))];exact h.tr.heap b hb hl
 .rw [hold br (bx Lu) h.ne];exact Lu
def N4.same {b:Nat}{v:Int}(h:N4 W b v)(he:b<W.heap.size->W'.heap[b]? =W.heap[b]?):N4 W' b v:=by have ⟨T,hT⟩:=h;exact ⟨T,by rw [he (bx hT)];exact hT⟩
def CI0.grow {φ2 φ3:Ph}(h:CI0 c φ0 w0 φ1 bc bv br f ty s v W Z φ)(ht:Trans (λb=>W.heap.size<=b) φ2 W φ3 W'):CI0 c φ0 w0 φ1 bc bv br f ty s v W' (λb=>Z b/\b<W.heap.size) φ:=h.same ht.size ht.rest (λb hl _=>ht.heap b aab hl) (h.hv.same λhl=>ht.heap bv aab hl)
def N4.cell {b:Nat}{v:Int}(h:N4 W b v):W.cell? ⟨b,0,none⟩=some (.int .i64 v):=by have ⟨T,hT⟩:=h;rw [cell_of hT];rfl
def CI.call {g:Nat}{vs:List Value}{ms:List MV}{r:MV}(h:CI c φ0 w0 φ1 bc bv br f ty s v W)(hg:c.cS (c.key g)=true)(At:c.sig (c.key g)=some (0,KS f ty,KS f ty))(hS:dG P c g (.cell (.func 0 s.ls)::ms) (.eH r s'.ls))(dx: ∀φ,iZ φ1 φ->oN φ W->bj c.key φ vs ms):dF P g (.pointer (some ⟨bc,0,none⟩)::vs).toArray W λ_ W'=>CI c φ0 w0 φ1 bc bv br f ty s' v W':=by
 have ⟨Z,φ,h⟩:=h;have rQ:bv<W.heap.size:=by obtain ⟨T,hT⟩:=h.hv;exact bx hT
 have ⟨arr,T,Lu,V8⟩:=h.hr;have hlr:=bx Lu;have qq:eY c (λb=>Z b\/W.heap.size<=b) φ W bc (KS f ty) s.ls:=h.cell.wide λb hb=> .inl hb;have Am:cR c (λb=>Z b\/W.heap.size<=b) φ W (c.key g) (.pointer (some ⟨bc,0,none⟩)::vs) (.cell (.func 0 s.ls)::ms):=by simp only [cR,hg,if_true];exact .inr (.inr ⟨0,KS f ty,KS f ty,0,s.ls,bc,At,rfl,rfl,⟨_,_,rfl,⟨rfl,.rp bc 0 [] [] .nil abu⟩,dx φ h.base h.mj⟩,qq⟩)
 refine (hS φ W (λb=>Z b\/W.heap.size<=b) _ (λb hb=> .inr hb) Am h.mj).imp ?_;rintro x W' ⟨φ',t1,t2,qh,pos',ks',ko',aqF,V0,yY,Wd,hc⟩;rw [At] at yY;simp at yY;have ⟨rfl,rfl,rfl⟩:=yY;simp at Wd;have ⟨rfl,_⟩:=Wd;have hzv: ¬(Z bv\/W.heap.size<=bv):=λhb=>hb.elim h.zv aab;have hzr: ¬(Z br\/W.heap.size<=br):=λhb=>hb.elim h.zr aab;refine ⟨_,φ',hc,t2,h.tr.trans (t1.vY λb hb=>hb.elim (h.sub b) (λhb=>agV h.tr.size hb)),h.base.trans t1.ph,λb hb=>hb.elim (h.sub b) (λhb=>agV h.tr.size hb),h.hv.same λhl=>t1.heap bv hzv hl,hzv,λo=>by rw [t1.free bv o hzv];exact h.fv o,h.nv,⟨arr,T,by rw [t1.heap br hzr hlr];exact Lu,V8⟩,hzr,λo=>by rw [t1.free br o hzr];exact h.fr o,h.nr,h.ne⟩
def CI.aud {φ2:Ph}(h:CI c φ0 w0 φ2 bc bv br f ty s v W)(hp:iZ φ1 φ2):CI c φ0 w0 φ1 bc bv br f ty s v W:=by have ⟨Z,φ,h⟩:=h;exact ⟨Z,φ,{h with base:=hp.trans h.base}⟩
def D5 {g:Nat}{vs:List Value}{ms:List MV}{r:MV}(hg:c.cS (c.key g)=false)(hS:dG P c g ms r)(hr:isW r=false)(dx:bj c.key φ vs ms)(hi:oN φ W):dF P g vs.toArray W λx W'=> ∃φ',Trans (λb=>W.heap.size<=b) φ W φ' W'/\oN φ' W'/\iG c (λb=>W.heap.size<=b) φ' W' (c.key g) x r:=by
 have Am:cR c (λb=>W.heap.size<=b) φ W (c.key g) vs ms:=by simp only [cR,hg,AI,if_false];exact dx
 refine (hS φ W (λb=>W.heap.size<=b) _ (λb hb=>hb) Am hi).imp ?_;rintro x W' ⟨φ',t1,t2,t3⟩;exact ⟨φ',t1,t2,t3.of hr⟩
end
structure CK where
 cl:Nat
 ld:Nat
 is:Nat
 f1:Nat
 en:Nat
 de:Nat
 le:Nat
 sz:Nat
section
variable (g:Nat->List MV->Option MV)(k:CK)
end
structure axu (tS tP ti tN tM tm tZ tB tb tf fCl f1 fEa fLd fIs f2 f3 fLe:Nat) (o:Nat->Oper):Prop where
 h0:al (o 0) 1 (.box tS (.tmp 0))
 h1:al (o 1) 2 (.alloc tS)
 h2:al (o 2) 3 (.alloc tP)
 h3:gX (o 3) (.store tP (.tmp 3) (.tmp 1))
 h4:al (o 4) 7 (.fieldAddr tS (.tmp 1) 3)
 h5:al (o 5) 8 (.load tN (.tmp 7))
 h6:al (o 6) 9 (.call {callee:= .value (.func fCl),args:= #[.tmp 8],argTypes:= #[tN]})
 h7:al (o 7) 10 (.fieldAddr tS (.tmp 1) 4)
 h8:gX (o 8) (.store tM (.tmp 10) (.const (.slice none 0 0)))
 h9:al (o 9) 11 (.fieldAddr tS (.tmp 1) 3)
 Hi:gX (o 10) (.store tN (.tmp 11) (.tmp 9))
 QK:al (o 11) 4 (.alloc ti)
 Qo:gX (o 12) (.store ti (.tmp 4) (.const (.int .i64 0)))
 R6:al (o 13) 12 (.load tP (.tmp 3))
 TH:al (o 14) 13 (.makeFunc (.func f1) #[] #[.tmp 4,.tmp 1])
 NX:al (o 15) 14 (.call {callee:= .value (.func fEa),args:= #[.tmp 12,.tmp 13],argTypes:= #[tP,tf]})
 Mh:al (o 16) 15 (.load tS (.tmp 1))
 TJ:al (o 17) 16 (.fieldAddr tS (.tmp 1) 0)
 VP:al (o 18) 17 (.load tZ (.tmp 16))
 W9:al (o 19) 18 (.load ti (.tmp 4))
 YZ:al (o 20) 19 (.call {callee:= .value (.func fLd),args:= #[.tmp 17,.tmp 18],argTypes:= #[tZ,ti]})
 VQ:al (o 21) 20 (.call {callee:= .value (.func fIs),args:= #[.tmp 15,.tmp 19,.const (.bool false)],argTypes:= #[tS,ti,tB]})
 Y0:al (o 22) 21 (.unOp .not tB (.tmp 20))
 TL:al (o 23) 22 (.load ti (.tmp 4))
 Xa:al (o 24) 23 (.binOp .add ti (.tmp 22) (.const (.int .i64 1)) ti)
 R7:gX (o 25) (.store ti (.tmp 4) (.tmp 23))
 ZR:al (o 26) 24 (.load ti (.tmp 4))
 h27:al (o 27) 25 (.binOp .gtr ti (.tmp 24) (.const (.int .i64 100000)) ti)
 h28:al (o 28) 26 (.load tS (.tmp 1))
 h29:gX (o 29) (.store tS (.tmp 2) (.tmp 26))
 h30:al (o 30) 27 (.load tP (.tmp 3))
 h31:al (o 31) 28 (.makeFunc (.func f2) #[] #[.tmp 3,.tmp 4])
 Y1:al (o 32) 29 (.call {callee:= .value (.func fEa),args:= #[.tmp 27,.tmp 28],argTypes:= #[tP,tf]})
 h33:al (o 33) 5 (.assign (.const (.int .i64 0)))
 h34:al (o 34) 30 (.move (.tmp 5))
 h35:al (o 35) 31 (.fieldAddr tS (.tmp 1) 4)
 h36:al (o 36) 32 (.load tM (.tmp 31))
 h37:al (o 37) 33 (.call {callee:= .builtin .len,args:= #[.tmp 32],argTypes:= #[tM]})
 h38:al (o 38) 34 (.binOp .lss ti (.tmp 30) (.tmp 33) ti)
 h39:al (o 39) 37 (.fieldAddr tS (.tmp 1) 4)
 h40:al (o 40) 38 (.load tM (.tmp 37))
 h41:al (o 41) 39 (.move (.tmp 5))
 h42:al (o 42) 40 (.indexAddr tM (.tmp 38) (.tmp 39))
 h43:al (o 43) 41 (.load tm (.tmp 40))
 h44:al (o 44) 6 (.alloc tm)
 h45:gX (o 45) (.store tm (.tmp 6) (.tmp 41))
 h46:al (o 46) 42 (.load tP (.tmp 3))
 h47:al (o 47) 43 (.makeFunc (.func f3) #[] #[.tmp 3,.tmp 6])
 h48:al (o 48) 44 (.call {callee:= .value (.func fEa),args:= #[.tmp 42,.tmp 43],argTypes:= #[tP,tf]})
 h49:al (o 49) 45 (.load tP (.tmp 3))
 h50:al (o 50) 46 (.fieldAddr tS (.tmp 1) 0)
 h51:al (o 51) 47 (.load tZ (.tmp 46))
 h52:al (o 52) 48 (.load ti (.tmp 4))
 h53:al (o 53) 49 (.call {callee:= .value (.func fLd),args:= #[.tmp 47,.tmp 48],argTypes:= #[tZ,ti]})
 h54:al (o 54) 50 (.call {callee:= .value (.func fLe),args:= #[.tmp 45,.tmp 49],argTypes:= #[tP,ti]})
 h55:al (o 55) 35 (.move (.tmp 5))
 h56:al (o 56) 36 (.binOp .add ti (.tmp 35) (.const (.int .i64 1)) ti)
 h57:al (o 57) 5 (.assign (.tmp 36))
 h58:al (o 58) 51 (.load tS (.tmp 1))
 h59:gX (o 59) (.store tS (.tmp 2) (.tmp 51))
section
variable {P:Program}{c:Ctx}
theorem ahU {f ty:Nat}{fn:Func}{ms:List MV}{m:MV}(hG:Good P c)(hD:WI P c)(hf:P.funcs[f]? =some fn)(zd:(fn.name== "runtime.NumGoroutine")=false)
 (hn:c.n=fn.ntmps) (yS:fn.params.size<=fn.ntmps) (hg:c.cS (c.key f)=true) (At:c.sig (c.key f)=none) (B1:ty=c.mV (c.key f)/\1<=fn.results.toList.length/\ ∃I,c.tv ty=some I) (hb:age c ty fn ms=some m):dG P c f ms m:=by
 intro φ w Z vs hz dx iA;simp only [cR,hg,if_true] at dx;unfold age at hb;split at hb;rotate_left
 .cases hb
 rename_i b m0 ms t0 ts jP IU;split at hb;rotate_left
 .cases hb
 rename_i I0 hI0;cases hc0:I0.IK&&(ac4 I0.elem ty&&ac4 ts.length 2) with
 |false=>grind
 |true=>
 simp only [hc0,cond_true] at hb;simp only [bD] at hc0;obtain ⟨hL,_,hts⟩:=hc0;have hts:=AT hts;unfold gF at hb;split at hb;rotate_left
 .cases hb
 rename_i xs;match ts,hts with
 |[t1,t2],_=>
 obtain ⟨v0,v1,v2,xs',m1,m2,rfl,Tv,hm2,F0,A1,A2⟩: ∃v0 v1 v2 xs' m1 m2,vs=[v0,v1,v2]/\MV.fresh xs::ms=[.fresh xs',m1,m2]/\m2.one=true/\ch c (bC.plain Z) (np c.key φ) w v0 ⟨c.mV (c.key f),false,xs'⟩/\cQ c.key φ v1 m1/\cQ c.key φ v2 m2:=by
  rcases dx with ⟨v0,v1,v2,xs',m1,ys,_,Tv,_⟩|h|⟨pos,ks,ko,off,ls,bg,h1,_⟩
  .simp only [FH] at hb;split at hb
   .have key: ∀(I:TI) (x:MV) (K':Slot->Option MV),(∀s,K' s=none)->xJ I x K'=none:=by
     intro I x K' hK;cases ho:xJ I x K' with
     |none=>rfl
     |some r=>
      unfold xJ at ho;cases fw:I.st with
      |true=>
       simp only [fw,cond_true] at ho;unfold gA at ho;split at ho
       .have ⟨ls,_,h⟩:=uT (e:=np c.key φ) (vs:=[]) ho;grind
       .cases ho
      |false=>
       simp only [fw,cond_false] at ho;split at ho
       .have ⟨l,_,h⟩:=nk (e:=np c.key φ) (vs:=[]) ho;grind
       .cases ho
    grind [gC,KH]
   .cases hb
  all_goals grind
 simp only [aky,MV.fresh.injEq] at Tv;obtain ⟨rfl,rfl⟩:=Tv;have bU:(callFunc f [v0,v1,v2].toArray).run P w= .ok (.enter f [v0,v1,v2].toArray) w:=by
  have Me: ¬fn.name= "runtime.NumGoroutine" :=by simpa using zd
  simp [callFunc,hf,Me,jP]
 unfold dF;rw [bU];refine calls_of_wp hf jP ?_;let e:Env:=⟨c.key,φ,λ_=>v0,λ_=>0,[(5000000,⟨ty,false,xs⟩)]⟩
 obtain ⟨fr,rest,Ak,Hg,hb,EN,l1,a2,k1,s1⟩:=CC (e:=e) (vs:=[v1,v2]) (ms:=[m1,m2]) ⟨v1,_,rfl,A1,v2,_,rfl,A2,rfl⟩ hb;cases rest with
 |cons=>cases hb
 |nil=>
 simp only [gN] at hb;have a2:Hg=[]:=a2;subst a2;rw [amd] at EN;subst EN;have aly:fn.params.size=3:=by rw [<-ab2,IU];rfl
 let a:Act:={tmps:=[v0,v1,v2].toArray++sh (fn.ntmps-[v0,v1,v2].toArray.size) undef,defers:=[]}
 have Qz: ∀(t:Nat) (v:Value),[v0,v1,v2][t]? =some v->a.tmps.getD t undef=v:=by
  intro t v ht;have dX:t<[v0,v1,v2].length:=(by grind)
  rw [agx];show (([v0,v1,v2].toArray++sh _ undef)[t]?).getD undef=v;rw [Array.getElem?_append_left (by grind)];simp only [akW];rw [ht];rfl
 obtain ⟨J,cells,q1,q2,q3,q4,q5⟩:=F0.row;have lB:=vR q3;have im:ch c (bC.plain Z) e w v0 ⟨ty,false,xs⟩:=by rw [B1.1];exact F0.env (e':=e) rfl rfl
 have NE: ∀t,dP (au ((0,.sc (.own 5000000))::fr) t)=false/\(∀cs,au ((0,.sc (.own 5000000))::fr) t≠ .box cs)/\ai e (a.tmps.getD t undef) (au ((0,.sc (.own 5000000))::fr) t):=by
  intro t;by_cases ht0:t=0
  .subst ht0;refine ⟨rfl,λcs hc=>(by cases hc),?_⟩;rw [Qz 0 v0 rfl];exact ⟨v0,rfl,lB,λo ho=>rfl⟩
  .have hg:au ((0,.sc (.own 5000000))::fr) t=au fr t:=by
    have:ac4 0 t=false:=by
     cases hh:ac4 0 t with
     |false=>rfl
     |true=>simp_all
    simp only [au,this,cond_false]
   rw [hg];by_cases h1:t∈aS fr
   .grind [CD,cY,List.mem_range',List.getElem?_cons_succ]
   .rw [r8 _ _ h1];exact ⟨rfl,(by grind),by simp [ai]⟩
 have azV: ∀t cs,au ((0,.sc (.own 5000000))::fr) t= .box cs->False:=(by grind)
 have mq: ∀f o,aN e.m f=some o->f=5000000/\o=⟨ty,false,xs⟩:=by
  intro f o ho;have ho:(bif ac4 5000000 f then some (⟨ty,false,xs⟩:pC) else none)=some o:=ho;cases hh:ac4 5000000 f with
  |false=>grind
  |true=>simp_all
 have nm:bT c (bC.plain Z) e ⟨[],[],(0,.sc (.own 5000000))::fr,[(5000000,⟨ty,false,xs⟩)]⟩ a w:=by
  refine ⟨⟨rfl,rfl,rfl,(by grind [bC.plain])⟩,?_,rfl,rfl,?_,?_,(by grind [zb]),λf o ho=> ?_,(by grind),(by grind),(by grind),iA,hz⟩
  .grind
  .have:aS ((0,Slot.sc (.own 5000000))::fr)=0::aS fr:=rfl;grind
  .intro t;have ⟨g1,g2,g3⟩:=NE t;generalize au ((0,.sc (.own 5000000))::fr) t=s at g1 g2 g3;cases s<;>first|exact g3|grind
  .obtain ⟨rfl,rfl⟩:=mq f o ho;have ⟨I,cells,p1,p2,p3,p4,p5⟩:=im.row;exact ⟨I,cells,p1,p2,p3,p4,(by grind [bC.fz,bC.plain])⟩
 exact WJ (X:=λb st K=>pT c b MV st K) (by grind [Tw]) hG (fresh:=some ty) (by grind) nm rfl hb
end
def aoN (c:Ctx)(n ty:Nat)(fn:Func):Bool:=
 !(fn.name== "runtime.NumGoroutine")&&ac4 c.n fn.ntmps&&aeY fn.params.size fn.ntmps&&c.cS n&&(match c.sig n with|none=>true|some _=>false)&&yG c n fn (some ty)
def eE.fnG {P:Program} {c c':Ctx}{g:Nat->List MV->Option MV}{n ty:Nat}{fn:Func}{F:List MV->Option MV}(h:eE P c g)(hl:Hl c c')(hgg:c'.g=g)(ng:iz P c.ti)(Aa:Wh P c.ti)(hfk: ∀t k,c.fk t=some k->P.underlying t=some (.float k))(hmt:Cx P c)(TF:P.follows .mixedOrders=true)(QI:vZ P c)(hf:P.funcs[n]? =some fn)(hh:aoN c' n ty fn=true)(G9: ∀f,c.key f=f)(hF: ∀{ms r},F ms=some r->age c' ty fn ms=some r):eE P c (aG n F g):=by
 have hG:Good P c':=by
  refine ⟨by grind [hl.ti],by grind [hl.ti],λf ms r hr=> ?_,by grind [hl.fk],λt s hs=>hmt t s ?_⟩
  .rw [hgg,hl.key] at hr;exact (h.all f ms r hr).kq hl
  .grind [Y6,Ctx.tv,hl.mt,hl.ti]
 refine h.add (λf ms r hk hr=> ?_);rw [G9] at hk;subst hk;simp only [aoN,bD,afI] at hh;have ⟨⟨⟨⟨⟨h1,h2⟩,h3⟩,h4⟩,h5⟩,h6⟩:=hh;have hs:c'.sig f=none:=by
  cases hs:c'.sig f with
  |none=>rfl
  |some sg=>grind
 exact (ahU hG (NU hG TF (QI.kq hl)) hf h1 (by simp_all) (by simp_all) (by simp_all [hl.key]) (by simp_all [hl.key]) (by rw [hl.key,G9];exact R5 h6 ty rfl) (hF hr)).kq hl.symm
def kF (size bytes:Nat):List MV->Option MV
 |[.list xs]=>bif oL size xs&&aeY (xs.length *bytes) (2^46) then some (.fresh xs) else none
 |_=>none
def ku (bytes:Nat):List MV->Option MV
 |[.fresh xs,.i .i64 i,.fresh ys]=>bif decide (0<=i)&&(aeY i.toNat xs.length&&(!ys.isEmpty&&aeY ((xs.length+ys.length) *bytes) (2^46))) then some (.fresh (xs.take i.toNat++ys++xs.drop i.toNat)) else none
 |_=>none
def xX {size bytes:Nat}{ms:List MV}{r:MV}(h:kF size bytes ms=some r): ∃xs,ms=[.list xs]/\r= .fresh xs/\oL size xs=true/\xs.length *bytes<=2^46:=by
 unfold kF at h;split at h
 .rename_i xs;cases hb:oL size xs&&aeY (xs.length *bytes) (2^46) with
  |false=>grind
  |true=>simp_all
 .cases h
def AA {bytes:Nat}{ms:List MV}{r:MV}(h:ku bytes ms=some r): ∃xs ys i,ms=[.fresh xs,.i .i64 ((i:Nat):Int),.fresh ys]/\r= .fresh (xs.take i++ys++xs.drop i)/\i<=xs.length/\ys≠[]/\(xs.length+ys.length) *bytes<=2^46:=by
 unfold ku at h;split at h
 .rename_i xs i ys;obtain ⟨hb,h⟩:=ob h;simp only [IT] at h;simp only [bD,decide_eq_true_eq,afI] at hb;obtain ⟨h1,h2,h3,h4⟩:=hb;refine ⟨xs,ys,i.toNat,?_,h.symm,By h2,?_,By h4⟩;all_goals grind
 .cases h
def eE.none (P:Program)(c:Ctx):eE P c (λ_ _=>Option.none):=⟨(by grind)⟩
def eE.Lz {P:Program}{c:Ctx}{g:Nat->List MV->Option MV}{n:Nat}{F:List MV->Option MV}(h:eE P c g)(G9: ∀f,c.key f=f)(hF: ∀ms r,F ms=some r->dG P c n ms r):eE P c (aG n F g):=h.add (by grind)
def AB:Code->List Oper
 | .region _ ops _=>ops.toList
 | .seq x y=>AB x++AB y
 | .cond _ x y=>AB x++AB y
 | .block _ x=>AB x
 | .loop x=>AB x
 |_=>[]
def jc (fn:Func)(d:Oper)(k:Nat):Oper:=match fn.body with|some c=>(AB c).getD k d|none=>d
def TV (o:Nat->Oper):Code:= .seq (.region 18 #[o 83,o 84,o 85,o 86,o 87] false) (.seq (.region 19 #[o 88,o 89,o 90,o 91,o 92] false) (.seq (.region 20 #[o 93,o 94] false) .ret))
def jd:Oper:={dst:=none,op:= .move (.tmp 0),type:=0,pos:= "",after:= #[],guard:=none}
def cellsD:Nat->DataW Unit->List Value
 |n+1,.agg ds=>ds.flatMap (cellsD n)
 |_,.lit (.int k v)=>[.int k v]
 |_,_=>[]
def adR (cs:Array Value):Obj->Obj
 | .cells _ t z=> .cells cs t z
 |o=>o
def N5 (P:Program):List (String×DataW Unit)->Array Obj->Array Obj
 |[],h=>h
 |x::r,h=>match P.globalNamed x.1 with
  |some g=>N5 P r (h.modify g (adR (cellsD 4 x.2).toArray))
  |none=>N5 P r h
noncomputable def au9 (P:Program)(l:List (String×DataW Unit))(os:Os)(args:Array Value):World:={World.holding P os ⟨#[],args,[]⟩ with heap:=N5 P l (World.holding P os ⟨#[],args,[]⟩).heap}
def Xj {a b:Bool}(h1:a=true)(h2:b=true):(a&&b)=true:=by grind
def EU:List Char:=[99,117,116].map amA
def ava:(EU== "gc".toList)=false:=abs
def al4:(EU== "spec".toList)=false:=abs
def aq3:(EU== "cut".toList)=true:=abs
def ZU:(EU== "carried".toList)=false:=abs
section
variable {P:Program}{L:List (List Char)}{ns:List Nat}{R:Type}
def Sd (h:P.initOrder=String.ofList (ns.map amA)):P.initOrder.toList=ns.map amA:=by simp_all
def al5 {h s:List Char}(e:wordsSigns P.initOrder.toList=h::s::L)(h1:isSumSigns s=true)(h2:(h== "harness".toList)=true):P.mainIs=some (true,s):=by simp_all [Program.mainIs,an1,AI,if_false,if_true]
def al6 (e:behindMainWord (wordsSigns P.initOrder.toList)=EU::L):P.make=some .cut:=by unfold Program.make;rw [e];simp only [ava,al4,aq3,Bool.or_false,AI,if_false,Bool.true_or,if_true]
def ahV (e:behindMainWord (wordsSigns P.initOrder.toList)=EU::L)(h1:(stripLifts liftWords (EU::L)).1=[])(h2:((stripLifts liftWords (EU::L)).2.head? ==some "cut".toList)=true)
 (h3:P.doorFits []=true) (h4:P.laysLater=false) (h5:P.bearsReflect=false):P.mayEnter=true:=by
 unfold Program.mayEnter;grind
def ahW (e:behindMainWord (wordsSigns P.initOrder.toList)=EU::L)(h1:(stripLifts liftWords (EU::L)).1=[]):P.liftsFinal=false:=by unfold Program.liftsFinal Program.headLifts;simp_all [EU,List.head?_cons,ZU,Bool.false_and,an2]
def al7 {c:OpenClaim}(h:P.make=some .cut)(hc:c.make= .cut):(P.make==some c.make)=true:=by grind
def ahX {c:OpenClaim}(h:P.liftsFinal=false)(hc:c.lifted=false):(c.lifted==P.liftsFinal)=true:=by grind
@[simp] def aEw (x : Bool)(K : Bool -> Option R) : gB (.b x) K = K x := (rfl)
@[simp] theorem azW (k : IntKind)(x : Int)(K : Int -> Option R) : gI k (.i k x) K = K x := by simp [gI]
@[simp] def aEx (x : List UInt8)(K : List UInt8 -> Option R) : gS (.s x) K = K x := (rfl)
@[simp] def aEy (x : List MV)(K : List MV -> Option R) : gL (.list x) K = K x := (rfl)
@[simp] def aEz (k : IntKind)(n : Nat)(x : List Int)(K : List Int -> Option R) : gH k n (.h k n x) K = K x := by simp [gH]
@[simp] def aEA (x : List MV)(K : List MV -> Option R) : gA (.agg x) K = K x := (rfl)
@[simp] def aEB (x : List MV)(K : List MV -> Option R) : gT (.cw x) K = K x := (rfl)
@[simp] def aEC (x : List MV)(K : List MV -> Option R) : gF (.fresh x) K = K x := (rfl)
@[simp] def aB5 (f : Nat)(x : List MV)(K : Nat -> List MV -> Option R) : YQ (.func f x) K = K f x := (rfl)
@[simp] def aED (f : Nat)(x : List MV)(K : MV -> Option R) : gR (.func f x) K = K (.func f x) := (rfl)
@[simp] def aEE (m : MV)(r : List MV)(K : MV -> List MV -> Option R) : gC (m :: r) K = K m r := (rfl)
@[simp] def aEF (K : Option R) : gN [] K = K := (rfl)
@[simp] theorem ak {α : Type}(a : α)(K : α -> Option R) : bd (some a) K = K a := (rfl)
@[simp] def aB6 (a b : Nat) : ac4 a b = decide (a = b) := iy a b
@[simp] def avb (K : Option R) : bS true K = K := (rfl)
@[simp] def avc (x y : Option R) : eC true x y = x := (rfl)
@[simp] def asS (x y : Option R) : eC false x y = y := (rfl)
end
theorem dH {x:Int}(h1: -9223372036854775808<=x)(h2:x<=9223372036854775807):No .i64 x=x:=by grind [aks]
def ahY {i j:Nat}(h:i+j<2^62):No .i64 (amP (No .u64 (No .i64 ((i:Int)+(j:Int)))) (2^min (alv 1) (ako .u64)))=(((i+j)/2:Nat):Int):=by
 have h2:No .u64 ((i+j:Nat):Int)=((i+j:Nat):Int):=by
  have:No .u64 ((i+j:Nat):Int)=((i+j:Nat):Int)%18446744073709551616:=by simp [No,IntKind.signed,ako]
  rw [this];omega
 grind [min,alv,ako,Int.fdiv_eq_ediv_of_nonneg,aks]
section
variable {σ R:Type}{body:σ->Option (Sum σ R)}
theorem adS {n:Nat}{s:σ}{r:R}(h:iter body n s=some r): ∀{m:Nat},n<=m->iter body m s=some r:=by
 induction n generalizing s with
 |zero=>cases h
 |succ n ih=>
  intro m hm;obtain ⟨m,rfl⟩: ∃k,m=k+1:=⟨m-1,aab⟩
  grind [iter]
theorem Ft {k n:Nat}{s:σ}{r:R}(h:iter body n s=some r):oT k body s=some r:=by
 have he: ∃r n,iter body n s=some r:=⟨r,n,h⟩
 have one: ∀{m:Nat} {r':R},iter body m s=some r'->r'=r:=(by grind [adS,Nat.le_max_left,Nat.le_max_right,aok])
 unfold oT;grind
theorem dI {n:Nat}{s:σ}{r:R}(h:iter body n s=some r):Loop body s=some r:=Ft h
def ahZ (I:σ->Prop) (μ:σ->Nat)(Q:R->Prop)(h: ∀s,I s->(∃s',body s=some (.inl s')/\I s'/\μ s'<μ s)\/(∃r,body s=some (.inr r)/\Q r)){s:σ}(hs:I s): ∃r,Loop body s=some r/\Q r:=by
 have key: ∀k s,I s->μ s<k-> ∃r,iter body k s=some r/\Q r:=by
  intro k;induction k with
  |zero=>grind
  |succ k ih=>grind [iter]
 have ⟨r,e,hq⟩:=key (μ s+1) s hs aab;grind [dI]
def ah0 (S:Nat->σ)(N:Nat)(Q:R->Prop)(P:Nat->Prop)(h0:P 0)(h: ∀k,k<N->P k->(body (S k)=some (.inl (S (k+1)))/\P (k+1))\/(∃r,body (S k)=some (.inr r)/\Q r))(he:P N-> ∃r,body (S N)=some (.inr r)/\Q r): ∃r,Loop body (S 0)=some r/\Q r:=by
 have key: ∀d k,k+d=N->P k-> ∃r,iter body (d+1) (S k)=some r/\Q r:=by
  intro d;induction d with
  |zero=>grind [iter]
  |succ d ih=>grind [iter]
 have ⟨r,e,hq⟩:=key N 0 aab h0;grind [dI]
end
def eF {R:Type}(l:List MV)(K:Nat->Option R):Option R:=K l.length
def ix {α R:Type}(l:List α)(i:Int)(K:α->Option R):Option R:=match (if 0<=i then l[i.toNat]? else none) with|some x=>K x|none=>none
def sq (l:List UInt8):List Int:=l.map λb=>(b.toNat:Int)
@[simp] theorem pk (l : List UInt8) : MQ l = (sq l).map (MV.i .u8) := by unfold MQ sq; rw [an7]; rfl
def lD {α:Type}(bytes:Nat)(l:List α):Option (List α):=if l.length *bytes<=2^46 then some l else none
def D6 {α:Type}(xs:List α)(i j:Int):Option (List α):=if 0<=i/\i<=j/\j<=(xs.length:Int) then some (xs.take i.toNat++xs.drop j.toNat) else none
def uW {α:Type}(bytes:Nat)(xs:List α)(i:Int)(ys:List α):Option (List α):=if 0<=i/\i.toNat<=xs.length/\ys≠[]/\(xs.length+ys.length) *bytes<=2^46 then some (xs.take i.toNat++ys++xs.drop i.toNat) else none
@[reducible] def FW {α : Type}(f : α -> MV)(l : List α) : MV := .list (l.map f)
@[reducible] def CJ {α : Type}(f : α -> MV)(l : List α) : MV := .fresh (l.map f)
def Sm {A B:Type}(g:B->A)(x:Option A)(y:Option B):Prop:=x=y.map g
section
variable {A B A' B' α:Type}{g:B->A}{T:Option B}
theorem Sm.at {x x':Option A}(e:x=x')(h:Sm g x' T):Sm g x T:=e▸h
theorem da {l:List MV}{K:List MV->Option A}(h:Sm g (K l) T):Sm g (gA (.agg l) K) T:=h
theorem fO {x:Bool}{K:Bool->Option A}(h:Sm g (K x) T):Sm g (gB (.b x) K) T:=h
theorem nw {x:List UInt8}{K:List UInt8->Option A}(h:Sm g (K x) T):Sm g (gS (.s x) K) T:=h
theorem bF {x:List MV}{K:List MV->Option A}(h:Sm g (K x) T):Sm g (gL (.list x) K) T:=h
theorem fB {k:IntKind}{n:Nat}{x:List Int}{K:List Int->Option A}(h:Sm g (K x) T):Sm g (gH k n (.h k n x) K) T:=by simp_all
theorem xY {x:MV}{outs:List MV}{K:MV->List MV->Option A}(h:Sm g (K x outs) T):Sm g (gW (.eH x outs) K) T:=h
theorem ox {x:List MV}{K:List MV->Option A}(h:Sm g (K x) T):Sm g (gT (.cw x) K) T:=h
theorem Fu {x:List MV}{K:List MV->Option A}(h:Sm g (K x) T):Sm g (gF (.fresh x) K) T:=h
theorem ah1 {c:List MV}{K:MV->Option A}(h:Sm g (K (.rp c)) T):Sm g (gR (.rp c) K) T:=h
theorem al8 {k:IntKind}{M:List Int}{L:List MV}{K:List Int->Option A}(e:L=M.map (MV.i k))(h:Sm g (K M) T):Sm g (Kz k L K) T:=by
 have: ∀{R:Type} (M:List Int) (K:List Int->Option R),Kz k (M.map (MV.i k)) K=K M:=by
  intro R M;induction M with
  |nil=>intro K;rfl
  |cons n M ih=>grind [Kz,azW]
 grind
theorem aoO {x:List MV}{K:List MV->Option A}(h:Sm g (K x) T):Sm g (gP (.rp x) K) T:=h
theorem yI {f:Nat}{x:List MV}{K:Nat->List MV->Option A}(h:Sm g (K f x) T):Sm g (YQ (.func f x) K) T:=h
theorem FX {f:Nat}{x:List MV}{K:MV->Option A}(h:Sm g (K (.func f x)) T):Sm g (gR (.func f x) K) T:=h
theorem aH {k:IntKind}{n:Int}{K:Int->Option A}(h:Sm g (K n) T):Sm g (gI k (.i k n) K) T:=by simpa using h
theorem ar {m:MV}{r:List MV}{K:MV->List MV->Option A}(h:Sm g (K m r) T):Sm g (gC (m::r) K) T:=h
theorem bo {K:Option A}(h:Sm g K T):Sm g (gN [] K) T:=h
theorem ap {x:Option A'}{y:Option B'}{f:B'->A'}{K:A'->Option A} {K':B'->Option B}(h:Sm f x y)(hk: ∀b,Sm g (K (f b)) (K' b)):Sm g (bd x K) (bd y K'):=by
 subst h;cases y with
 |none=>rfl
 |some b=>exact hk b
theorem bW {p:Prop}[Decidable p]{X Y:Option A} {X' Y':Option B}(h1:Sm g X X')(h2:Sm g Y Y'):Sm g (eC (decide p) X Y) (if p then X' else Y'):=by by_cases h:p<;>simpa [h] using (by assumption)
theorem cu {c:Bool}{X Y:Option A} {X' Y':Option B}(h1:Sm g X X')(h2:Sm g Y Y'):Sm g (eC c X Y) (if c then X' else Y'):=by cases c<;>simpa using (by assumption)
theorem aL {p:Prop}[Decidable p]{X:Option A} {X':Option B}(h1:Sm g X X'):Sm g (bS (decide p) X) (if p then X' else none):=by grind [bS,Sm]
theorem Ml {c:Bool}{X:Option A} {X':Option B}(h1:Sm g X X'):Sm g (bS c X) (if c then X' else none):=by grind [bS,Sm]
theorem bP {c:Bool}{X:Option A}(hc:c=true)(h:Sm g X T):Sm g (bS c X) T:=by simp_all
theorem TW {c:Bool}{X Y:Option A}(hc:c=true)(h:Sm g X T):Sm g (eC c X Y) T:=by simp_all
theorem TX {c:Bool}{X Y:Option A}(hc:c=false)(h:Sm g Y T):Sm g (eC c X Y) T:=by simp_all
theorem bJ {l:List MV}{n:Nat}{K:Nat->Option A}(e:l.length=n)(h:Sm g (K n) T):Sm g (eF l K) T:=by subst e;exact h
theorem dJ {l:List MV}{M:List α}{f:α->MV}{i:Int}{K:MV->Option A} {K':α->Option B}(e:l=M.map f)(h: ∀y,Sm g (K (f y)) (K' y)):Sm g (idx l i K) (ix M i K'):=by
 subst e;unfold idx apo ix;by_cases hi:0<=i
 .simp_all;cases M[i.toNat]? with
  |none=>rfl
  |some y=>exact h y
 .simp only [hi,if_false];rfl
theorem uX {R:Type}[Fg R]{a b x:Option R}(h1:a=x)(h2:b=x):both a b=x:=by subst h1;subst h2;rw [abk,if_pos rfl]
theorem FY {X Y:Option A}{T:Option B}(e:Y=X)(h:Sm g X T):Sm g Y T:=by grind
def LA {R:Type}(l:List Int)(K:List UInt8->Option R):Option R:=if l.all isByte then K (l.map λn=>UInt8.ofNat n.toNat) else none
theorem ah2 {R:Type}{M:List Int}: ∀{K:List UInt8->Option R},Qu (M.map (MV.i .u8)) K=LA M K:=by
 induction M with
 |nil=>intro K;rfl
 |cons n M ih=>simp only [an4,Qu,byK,gI,decide_true,cond_true,ih];grind [isByte,bS,LA]
theorem ZV {l:List MV}{M:List Int}{K:List UInt8->Option A} {K':List UInt8->Option B}(e:l=M.map (MV.i .u8))(h: ∀b,Sm g (K b) (K' b)):Sm g (Qu l K) (LA M K'):=by
 subst e;rw [ah2];unfold LA;split
 .exact h _
 .rfl
theorem ae {d:A}{a:B}(e:d=g a):Sm g (some d) (some a):=by subst e;rfl
theorem al9:Sm g none none:=rfl
theorem ama {p k:Nat}{K:Nat->Option A}{X:Option B}(h:k=p->Sm g (K p) X):Sm g (Qr [p] k K) (if k=p then X else none):=by
 by_cases hk:k=p
 .unfold Qr;simp_all
 .rw [if_neg hk];unfold Qr;rw [show ac4 k p=false from by simp_all];rfl
theorem ta {p q k:Nat}{r:List Nat}{K:Nat->Option A}{X Y:Option B}(h:k=p->Sm g (K p) X)(h2:Sm g (Qr (q::r) k K) Y):Sm g (Qr (p::q::r) k K) (if k=p then X else Y):=by
 by_cases hk:k=p
 .unfold Qr;simp_all
 simp_all [if_neg,Qr,ac4]
theorem et {n:Nat}{l:List MV}{M:List α}{f:α->MV}(e:l=M.map f)(h: ∀x,(f x).w=n):oL n l=true:=by simp_all [oL,List.all_map,af2]
theorem Xk {σ σ' ρ ρ':Type}{e:σ'->σ}{f:ρ'->ρ}{K:σ->Option (Sum σ ρ)} {K':σ'->Option (Sum σ' ρ')}(h: ∀s,Sm (Sum.map e f) (K (e s)) (K' s))(n:Nat)(s:σ'):iter K n (e s)=(iter K' n s).map f:=by
 induction n generalizing s with
 |zero=>rfl
 |succ n ih=>grind [Sm,iter]
theorem N6 {σ ρ:Type}{K:σ->Option (Sum σ ρ)}{k:Nat}{s:σ}(h: ∀n,iter K n s=none):oT k K s=none:=by simp_all [oT,dif_neg]
theorem adT {σ ρ:Type}{K:σ->Option (Sum σ ρ)}{s:σ}(h: ∀n,iter K n s=none):Loop K s=none:=N6 h
theorem dy {σ σ' ρ ρ':Type}{k:Nat}{K:σ->Option (Sum σ ρ)} {K':σ'->Option (Sum σ' ρ')}{d0:σ}{s0:σ'}(e:σ'->σ)(f:ρ'->ρ)(e0:d0=e s0)(h: ∀s,Sm (Sum.map e f) (K (e s)) (K' s)):Sm f (oT k K d0) (Loop K' s0):=by
 subst e0;unfold Sm;by_cases hx: ∃r n,iter K' n s0=some r
 .have ⟨r,n,hn⟩:=hx;rw [dI hn];have:iter K n (e s0)=some (f r):=by rw [Xk h,hn];rfl
  grind [Ft]
 .have h1: ∀n,iter K' n s0=none:=λn=>by
   cases hn:iter K' n s0 with
   |none=>rfl
   |some r=>grind
  rw [adT h1,N6 λn=>by rw [Xk h,h1];rfl];rfl
theorem uY {size bytes:Nat}{f:α->MV}(hw: ∀x,(f x).w=size)(l:List α):Sm (CJ f) (kF size bytes [.list (l.map f)]) (lD bytes l):=by unfold Sm kF lD;simp only [et (rfl:l.map f=l.map f) hw,akK,amj];simp_all
theorem Xl {f:α->MV}(xs:List α)(i j:Int):Sm (CJ f) (uV [.fresh (xs.map f),.i .i64 i,.i .i64 j]) (D6 xs i j):=by unfold Sm uV D6;by_cases h1:0<=i<;>by_cases h2:i<=j<;>by_cases h3:j<=(xs.length:Int)<;>simp [h1,h2,h3,CJ]
theorem N7 {bytes:Nat}{f:α->MV}(xs:List α)(i:Int)(ys:List α):Sm (CJ f) (ku bytes [.fresh (xs.map f),.i .i64 i,.fresh (ys.map f)]) (uW bytes xs i ys):=by
 unfold Sm ku uW;simp only [amj];have hb: ∀a b:Nat,aeY a b=decide (a<=b):=λa b=>by by_cases h:a<=b;all_goals simp_all [Nat.ble_eq_true_of_le,decide_eq_true,decide_eq_false,akH,By]
 rw [hb,hb];have he:(ys.map f).isEmpty=decide (ys=[]):=by cases ys<;>simp
 rw [he];by_cases h1:0<=i<;>by_cases h2:i.toNat<=xs.length<;>by_cases h3:ys=[]<;>by_cases h4:(xs.length+ys.length) *bytes<=2^46<;>simp [h1,h2,h3,h4,CJ]
end
abbrev amb (f:Option MV):List MV->Option MV|[]=>f|_=>none
abbrev Ji (f:MV->Option MV):List MV->Option MV|[a]=>f a|_=>none
abbrev LB (f:MV->MV->Option MV):List MV->Option MV|[a,b]=>f a b|_=>none
abbrev TY (f:MV->MV->MV->Option MV):List MV->Option MV|[a,b,c]=>f a b c|_=>none
abbrev avd (f:MV->MV->MV->MV->Option MV):List MV->Option MV|[a,b,c,d]=>f a b c d|_=>none
theorem TZ {f:Option MV}{B:List MV->Option MV}(h:B []=f){ms:List MV}{r:MV}(e:amb f ms=some r):B ms=some r:=by grind
theorem pn {f:MV->Option MV}{B:List MV->Option MV}(h: ∀a,B [a]=f a){ms:List MV}{r:MV}(e:Ji f ms=some r):B ms=some r:=by grind
theorem qv {f:MV->MV->Option MV}{B:List MV->Option MV}(h: ∀a b,B [a,b]=f a b){ms:List MV}{r:MV}(e:LB f ms=some r):B ms=some r:=by grind
theorem xZ {f:MV->MV->MV->Option MV}{B:List MV->Option MV}(h: ∀a b c,B [a,b,c]=f a b c){ms:List MV}{r:MV}(e:TY f ms=some r):B ms=some r:=by grind
theorem amc {f:MV->MV->MV->MV->Option MV}{B:List MV->Option MV}(h: ∀a b c d,B [a,b,c,d]=f a b c d){ms:List MV}{r:MV}(e:avd f ms=some r):B ms=some r:=by grind
theorem eE.fn {P:Program} {c c':Ctx}{g:Nat->List MV->Option MV}{n:Nat}{fn:Func}{aV:List (List Kd)}{F:List MV->Option MV}(h:eE P c g)(hl:Hl c c')(hgg:c'.g=g)(ng:iz P c.ti)(Aa:Wh P c.ti)(hfk: ∀t k,c.fk t=some k->P.underlying t=some (.float k))(hmt:Cx P c)(TF:P.follows .mixedOrders=true)(QI:vZ P c)(hf:P.funcs[n]? =some fn)(hh:rU c' n fn aV=true)(G9: ∀f,c.key f=f){fresh:Option Nat}(B1:yG c' n fn fresh=true)(hF: ∀{ms r},F ms=some r->rN c' aV fresh fn ms=some r):eE P c (aG n F g):=by have hb:=eE.body h hl hgg ng Aa hfk hmt TF QI hf hh G9 B1;refine h.add (λf ms r hk hr=> ?_);refine hb.all f ms r ?_;simp_all [aG]
def ah3 {α:Type}(p:α->Option Bool):List α->Option (List α)
 |[]=>some []
 |x::xs=>bd (p x) λb=>bd (ah3 p xs) λys=>some (if b then ys else x::ys)
def Ht {α σ:Type}(p:α->σ->Option (Bool×σ)):σ->List α->Option (List α×σ)
 |s,[]=>some ([],s)
 |s,x::xs=>bd (p x s) λq=>bd (Ht p q.2 xs) λr=>some (if q.1 then r.1 else x::r.1,r.2)
theorem ah4 {l:List MV} {α:Type}{M:List α}{f:α->MV}(e:l=M.map f)(h: ∀x,acZ (f x)=true):l.all acZ=true:=by grind
theorem ah5 {α σ:Type}{f:α->MV}{lv:σ->List MV}{g:Nat->List MV->Option MV}{k:Nat}{aV:List MV}{p:α->σ->Option (Bool×σ)}(h: ∀x s,Sm (λr=>MV.eH (.b r.1) (lv r.2)) (g k (f x::(aV++[.cell (.func 0 (lv s))]))) (p x s)): ∀(s:σ) (L:List α),Sm (λr=>(r.1.map f,lv r.2)) (rZ (V3 g k aV) (lv s) (L.map f)) (Ht p s L)
 |s,[]=>rfl
 |s,x::xs=>by
  have hx:=h x s;unfold Sm at hx⊢;simp only [an4,rZ,V3,Ht,hx];cases p x s with
  |none=>rfl
  |some q=>
   have ih:=ah5 h q.2 xs;unfold Sm at ih;simp_all;show _=Option.map _ (bd (Ht p q.2 xs) λr=>_);cases Ht p q.2 xs with
   |none=>rfl
   |some r=>have ⟨b,s'⟩:=q;cases b<;>rfl
section
variable {α R:Type}
theorem aI {l:List α}{k:Nat}(h:k<l.length)(K:α->Option R):ix l (k:Int) K=K l[k]:=by simp [ix,h]
def AD {l:List α}{i:Int}(h0:0<=i)(h:i.toNat<l.length)(K:α->Option R):ix l i K=K l[i.toNat]:=by grind [ix]
def T0 {l:List α}(h:0<l.length)(K:α->Option R):ix l 0 K=K l[0]:=by simp [ix,h]
@[simp] def Se {A : Type}(x : Option A) : bd x (λa => some a) = x := by cases x <;> rfl
end
def aM {A:Type}(x:Option A)(Q:A->Prop):Prop:= ∃a,x=some a/\Q a
section
variable {A B α σ ρ:Type}
def aM.mk {a:A}{Q:A->Prop}(h:Q a):aM (some a) Q:=⟨a,rfl,h⟩
def aM.of {x:Option A}{a:A}{Q:A->Prop}(e:x=some a)(h:Q a):aM x Q:=⟨a,e,h⟩
theorem aM.bd {x:Option A}{K:A->Option B}{P:A->Prop}{Q:B->Prop}(h:aM x P)(hk: ∀a,P a->aM (K a) Q):aM (bd x K) Q:=by obtain ⟨a,rfl,hp⟩:=h;exact hk a hp
def aM.imp {x:Option A}{P Q:A->Prop}(h:aM x P)(hpq: ∀a,P a->Q a):aM x Q:=by have ⟨a,e,hp⟩:=h;exact ⟨a,e,hpq a hp⟩
theorem aM.ix {l:List α}{k:Nat}{K:α->Option A}{Q:A->Prop}(h:k<l.length)(hk:aM (K l[k]) Q):aM (ix l (k:Int) K) Q:=by grind [aI]
def aM.eq {x:Option A}{a:A}(h:aM x (· =a)):x=some a:=by obtain ⟨b,e,rfl⟩:=h;exact e
variable {body:σ->Option (Sum σ ρ)}
def aM.loop (I:σ->Prop) (μ:σ->Nat){Q:ρ->Prop}{s:σ}(hs:I s)(h: ∀s,I s->aM (body s) λx=>match x with| .inl s'=>I s'/\μ s'<μ s| .inr r=>Q r):aM (Loop body s) Q:=by refine ahZ I μ Q (λs hs=> ?_) hs;have ⟨x,e,hx⟩:=h s hs;grind
def aM.count (S:Nat->σ)(n:Nat){Q:ρ->Prop}(P:Nat->Prop){s:σ}(e:s=S 0)(h0:P 0)(h: ∀k,k<n->P k->aM (body (S k)) λx=>match x with| .inl s'=>s'=S (k+1)/\P (k+1)| .inr r=>Q r)(he:P n->aM (body (S n)) λx=>match x with| .inl _=>False| .inr r=>Q r):aM (Loop body s) Q:=by
 subst e;refine ah0 S n Q P h0 (λk hk hp=> ?_) (λhp=> ?_)
 .have ⟨x,e,hx⟩:=h k hk hp;grind
 .have ⟨x,e,hx⟩:=he hp;grind
end
theorem wrap64 {x:Int}(h1: -9223372036854775808<=x)(h2:x<=9223372036854775807):No .i64 x=x:=dH h1 h2
def ave {σ R:Type}(n:Nat)(body:σ->Option (Sum σ R))(s:σ):Option R:=iter body n s
def Le {A:Type}(x y:Option A):Prop:= ∀a,x=some a->y=some a
section
variable {A B σ ρ α:Type}
theorem Le.rfl' (x:Option A):Le x x:=λ_ h=>h
theorem Le.bd {x x':Option A} {K K':A->Option B}(h:Le x x')(hk: ∀a,Le (K a) (K' a)):Le (bd x K) (bd x' K'):=by
 intro b hb;cases hx:x with
 |none=>rw [hx] at hb;cases hb
 |some a=>rw [hx] at hb;rw [h a hx];exact hk a b hb
theorem Le.ix {l:List α}{i:Int} {K K':α->Option A}(h: ∀a,Le (K a) (K' a)):Le (ix l i K) (ix l i K'):=by grind [Dn.ix,Le.rfl']
theorem Le.iter {K K':σ->Option (Sum σ ρ)}(h: ∀s,Le (K s) (K' s))(n:Nat)(s:σ):Le (iter K n s) (iter K' n s):=by
 induction n generalizing s with
 |zero=>exact Le.rfl' _
 |succ n ih=>
  intro r hr;simp only [Dn.iter] at hr⊢;cases hk:K s with
  |none=>grind
  |some x=>
   rw [hk] at hr;rw [h s x hk];cases x with
   |inl s'=>exact ih s' r hr
   |inr r'=>exact hr
def Le.loop {n:Nat} {K K':σ->Option (Sum σ ρ)}{s:σ}(h: ∀s,Le (K s) (K' s)):Le (ave n K s) (Loop K' s):=λr hr=>dI (Le.iter h n s r hr)
def Le.sum {P Q:Type}{x:P⊕Q} {f f':P->Option A} {g g':Q->Option A}(h1: ∀p,Le (f p) (f' p))(h2: ∀q,Le (g q) (g' q)):Le (match x with| .inl p=>f p| .inr q=>g q) (match x with| .inl p=>f' p| .inr q=>g' q):=by grind
end
theorem Le.uy {α:Type}{p q:α->Option Bool}(h: ∀x,Le (p x) (q x)): ∀L:List α,Le (ah3 p L) (ah3 q L)
 |[]=>Le.rfl' _
 |x::xs=>Le.bd (h x) λb=>Le.bd (Le.uy h xs) λ_=>Le.rfl' _
def T3 (x y:Int):Int:=if x<y then-1 else if y<x then 1 else 0
def qw {α:Type}(key:α->Int)(L:List α)(s:Int):Nat:=L.countP (λe=>decide (key e<s))
def gh {α:Type}(key:α->Int)(L:List α)(s:Int):Bool:=L.any λe=>decide (key e=s)
def tA {α:Type}(key:α->Int)(L:List α):Prop:=L.Pairwise λa b=>key a<key b
section
variable {α τ:Type}{key:α->Int}{ρ:Type}
theorem aq4 {L:List α}{s:Int}{p:Nat}(hp:p<=L.length)(h1: ∀k (hk:k<L.length),k<p->key L[k]<s)(h2: ∀k (hk:k<L.length),p<=k->s<=key L[k]):qw key L s=p:=by
 have h3:(L.take p).countP (λe=>decide (key e<s))=(L.take p).length:=by
  rw [List.countP_eq_length];intro a ha;obtain ⟨k,hk,rfl⟩:=agM.1 ha;have Lw:k<p:=by rw [AS] at hk;omega
  rw [List.getElem_take];exact (by grind)
 have h4:(L.drop p).countP (λe=>decide (key e<s))=0:=by rw [List.countP_eq_zero];intro a ha;obtain ⟨k,hk,rfl⟩:=agM.1 ha;rw [afu] at hk;rw [List.getElem_drop];have:=h2 (p+k) aab aab;simp;omega
 grind [qw,decide,akT,AS]
def tA.lt {L:List α}(hs:tA key L){i j:Nat}(hj:j<L.length)(h:i<j):key (L[i]' aab)<key L[j]:=List.pairwise_iff_getElem.1 hs i j aab hj h
def tA.le {L:List α}(hs:tA key L){i j:Nat}(hj:j<L.length)(h:i<=j):key (L[i]' aab)<=key L[j]:=by
 rcases Nat.lt_or_eq_of_le h with h|h
 .exact Int.le_of_lt (hs.lt hj h)
 grind
theorem T4 (L:List α)(s:Int):qw key L s<=L.length:=List.countP_le_length
def tA.lb {L:List α}(hs:tA key L)(s:Int):(∀k (hk:k<L.length),k<qw key L s->key L[k]<s)/\(∀k (hk:k<L.length),qw key L s<=k->s<=key L[k]):=by
 have: ∃p,p<=L.length/\(∀k (hk:k<L.length),k<p->key L[k]<s)/\(∀k (hk:k<L.length),p<=k->s<=key L[k]):=by
  induction L with
  |nil=>simp_all
  |cons a l ih=>
   have yY:=List.pairwise_cons.1 hs;by_cases ha:key a<s
   .have ⟨p,h1,h2,h3⟩:=ih yY.2;refine ⟨p+1,by simp;omega,λk hk hkp=> ?_,λk hk hkp=> ?_⟩;all_goals grind
   .refine ⟨0,afN _,λk hk hkp=>aab,λk hk _=> ?_⟩;grind
 grind [aq4]
def tA.has {L:List α}(hs:tA key L)(s:Int):gh key L s=true↔ ∃h:qw key L s<L.length,key L[qw key L s]=s:=by
 have ⟨h1,h2⟩:=hs.lb s;unfold gh;rw [aku];constructor
 .rintro ⟨x,hx,he⟩;obtain ⟨k,hk,rfl⟩:=agM.1 hx;have he:key L[k]=s:=by simpa using he
  have hge:qw key L s<=k:=by refine Nat.le_of_not_lt λdX=> ?_;have:=h1 k hk dX;omega
  have hl:qw key L s<L.length:=aab
  refine ⟨hl,?_⟩;have:=h2 _ hl (afx _);have:=hs.le hk hge;omega
 grind
theorem qx {L:List α}{s:Int}:gh key L s=true↔ ∃x∈L,key x=s:=by simp [gh]
noncomputable def bsL (x:List α)(target:τ)(cmp:α->τ->Option Int)(st:Int×Int):Option ((Int×Int)⊕Int):=if st.1<st.2 then
 if (0:Int)<=1 then
 ix x (No .i64 (amP (No .u64 (No .i64 (st.1+st.2))) (2^min (alv 1) (ako .u64)))) λy=>
 bd (cmp y target) λrA=>
 bd (if rA<0 then
  some (No .i64 ((No .i64 (amP (No .u64 (No .i64 (st.1+st.2))) (2^min (alv 1) (ako .u64))))+1),st.2)
  else
  some (st.1,No .i64 (amP (No .u64 (No .i64 (st.1+st.2))) (2^min (alv 1) (ako .u64)))):Option (Int×Int)) λw1=>
 some (.inl (w1.1,w1.2))
 else none
 else
 some (.inr st.1)
noncomputable def bsearch (x:List α)(target:τ)(cmp:α->τ->Option Int):Option (Int×Bool):=bd (Loop (bsL x target cmp) (0,(x.length:Int))) λw=>
 bd (if w<(x.length:Int) then
  ix x w λy1=>
  bd (cmp y1 target) λaO=>
  some (w,decide (aO=0))
  else
  some (w,false):Option (Int×Bool)) λw2=>
 some (w2.1,w2.2)
theorem N8 {L:List α}{s:Int}{cmp:α->Int->Option Int}(hs:tA key L)(hl:L.length<2^60)(hc: ∀a,cmp a s=some (T3 (key a) s)):bsearch L s cmp=some ((qw key L s:Int),gh key L s):=by
 have ⟨uU,B3⟩:=hs.lb s;have hle:=T4 (key:=key) L s;have dR:Loop (bsL L s cmp) (0,(L.length:Int))=some (qw key L s:Int):=by
  refine aM.eq (aM.loop (λst=> ∃i j:Nat,st=((i:Int),(j:Int))/\i<=qw key L s/\qw key L s<=j/\j<=L.length) (λst=>(st.2-st.1).toNat) ⟨0,L.length,rfl,afN _,hle,afx _⟩ ?_);rintro st ⟨i,j,rfl,hi,hj,M7⟩;unfold bsL;by_cases dX:i<j
  .have hm:(i+j)/2<L.length:=aab
   simp only [show ((i:Int)<(j:Int)) by omega,if_true,show ((0:Int)<=1) by decide,ahY (by omega:i+j<2^62),aI hm,hc,ak];by_cases hlb:(i+j)/2<qw key L s
   .have hk:=uU _ hm hlb;have:T3 (key L[(i+j)/2]) s= -1:=by simp [T3,hk]
    simp_all;rw [wrap64 aab aab];exact .mk ⟨⟨(i+j)/2+1,j,abu,aab,hj,M7⟩,aab⟩
   .have hk:=B3 _ hm aab;have: ¬T3 (key L[(i+j)/2]) s<0:=by unfold T3;rw [if_neg aab];split<;>omega
    simp only [this,if_false,ak];exact .mk ⟨⟨i,(i+j)/2,rfl,hi,aab,aab⟩,aab⟩
  .simp only [show¬((i:Int)<(j:Int)) by omega,if_false];exact .mk (by grind)
 unfold bsearch;rw [dR];by_cases dX:qw key L s<L.length
 .simp only [show ((qw key L s:Int)<(L.length:Int)) by omega,if_true,aI dX,hc,ak];have h3:=B3 _ dX (afx _);have:decide (T3 (key L[qw key L s]) s=0)=gh key L s:=by
   unfold T3;rw [if_neg aab];by_cases he:key L[qw key L s]=s
   .rw [if_neg aab,decide_eq_true rfl,(hs.has s).2 ⟨dX,he⟩]
   .rw [if_pos aab,decide_eq_false abq];symm;rw [akH];intro hh;have ⟨_,hh⟩:=(hs.has s).1 hh;exact he hh
  rw [this]
 .simp only [show¬((qw key L s:Int)<(L.length:Int)) by omega,if_false,ak];have:gh key L s=false:=by rw [akH];intro hh;obtain ⟨hh,_⟩:=(hs.has s).1 hh;exact dX hh
  rw [this]
def Jj (key:α->Int)(L:List α)(a:α):List α:=L.take (qw key L (key a))++[a]++L.drop (qw key L (key a))
def N9 {L:List α}{a:α} {by':Nat}(hb:(L.length+1) *by'<=2^46):uW by' L (qw key L (key a):Int) [a]=some (Jj key L a):=by
 unfold uW;rw [if_pos]
 .rfl
 grind [T4]
def D7 {L:List α} {by':Nat}(h:L.length *by'<=2^46):lD by' L=some L:=if_pos h
theorem take_succ {L:List α}{k:Nat}(hk:k<L.length):L.take (k+1)=L.take k++[L[k]]:=(by simp_all)
def Hu {body:Int->Option (Int⊕(Unit⊕ρ))}(n:Nat)(p:Nat->Prop)(c:ρ)(h: ∀k,k<n->(∀j,j<k->p j)->(p k->body (k:Int)=some (.inl ((k+1:Nat):Int)))/\(¬p k->body (k:Int)=some (.inr (.inr c))))(he:body (n:Int)=some (.inr (.inl ()))):aM (Loop body 0) λr=>(r= .inl ()/\ ∀k,k<n->p k)\/(r= .inr c/\ ∃k,k<n/\ ¬p k):=by
 refine aM.count (λk=>(k:Int)) n (λk=> ∀j,j<k->p j) rfl (λj hj=>aab) (λk hk hp=> ?_) (λhp=> ?_)
 .by_cases hpk:p k
  .refine .of ((h k hk hp).1 hpk) ⟨rfl,λj hj=> ?_⟩;grind
  .exact .of ((h k hk hp).2 hpk) (by grind)
 .exact .of he (.inl ⟨rfl,hp⟩)
def ah6 {ρ':Type}{body:Bool×Int->Option ((Bool×Int)⊕ρ')}(n:Nat)(p:Nat->Bool)(fin:Bool->ρ')(h: ∀k b,k<n->body (b,(k:Int))=some (.inl (b||p k,((k+1:Nat):Int))))(he: ∀b,body (b,(n:Int))=some (.inr (fin b))):Loop body (false,0)=some (fin ((agN n).any p)):=by
 refine aM.eq (aM.count (λk=>((agN k).any p,(k:Int))) n (λ_=>True) abu trivial (λk hk _=> ?_) (λ_=> ?_))
 .refine .of (h k _ hk) ⟨?_,trivial⟩;grind
 .exact .of (he _) rfl
def adU {L:List α}{q:α->Bool}:(agN L.length).any (λk=>(L[k]?).any q)=L.any q:=by
 rw [amk,aku,aku];constructor
 .grind
 .rintro ⟨a,ha,h⟩;obtain ⟨k,hk,rfl⟩:=agM.1 ha;refine ⟨k,List.mem_range.2 hk,?_⟩;grind
def Sf [DecidableEq α]{a b:List α}{body:Int->Option (Int⊕(Unit⊕Bool))}(hl:a.length=b.length)(h: ∀k (ha:k<a.length)(hb:k<b.length),body (k:Int)=some (if a[k]=b[k] then .inl ((k+1:Nat):Int) else .inr (.inr false)))(he:body (a.length:Int)=some (.inr (.inl ()))):Loop body 0=some (if a=b then .inl () else .inr false):=by
 have ⟨r,e,hr⟩:=Hu (body:=body) a.length (λk=>a[k]? =b[k]?) false (by grind) he;rw [e];rcases hr with ⟨rfl,uw⟩|⟨rfl,k,hk,eR⟩
 .rw [if_pos];refine alR λk=> ?_;grind
 grind
end
def T5 {lay:List Kd}: ∀{ks:List MV},na lay ks=true->ln (cks lay) (ks.flatMap YT):=by
 induction lay with
 |nil=>intro ks h;cases ks with|nil=>rfl|cons=>grind [na]
 |cons k lay ih=>
  intro ks h;cases ks with
  |nil=>grind [na]
  |cons m ks=>
   simp only [na,bD] at h;have h2:=ih h.2;have h1:=h.1;cases k<;>cases m<;>simp only [M5] at h1<;>try (cases h1;done)
   .exact ⟨_,_,rfl,rfl,h2⟩
   .exact ⟨_,_,rfl,h1,h2⟩
   .exact ⟨_,_,rfl,rfl,h2⟩
   .rename_i k n k' n' x;simp only [bD,decide_eq_true_eq] at h1;have ⟨rfl,_,h1⟩:=h1;have:=(NI k' x).append h2;rw [AT h1] at this;exact this
def ame {lay:List Kd}: ∀{a b:List MV},na lay a=true->na lay b=true->mS (a.flatMap YT) (b.flatMap YT)=Cq b a:=by
 induction lay with
 |nil=>intro a b ha hb;cases a<;>cases b<;>simp [na] at ha hb;rfl
 |cons k lay ih=>
  intro a b ha hb;cases a with
  |nil=>grind [na]
  |cons x a=>
   cases b with
   |nil=>grind [na]
   |cons y b=>
    simp only [na,bD] at ha hb;have ih:=ih ha.2 hb.2;have h1:=ha.1;have h2:=hb.1;cases k<;>cases x<;>simp only [M5] at h1<;>try (cases h1;done)
    all_goals cases y<;>simp only [M5] at h2<;>try (cases h2;done)
    .simp only [akp,YT,akM,akx,mS,ceq,Cq,VX,ih];grind
    .simp only [akp,YT,akM,akx,mS,ceq,Cq,VX,ih,decide_true,akK];grind
    .simp only [akp,YT,akM,akx,mS,ceq,Cq,VX,ih];grind
    .simp only [bD,decide_eq_true_eq] at h1 h2;have ⟨rfl,e1,e2⟩:=h1;have ⟨rfl,e3,e4⟩:=h2;have e1:=AT e1;have e2:=AT e2;have e4:=AT e4;simp only [akp,YT,Cq,VX,decide_true,Nat.beq_refl,akK];rw [xV (by grind [dj]),RX _ _ _ aab,ih];grind
def Jk:TypeDesc->Bool
 | .bool| .int _| .string=>true
 |_=>false
def avg (P:Program)(n:Nat)(fs:List Field):Bool:=fs.all λf=>(match P.underlying f.type with|some d=>Jk d|none=>false)&&aeY (f.offset+1) n
def aoP (P:Program)(kt:Nat)(I:TI):Bool:=match P.underlying kt with
 |some .bool=>!I.st&&pG I.lay .b
 |some (.int k)=>!I.st&&pG I.lay (.i k)
 |some .string=>!I.st&&pG I.lay .s
 |some (.struct fs)=>I.st&&(match pi P 20 kt with|some ks=>Lo ks (cks I.lay)|none=>false)&&avg P (cks I.lay).length fs.toList
 |_=>false
def aoQ (b:Bool):Option Value->Bool
 |some (.bool false)=>b
 |some (.int .i64 n)=>!b&&decide (n=0)
 |_=>false
def avh (P:Program)(ti:Nat->Option TI)(t kt:Nat)(b:Bool):Bool:=match P.underlying t with
 |some (.map kt' el)=>ac4 kt' kt&&(match P.info? el with|some i=>aoQ b i.zero|none=>false)&&(match ti kt with|some I=>Av I.cy&&aoP P kt I|none=>false)
 |_=>false
def Fw:List (Nat×(Nat×Bool))->Nat->Option (Nat×Bool)
 |[],_=>none
 |(k,s)::r,t=>bif ac4 k t then some s else Fw r t
def adV {l:List (Nat×(Nat×Bool))}{t:Nat}{I:Nat×Bool}(h:Fw l t=some I):(t,I)∈l:=by
 induction l with
 |nil=>grind [Fw]
 |cons p l ih=>simp only [Fw,iy] at h;grind
def amf (P:Program)(ti:Nat->Option TI)(l:List (Nat×(Nat×Bool))):Bool:=l.all λp=>avh P ti p.1 p.2.1 p.2.2
def D8 {k:Kd}{ks:List MV}(h:na [k] ks=true): ∃m,ks=[m]/\M5 k m=true:=by
 cases ks with
 |nil=>grind [na]
 |cons m r=>
  cases r with
  |cons=>grind [na]
  |nil=>exact ⟨m,rfl,by grind [na]⟩
def lE {P:Program}{t:TypeId}{d:TypeDesc}(hu:P.underlying t=some d)(hd:Jk d=true)(em:Bool)(n:Nat)(v:Value)(w:World):(alu em (n+1) t v).run P w= .ok () w:=by rw [alu];simp only [aob,run_underlying hu,Result.andThen];cases d<;>simp [Jk] at hd<;>cases v<;>rfl
def Oa {P:Program}{t:TypeId}{d:TypeDesc}(hu:P.underlying t=some d)(hd:Jk d=true){xs:Array Value}{off:Nat}(h:off<xs.size)(w:World):(Go.part t xs off).run P w= .ok xs[off] w:=by cases d<;>simp [Jk] at hd<;>simp [Go.part,isAgg,run_underlying hu,h]
theorem Ob {P:Program}{c:Ctx}{l:List (Nat×(Nat×Bool))}(h:amf P c.ti l=true)(hm: ∀t p,c.mt t=some p->Fw l t=some p):Cx P c:=by
 intro t s hs;unfold Y6 at hs;cases hmt:c.mt t with
 |none=>grind
 |some p=>
  have ⟨kt,b⟩:=p;simp only [hmt] at hs;cases hI:c.tv kt with
  |none=>grind
  |some I=>
   simp only [hI] at hs;cases hit:acU ⟨I.st,I.lay,b⟩ with
   |true=>grind
   |false=>
   simp only [hit,cond_false,IT] at hs;subst hs;have ⟨S9,VL⟩:=a8 hI;have hb:=af2.1 h _ (adV (hm t _ hmt));simp only [avh] at hb;split at hb
   .rename_i kt' el hu;simp only [bD] at hb;have ⟨⟨uU,B3⟩,hb3⟩:=hb;have uU:=AT uU;subst uU;split at B3
    .rename_i inf azX;rw [S9] at hb3;simp at hb3;have hk:=hb3.2;have hz: ∀w:World,(zeroValue el).run P w= .ok (agm b (abo b)) w:=by
      intro w;have:inf.zero=some (agm b (abo b)):=by
       generalize inf.zero=z at B3;unfold aoQ at B3;split at B3
       .subst B3;rfl
       .simp only [bD,afI] at B3;have ⟨h1,h2⟩:=B3;subst h1;rw [of_decide_eq_true h2];rfl
       .cases B3
      simp [zeroValue,typeInfo,azX,this]
     unfold aoP at hk;refine ⟨kt',el,hu,hz,?_⟩;split at hk
     .rename_i hd;simp at hk;have hl:=gw hk.2;refine ⟨λem ks w hf=>lE hd rfl em 9999 _ w,_,hd,.inl λa b' ha EM=> ?_⟩;rw [hl] at ha EM;obtain ⟨x,rfl,hx⟩:=D8 ha;obtain ⟨y,rfl,hy⟩:=D8 EM;cases x<;>simp [M5] at hx;cases y<;>simp [M5] at hy;simp only [hk.1,G5,alD,Cq,VX,alL];grind
     .rename_i k hd;simp at hk;have hl:=gw hk.2;refine ⟨λem ks w hf=>lE hd rfl em 9999 _ w,_,hd,.inl λa b' ha EM=> ?_⟩;rw [hl] at ha EM;obtain ⟨x,rfl,hx⟩:=D8 ha;obtain ⟨y,rfl,hy⟩:=D8 EM;cases x<;>simp [M5] at hx;cases y<;>simp [M5] at hy;simp only [hk.1,G5,alD,Cq,VX,alL,if_true,decide_true,akK];grind
     .rename_i hd;simp at hk;have hl:=gw hk.2;refine ⟨λem ks w hf=>lE hd rfl em 9999 _ w,_,hd,.inl λa b' ha EM=> ?_⟩;rw [hl] at ha EM;obtain ⟨x,rfl,hx⟩:=D8 ha;obtain ⟨y,rfl,hy⟩:=D8 EM;cases x<;>simp [M5] at hx;cases y<;>simp [M5] at hy;simp only [hk.1,G5,alD,Cq,VX,alL];congr 1;rw [beq_toListBytes,alB,alB,amk];grind
     .rename_i fs hd;simp at hk;have ⟨⟨fw,hkk⟩,hfs⟩:=hk;split at hkk
      .rename_i ks hks;have hkk:=abH hkk;subst hkk;have hkv: ∀q,G5 true q= .agg (q.flatMap YT).toArray:=by intro q;rfl
       refine ⟨λem q w hf=> ?_,_,hd,.inr λx y hx hy=>⟨?_,λw=> ?_⟩⟩
       .have hlen:(q.flatMap YT).length=(cks I.lay).length:=(T5 hf).length;rw [fw,hkv,show (10000:Nat)=9999+1 from rfl,alu];simp only [aob,run_underlying hd,Result.andThen_ok];rw [<-Array.forIn_toList];have each: ∀f∈fs.toList,(∃d,P.underlying f.type=some d/\Jk d=true)/\f.offset<(q.flatMap YT).toArray.size:=by
         intro f hf;have:=af2.1 hfs f hf;simp only [bD] at this;obtain ⟨h1,h2⟩:=this;split at h1
         .rename_i d hd;exact ⟨⟨d,hd,h1⟩,by have:=By h2;grind⟩
         .cases h1
        generalize fs.toList=L at each;generalize (q.flatMap YT).toArray=xs at each;induction L with
        |nil=>simp
        |cons f L ih=>have ⟨⟨d,h1,h2⟩,h3⟩:=each f abu;have uU:=lE h1 h2 em 9998 xs[f.offset] w;have B3:=Oa (P:=P) h1 h2 h3 w;simp_all
       .rfl
       .rw [fw,hkv,hkv];have:=KW (P:=P) (w:=w) 20 kt' _ hks 9980 (.agg (x.flatMap YT).toArray) (.agg (y.flatMap YT).toArray) (x.flatMap YT) (y.flatMap YT) (by simp [xz,hd]) (by simp [xz,hd]) (T5 hx) (T5 hy);rw [ame hx hy] at this;exact this
      .cases hkk
     .cases hk
    .cases B3
   .cases hb
section
variable {α:Type}{key:α->Int}
end
class Ec (α:Type) where
 c:α->MV
class En (α:Type) where
 e:α->List MV
instance:Ec (List UInt8):=⟨MV.s⟩
instance:Ec Int:=⟨MV.i .u8⟩
instance (priority:=high):En (List UInt8):=⟨λs=>[.s s]⟩
instance:En Bool:=⟨λb=>[.b b]⟩
instance:En Int:=⟨λn=>[.i .i64 n]⟩
instance:En Unit:=⟨λ_=>[]⟩
instance {α:Type} [Ec α]:En (List α):=⟨λl=>[.list (l.map Ec.c)]⟩
instance {α β:Type} [En α] [En β]:En (α×β):=⟨λp=>En.e p.1++En.e p.2⟩
theorem LC {p:Prop}(h:p:=by first|exact Iff.rfl|exact rfl|(simp only [List.length_map,List.length_append,List.length_cons,List.length_nil,List.map_append,List.map_cons,List.map_nil,List.map_take,List.map_drop,List.length_take,List.length_drop,List.length_replicate,List.map_replicate,List.map_set,List.length_set,pk];done)|(conv=>lhs;whnf);(simp only [List.length_map,List.length_append,List.length_cons,List.length_nil,List.map_append,List.map_cons,List.map_nil,List.map_take,List.map_drop,List.length_take,List.length_drop,List.length_replicate,List.map_replicate,List.map_set,List.length_set,pk];done)|(simp only [List.length_map,List.length_append,List.length_cons,List.length_nil,List.map_append,List.map_cons,List.map_nil,List.map_take,List.map_drop,List.length_take,List.length_drop,List.length_replicate,List.map_replicate,List.map_set,List.length_set,pk,En.e,Ec.c,List.cons_append,List.nil_append];first|done|rfl)|(conv=>lhs;whnf);(simp only [List.length_map,List.length_append,List.length_cons,List.length_nil,List.map_append,List.map_cons,List.map_nil,List.map_take,List.map_drop,List.length_take,List.length_drop,List.length_replicate,List.map_replicate,List.map_set,List.length_set,pk,En.e,Ec.c,List.cons_append,List.nil_append];first|done|rfl)|(simp;done)):p:=h
theorem aq6 {R:Type}[Fg R]{a b:Option R}(h:b=a):both a b=a:=uX rfl h
section
variable {A B A' B' α:Type}{g:B->A}{T:Option B}
theorem kr {x x':Option A'}{y:Option B'}{f:B'->A'}{K:A'->Option A} {K':B'->Option B}(h:Sm f x' y)(hk: ∀b,Sm g (K (f b)) (K' b))(e:x=x':=by exact LC):Sm g (bd x K) (bd y K'):=by grind [ap]
theorem gj {p p':Prop}[Decidable p][Decidable p']{X Y:Option A} {X' Y':Option B}(h1:Sm g X X')(h2:Sm g Y Y')(e:p↔p':=by exact LC):Sm g (eC (decide p) X Y) (if p' then X' else Y'):=by grind [bW]
theorem gY {c c':Bool}{X Y:Option A} {X' Y':Option B}(h1:Sm g X X')(h2:Sm g Y Y')(e:c=c':=by exact LC):Sm g (eC c X Y) (if c' then X' else Y'):=by grind [cu]
theorem CL {p p':Prop}[Decidable p][Decidable p']{X:Option A} {X':Option B}(h1:Sm g X X')(e:p↔p':=by exact LC):Sm g (bS (decide p) X) (if p' then X' else none):=by rw [show decide p=decide p' from decide_eq_decide.2 e];exact aL h1
theorem aq7 {c c':Bool}{X:Option A} {X':Option B}(h1:Sm g X X')(e:c=c':=by exact LC):Sm g (bS c X) (if c' then X' else none):=by grind [Ml]
theorem aq8 {d:A}{a:B}(e:d=g a:=by exact LC):Sm g (some d) (some a):=ae e
theorem cf {p:Prop}[Decidable p]{X:Option A} {X' Y':Option B}(h:Sm g X X')(hp:p:=by decide):Sm g X (if p then X' else Y'):=by grind
theorem dq {σ σ' ρ ρ':Type}{k:Nat}{K:σ->Option (Sum σ ρ)} {K':σ'->Option (Sum σ' ρ')}{d0:σ}{s0:σ'}(e:σ'->σ)(f:ρ'->ρ)(h: ∀s,Sm (Sum.map e f) (K (e s)) (K' s))(e0:d0=e s0:=by exact LC):Sm f (oT k K d0) (Loop K' s0):=dy e f e0 h
theorem lR {l:List MV}{M:List α}{f:α->MV} {i i':Int}{K:MV->Option A} {K':α->Option B}(h: ∀y,Sm g (K (f y)) (K' y))(e:l=M.map f:=by exact LC) (ei:i=i':=by exact LC):Sm g (idx l i K) (ix M i' K'):=by grind [dJ]
end
class Es {A B:Type} (y:Option B) (x:outParam (Option A)) (f:outParam (B->A)):Prop where
 h:Sm f x y
theorem oO {A B A' B':Type}{g:B->A} {x x':Option A'}{y:Option B'}{f:B'->A'}{K:A'->Option A} {K':B'->Option B}(i:Es y x' f)(hk: ∀b,Sm g (K (f b)) (K' b))(e:x=x':=by exact LC):Sm g (bd x K) (bd y K'):=kr i.h hk e
theorem aq9 {A B:Type}{g:B->A}[Fg A]{X Y:Option A}{T:Option B}(h1:Sm g X T)(h2:Sm g Y T):Sm g (both X Y) T:=by rw [aq6 (h2.trans h1.symm)];exact h1
section
variable {A B σ' ρ' ρ1 ρ2 B':Type}{g:B->A}
theorem azZ {n k:Nat}[En σ'][En ρ']{K:List MV->Option (Sum (List MV) (Nat×List MV))} {K':σ'->Option (Sum σ' ρ')}{d0:List MV}{s0:σ'}{KK:Nat×List MV->Option A} {KK':ρ'->Option B}(h: ∀s,Sm (Sum.map En.e (λr:ρ'=>(n,En.e r))) (K (En.e s)) (K' s))(hk: ∀b,Sm g (KK (n,En.e b)) (KK' b))(e0:d0=En.e s0:=by exact LC):Sm g (bd (oT k K d0) KK) (bd (Loop K' s0) KK'):=ap (dq En.e (λr=>(n,En.e r)) h e0) hk
theorem avi {n m k:Nat}[En σ'][En ρ1][En ρ2]{K:List MV->Option (Sum (List MV) (Nat×List MV))} {K':σ'->Option (Sum σ' (ρ1⊕ρ2))}{d0:List MV}{s0:σ'}{KK:Nat×List MV->Option A} {KK':ρ1⊕ρ2->Option B}(h: ∀s,Sm (Sum.map En.e (Sum.elim (λr=>(n,En.e r)) (λr=>(m,En.e r)))) (K (En.e s)) (K' s))(h1: ∀b,Sm g (KK (n,En.e b)) (KK' (.inl b)))(h2: ∀b,Sm g (KK (m,En.e b)) (KK' (.inr b)))(e0:d0=En.e s0:=by exact LC):Sm g (bd (oT k K d0) KK) (bd (Loop K' s0) KK'):=ap (dq En.e (Sum.elim (λr=>(n,En.e r)) (λr=>(m,En.e r))) h e0) (by grind)
theorem r_j {n:Nat}[En B']{X:Option (Nat×List MV)}{Y:Option B'}{K:Nat×List MV->Option A} {K':B'->Option B}(h:Sm (λr=>(n,En.e r)) X Y)(hk: ∀b,Sm g (K (n,En.e b)) (K' b)):Sm g (bd X K) (bd Y K'):=ap h hk
theorem az0 [En B']{X:Option (List MV)}{Y:Option B'}{K:List MV->Option A} {K':B'->Option B}(h:Sm (λr=>En.e r) X Y)(hk: ∀b,Sm g (K (En.e b)) (K' b)):Sm g (bd X K) (bd Y K'):=ap h hk
end
theorem sm {p:Prop}(h:p:=by repeat' ((conv=>arg 2;whnf);first|exact aq8|exact al9|refine oO inferInstance λ_=> ?_|refine' avi (n:=_) (m:=_) (λ_=> ?_) (λ_=> ?_) (λ_=> ?_)|refine' azZ (n:=_) (λ_=> ?_) (λ_=> ?_)|refine cf ?_|refine gj ?_ ?_|refine gY ?_ ?_|refine CL ?_|refine aq7 ?_|refine aq9 ?_ ?_|refine lR λ_=> ?_|refine az0 ?_ λ_=> ?_|refine' r_j (n:=_) ?_ λ_=> ?_)):p:=h
structure Rng where
 i1:Nat
 o1:Array Oper
 a1:Oper
 b1:Oper
 x:Operand
 d1:Nat
 t:Nat
 d2:Nat
 k:Nat
 i2:Nat
 o2:Array Oper
 a2:Oper
 r2:List Oper
 cx:Operand
 kx:Nat
 k5:Nat
 i3:Nat
 o3:Array Oper
 a3:Oper
 r3:List Oper
 rest:Code
def Rng.body (q:Rng):Code:= .seq (.region q.i2 q.o2 false) (.seq (.cond q.cx .skip (.exit q.kx)) (.block q.k5 (.seq (.region q.i3 q.o3 false) q.rest)))
def Rng.code (q:Rng):Code:= .seq (.region q.i1 q.o1 false) (.block q.k (.loop q.body))
def isNone {α:Type}:Option α->Bool
 |none=>true
 |some _=>false
section
variable {P:Program}{c:Ctx}{Z Zb Zi:bC}{e e' e3:Env}{st cj mr B:St}{a a':Act}{w w':World}{R:Type}{r:R}{Q:Exit->Act->World->Prop}{o:Oper}{hn:fV}
def bC.wd (Z:bC)(g:Nat):bC:={Z with In:=λb=>Z.In b\/b=g}
def ZW {g:Nat}{m:Option Nat}{s:Nat}{seen:Array Nat}{k:Nat}(h:bT c Z e st a w)(hg:w.heap[g]? =some (.mapIter m s seen k)): (∀t cs,au st.fr t= .box cs->e.B t≠g)/\(∀f o,aN st.aT f=some o->(e.E f).ownBlock≠some g):=by
 refine ⟨λt cs ht he=> ?_,λf o ho he=> ?_⟩
 .have hs:=h.slot t;rw [ht] at hs;obtain ⟨ob,h1,h2⟩:=hs.2.obj;rw [he,hg] at h1;cases h1;exact h2.elim
 .obtain ⟨I,cells,_,_,h3,_⟩:=(h.jC f o ho).row;rcases h3.2 with ⟨h1,_⟩|⟨g',cap,dp,h1,_,h2,_⟩;all_goals grind [afF,IT]
def za.wide {g:Nat}{m:Option Nat}{s:Nat}{seen:Array Nat}{k:Nat}(j:za c Zb Zi e B hn a w)(hz:Zb.In g)(hg:w.heap[g]? =some (.mapIter m s seen k)):za c Zb (Zi.wd g) e B hn a w:=by obtain ⟨h1,h2⟩:=ZW j.vU hg;exact ⟨j.vU,λb hb=>hb.elim (j.sub b) (by grind),λb hb=> .inl (j.new b hb),j.cX,j.T,j.keys,λt cs ht hz=>hz.elim (j.box t cs ht) (h1 t cs ht),λf o b ho hb hz=>hz.elim (j.jC f o b ho hb) (by grind),j.aqi,j.alq,j.ptr,j.men⟩
end
section
variable {P:Program}{c:Ctx}{R:Type}[Fg R]{r:R}
end
def ab3 {A B:Type}{g:B->A}{p q:Prop}[Decidable p][Decidable q]{X:Option A} {X':Option B}(e:p↔q)(h1:Sm g X X'):Sm g (bS (decide p) X) (if q then X' else none):=by
 by_cases hp:p
 .simp_all
 .rw [if_neg (λh=>hp (e.2 h)),decide_eq_false hp];rfl
@[reducible] def avj {α : Type}(f : α -> MV)(l : List α) : MV := .clip (l.map f)
def bY (c:UInt8):List UInt8->List (List UInt8)
 |[]=>[[]]
 |x::l=>if x=c then []::bY c l else match bY c l with
  |p::r=>(x::p)::r
  |[]=>[[x]]
def Oc:List MV->Option MV
 |[.s a,.s b]=>bif (aeY 1 a.length&&aeY a.length (2^46))&&(aeY 2 b.length&&(aeY b.length 1000&&b.all λx=>decide (x.toNat<128))) then some (.s (an6 a b)) else none
 |_=>none
def wb:List MV->Option MV
 |[.s a,.i .i32 r]=>bif decide (0<=r/\r<128) then some (.b (decide (0<=an5 a r.toNat.toUInt8))) else none
 |_=>none
def CM:List MV->Option MV
 |[.s a,.s [c]]=>bif aeY a.length 4294967280 then some (.fresh ((bY c a).map MV.s)) else none
 |_=>none
def Sg (a b:List UInt8):Option (List UInt8):=bif (aeY 1 a.length&&aeY a.length (2^46))&&(aeY 2 b.length&&(aeY b.length 1000&&b.all λx=>decide (x.toNat<128))) then some (an6 a b) else none
def Hv (a:List UInt8)(r:Int):Option Bool:=bif decide (0<=r/\r<128) then some (decide (0<=an5 a r.toNat.toUInt8)) else none
def T6 (a s:List UInt8):Option (List (List UInt8)):=match s with
 |[c]=>bif aeY a.length 4294967280 then some (bY c a) else none
 |_=>none
def ara (a b:List UInt8):Sm MV.s (Oc [.s a,.s b]) (Sg a b):=by unfold Sm Oc Sg;grind
def adW (a:List UInt8)(r:Int):Sm MV.b (wb [.s a,.i .i32 r]) (Hv a r):=by grind [Sm,wb,Hv,decide]
def amg (a s:List UInt8):Sm (CJ MV.s) (CM [.s a,.s s]) (T6 a s):=by
 unfold Sm T6;split
 .rename_i c;unfold CM;grind
 simp_all [CM,aky,MV.s.injEq,and_true,absurd]
theorem adX (c:UInt8): ∀l:List UInt8,Lib.splitK [c] 0 (Lib.count l [c]) l=bY c l:=by
 intro l;induction l with
 |nil=>rfl
 |cons b l ih=>
  by_cases hb:b=c
  .subst hb;have hix:ags (b::l) [b]=0:=by rw [ags];simp [List.isPrefixOf]
   rw [Lib.count_cons_eq,akB,Lib.splitK,hix];simp [bY,ih]
  .rw [Lib.count_cons_ne b c l hb];have hp:([c]:List UInt8).isPrefixOf (b::l)=false:=by simp [List.isPrefixOf,Ne.symm hb]
   have hix:ags (b::l) [c]=if ags l [c]== -1 then-1 else ags l [c]+1:=by rw [ags,hp];simp
   simp only [bY,hb,if_false];rw [<-ih];cases hk:Lib.count l [c] with
   |zero=>rfl
   |succ k=>
    have eR:ags l [c]≠ -1:=by intro he;rw [Lib.count_miss he] at hk;cases hk
    have hge:=Lib.index_ge l [c];have ⟨j,hj⟩: ∃j:Nat,ags l [c]=j:=⟨(ags l [c]).toNat,aab⟩
    have arb:(ags l [c]== -1)=false:=by simpa using eR
    have az1:(ags (b::l) [c]== -1)=false:=by rw [hix,hj];simp;omega
    rw [Lib.splitK,Lib.splitK,arb,az1,hix,hj];simp_all
def adY (c:UInt8)(s:ByteArray):(akE ⟨#[c]⟩ 0 (afG s ⟨#[c]⟩) s).map (·.data.toList)=bY c s.data.toList:=by grind [Lib.splitB_data,adX]
section
variable {P:Program}{ρ:Go.Shelf.Ren}{c:Ctx}
def Jl {f:FuncId}{args:Array Value}{w:World}{S:Ending->World->Prop}{R:Value->World->Prop}(he: ∀args w,(callFunc f args).run P w= .ok (.enter f args) w)(hc:Calls P f args w S)(h: ∀e w',S e w'-> ∃v,e= .returned v/\R v w'): dF P f args w R:=by unfold dF;rw [he];exact hc.mono h
def T7 {key:Nat->Nat} {φ:Ph}{v:Value}{l:List UInt8}(h:jI key φ [v] (.s l)): ∃b:ByteArray,v= .string b/\b.data.toList=l:=by generalize hv:[v]=vs at h;cases h;grind
def ab4 {Z:Nat->Prop} {φ:Ph}{w:World}{k:Nat}{vs:List Value}{a b:List UInt8}(hg:c.cS k=false)(h:cR c Z φ w k vs [.s a,.s b]): ∃x y:ByteArray,vs=[.string x,.string y]/\x.data.toList=a/\y.data.toList=b:=by simp only [cR,hg,AI,if_false] at h;obtain ⟨v,u,rfl,⟨_,h1⟩,v2,u2,rfl,⟨_,h2⟩,rfl⟩:=h;obtain ⟨x,rfl,hx⟩:=T7 h1;obtain ⟨y,rfl,hy⟩:=T7 h2;grind
def amh {Z:Nat->Prop} {φ:Ph}{w:World}{k:Nat}{kd:IntKind}{vs:List Value}{a:List UInt8}{n:Int}(hg:c.cS k=false)(h:cR c Z φ w k vs [.s a,.i kd n]): ∃x:ByteArray,vs=[.string x,.int kd n]/\x.data.toList=a:=by simp only [cR,hg,AI,if_false] at h;obtain ⟨v,u,rfl,⟨_,h1⟩,v2,u2,rfl,⟨_,h2⟩,rfl⟩:=h;obtain ⟨x,rfl,hx⟩:=T7 h1;generalize hv:[v2]=vs at h2;cases h2;grind
def adZ (w:World)(q:Nat):Rest w (w.drewN q):=⟨rfl,rfl,rfl⟩
def ah7 {φ:Ph}{w:World}(hi:oN φ w){b:Nat}(hb:w.heap.size<=b)(off:Nat):φ b off=none:=by
 cases hp:φ b off with
 |none=>rfl
 |some u=>have:=BY w _ (hi _ _ _ hp);grind
def ami (L:aof P ρ)(avk:(P.info? (ρ.t 116)).map (λi=>(i.zero,i.size))=some (some (.agg (sh 256 (.bool false))),256))(hg:c.cS (c.key (ρ.f 160))=false){ms:List MV}{r:MV}(h:Oc ms=some r): dG P c (ρ.f 160) ms r:=by
 unfold Oc at h;split at h
 .rename_i a b;cases hb:(aeY 1 a.length&&aeY a.length (2^46))&&(aeY 2 b.length&&(aeY b.length 1000&&b.all λx=>decide (x.toNat<128))) with
  |false=>grind
  |true=>
   rw [hb] at h;simp at h;subst h;simp only [bD] at hb;have ⟨⟨h1,h2⟩,h3,h4,h5⟩:=hb;have h1:=By h1;have h2:=By h2;have h3:=By h3;have h4:=By h4;intro φ w Z vs hz ha hi;obtain ⟨x,y,rfl,rfl,rfl⟩:=ab4 hg ha;refine Jl (akA L.f160 abs rfl) (Go.Proofs.Any.strings_Trim_set L (Go.zero_of_info avk).1 (Go.zero_of_info avk).2 x y w (by exact h3) (by rw [akI];omega) (by rw [akI];omega) (by rw [akI];omega) (Go.Proofs.ascii_of_all h5)) ?_;rintro e w' ⟨rfl,q,rfl⟩;refine ⟨_,rfl,φ,?_,?_,?_⟩
   .have g1:=dk.alloc w (akq y.data.toList) (ρ.t 116);have g2:=dk.alloc (w.alloc (.cells (akq y.data.toList) (ρ.t 116))) (akq y.data.toList) (ρ.t 116);have g:=g1.trans' g2;exact ⟨.refl φ,λb _ hl=>g.vP b hl,λ_ _ _=>rfl,g.size,g.rest.trans (adZ _ q)⟩
   .intro b o v hv;have g1:=dk.alloc w (akq y.data.toList) (ρ.t 116);have g2:=dk.alloc (w.alloc (.cells (akq y.data.toList) (ρ.t 116))) (akq y.data.toList) (ρ.t 116);exact (g1.trans' g2).cell (hi b o v hv)
   .exact ⟨rfl,by have:=jI.s (key:=c.key) (φ:=φ) (⟨(an6 x.data.toList y.data.toList).toArray⟩:ByteArray);grind⟩
 .cases h
def ZX (L:aog P ρ)(hg:c.cS (c.key (ρ.f 151))=false){ms:List MV}{r:MV}(h:wb ms=some r):dG P c (ρ.f 151) ms r:=by
 unfold wb at h;split at h
 .rename_i a n;cases hb:decide (0<=n/\n<128) with
  |false=>grind
  |true=>rw [hb] at h;simp at h;subst h;have ⟨h1,h2⟩:=of_decide_eq_true hb;intro φ w Z vs hz ha hi;obtain ⟨x,rfl,rfl⟩:=amh hg ha;refine Jl (akA L.f151 abs rfl) (ak0 L x n w h1 h2) ?_;rintro e w' ⟨rfl,rfl⟩;exact ⟨_,rfl,φ,.refl _ _ _,hi,rfl,.b _⟩
 .cases h
open Go.Proofs Go.Shelf Go.RowKit in
def ad0 (L:alC P ρ)(hi9:(P.info? (ρ.t 9)).map (λi=>(i.zero,i.size,i.bytes))=some (some (.string akz),1,16))(s:ByteArray)(b:UInt8)(w:World)(hs:s.size<4294967281): Calls P (ρ.f 146) #[.string s,.string ⟨#[b]⟩] w λe w'=>
  e= .returned (.slice (some ⟨w.heap.size,0,none⟩) (afG s ⟨#[b]⟩+1) (afG s ⟨#[b]⟩+1))/\w'=w.alloc (.cells ((akE ⟨#[b]⟩ 0 (afG s ⟨#[b]⟩) s).map akC).toArray (ρ.t 9)):=by
 have h1:1<=(⟨#[b]⟩:ByteArray).size:=afx _;have hle:=Lib.countB_le ⟨#[b]⟩ h1 s.size s (afx _);have hlen:=Lib.splitB_all ⟨#[b]⟩ h1 0 _ s rfl;have hC:Calls P (ρ.f 138) #[.string s,.string ⟨#[b]⟩] w λe w'=>e= .returned (.int .i64 (afG s ⟨#[b]⟩))/\w'=w:=by
  refine (Any.strings_Count_one {L with} s b w).mono λe w' ⟨he,hw⟩=>⟨?_,hw⟩
  rw [he];show _=Ending.returned (afw .i64 ((Lib.count s.data.toList [b]:Nat):Int));rw [Lib.count_one];rfl
 have c:=Any.strings_genSplit_core {L with} hi9 s ⟨#[b]⟩ 0 (-1) (afG s ⟨#[b]⟩+1) w hs h1 (afN _) (λx q hx=>(Any.strings_Index_one {L with} x b _).mono λe w' ⟨he,hw⟩=>⟨by rw [he];show _=Ending.returned (afw .i64 (ags x.data.toList [b]));rw [Lib.index_one],hw⟩) hC abq abq (by grind);have e2:Lib.cellsOf (akE ⟨#[b]⟩ 0 (afG s ⟨#[b]⟩) s) (afG s ⟨#[b]⟩+1)=((akE ⟨#[b]⟩ 0 (afG s ⟨#[b]⟩) s).map akC).toArray:=by rw [<-hlen];exact Lib.cellsOf_full _
 have aEI: ∀args w,(callFunc (ρ.f 221) args).run P w= .ok (.enter (ρ.f 221) args) w:=enters_of L.f221 abs rfl;go_enter L.f146,Body.n146_ntmps ρ;go_wp2_with (go_at_fn (ρ.f 221);refine c.mono ?_;rintro e w' ⟨rfl,hw⟩;rw [hw]);go_ret;simp_all
def Od {key:Nat->Nat} {φ:Ph}: ∀l:List ByteArray,bn key φ 1 (l.map akC) (l.map λb=>MV.s b.data.toList)
 |[]=>rfl
 |b::l=>⟨[.string b],_,rfl,rfl,.s b,Od l⟩
def ah8 {I:TI}(L:alC P ρ)(hi9:(P.info? (ρ.t 9)).map (λi=>(i.zero,i.size,i.bytes))=some (some (.string akz),1,16))(hg:c.cS (c.key (ρ.f 146))=false)(oM:c.mV (c.key (ρ.f 146))=ρ.t 9)(hI:c.tv (ρ.t 9)=some I)(S9:I.size=1){ms:List MV}{r:MV}(h:CM ms=some r):dG P c (ρ.f 146) ms r:=by
 unfold CM at h;split at h
 .rename_i a b;cases hb:aeY a.length 4294967280 with
  |false=>grind
  |true=>
   rw [hb] at h;simp at h;subst h;have hb:=By hb;intro φ w Z vs hz ha hi;obtain ⟨x,y,rfl,rfl,hy⟩:=ab4 hg ha;have hy':y=⟨#[b]⟩:=by
    cases y with
    |mk d=>congr 1;grind
   subst hy';have hs:x.size<4294967281:=by rw [akI];omega
   refine Jl (akA L.f146 abs rfl) (ad0 L hi9 x b w hs) ?_;rintro e w' ⟨rfl,rfl⟩;have h1:1<=(⟨#[b]⟩:ByteArray).size:=afx _;have hle:=Lib.countB_le ⟨#[b]⟩ h1 x.size x (afx _);have hlen:=Lib.splitB_all ⟨#[b]⟩ h1 0 _ x rfl;have Aa:=adY b x;have g1:=dk.alloc w ((akE ⟨#[b]⟩ 0 (afG x ⟨#[b]⟩) x).map akC).toArray (ρ.t 9);have ⟨ng,hc⟩:=a8 hI;refine ⟨_,rfl,φ,g1.trans (Z:=bC.plain Z) hz φ,λb' o v hv=>g1.cell (hi b' o v hv),?_⟩;show ch _ _ _ _ _ ⟨c.mV (c.key (ρ.f 146)),false,_⟩;rw [oM];generalize hpc:akE ⟨#[b]⟩ 0 (afG x ⟨#[b]⟩) x=pcs at *;rw [<-Aa,an7];refine ⟨I,pcs.map akC,ng,hc,?_,by rw [S9];exact Od pcs,?_⟩
   .rw [S9];refine ⟨abu,.inr ⟨w.heap.size,afG x ⟨#[b]⟩+1,_,by simp [hlen],afN _,ju w _,by simp [hlen],by grind [Go.maxLen,akI],by simp [hlen],?_⟩⟩;simp [afv]
   .intro bg qf;simp [afF] at qf;subst qf;exact ⟨hz _ (afx _),λoff u hu=>(by have hu:φ w.heap.size off=some u:=hu;rw [ah7 hi (afx _)] at hu;cases hu),λhc=>False.elim hc⟩
 .cases h
end
structure CN where
 tS:Nat
 tP:Nat
 ti:Nat
 tN:Nat
 tM:Nat
 tm:Nat
 tZ:Nat
 tB:Nat
 tb:Nat
 tf:Nat
 fCl:Nat
 f1:Nat
 fEa:Nat
 fLd:Nat
 fIs:Nat
 f2:Nat
 f3:Nat
 fLe:Nat
 fEn:Nat
 fDe:Nat
 f:Nat
 jC:Nat
 ty:Nat
 sz:Nat
def CN.k (n:CN):CK:=⟨n.fCl,n.fLd,n.fIs,n.f1,n.fEn,n.fDe,n.fLe,n.sz⟩
structure Fv (σ:Nat->Value) (bc br bd bv:Nat):Prop where
 h1:σ 1= .pointer (some ⟨bc,0,none⟩)
 h2:σ 2= .pointer (some ⟨br,0,none⟩)
 h3:σ 3= .pointer (some ⟨bd,0,none⟩)
 h4:σ 4= .pointer (some ⟨bv,0,none⟩)
theorem wOf {w:World}{g off:Nat}{vs:List Value}{arr:List Value}{T:TypeId}(hh:w.heap[g]? =some (.cells arr.toArray T (0,0)))(h: ∀j,j<vs.length->arr[off+j]? =vs[j]?):w.rangeAt g off vs:=by intro j v hj;rw [cell_of hh,akW,h j (ahB.1 hj).1];exact hj
def ah9 {key:Nat->Nat} {φ:Ph}{v:Value}{n:Int}(h:cQ key φ v (.i .i64 n)):v= .int .i64 n:=by obtain ⟨_,h⟩:=h;generalize EN:[v]=l at h;cases h;simpa using EN
def CO {key:Nat->Nat} {φ:Ph}{n:Int}:cQ key φ (.int .i64 n) (.i .i64 n):=⟨rfl,.i _ _⟩
def Xm {key:Nat->Nat} {φ:Ph}{vs:List Value}{ms:List MV}(h:il key φ vs ms):cQ key φ (.agg vs.toArray) (.agg ms):=⟨vs.toArray,rfl,by simpa using h⟩
section
variable {P:Program}{c:Ctx}{g:Nat->List MV->Option MV}{n:CN}{fn:Func}{r:Nat->Nat}{o:Nat->Oper}{φ0 φ1:Ph}{w0 W:World}{bc br bd bv:Nat}{s s':CS}{v v' l:Int}{a:Act}{σ:Nat->Value}{Q:Exit->Act->World->Prop}{W':World}
abbrev CIn (c:Ctx)(n:CN) (φ0:Ph)(w0:World) (φ1:Ph)(bc bv br:Nat)(s:CS)(v:Int)(W:World):Prop:=CI c φ0 w0 φ1 bc bv br n.jC n.ty s v W
def CI0.new {Z:Nat->Prop} {φ:Ph}{vs:List Value}{T:TypeId}(h:CI0 c φ0 w0 φ1 bc bv br n.jC n.ty s v W Z φ)(hh:W'.heap[W.heap.size]? =some (.cells vs.toArray T (0,0)))(hs:W.heap.size<=W'.heap.size)(hold: ∀b,b<W.heap.size->W'.heap[b]? =W.heap[b]?)(hr:Rest W W'): CIn c n φ0 w0 (Sc φ W.heap.size vs) bc bv br s v W':=by
 have rR: ∀o,φ W.heap.size o=none:=by
  intro o;cases hq:φ W.heap.size o with
  |none=>rfl
  |some u=>exact absurd (BY W _ (h.mj _ _ _ hq)) (Nat.lt_irrefl _)
 have hle:=N3 (vs:=vs) rR;have ov:=h.same (v':=v) hs hr (λb hb _=>hold b hb) (h.hv.same λhl=>hold bv hl);have rQ:bv<W.heap.size:=by obtain ⟨T,hT⟩:=h.hv;exact bx hT
 have hlr:br<W.heap.size:=by obtain ⟨arr,T,hT,_⟩:=h.hr;exact bx hT
 have eR: ∀b o,b<W.heap.size->Sc φ W.heap.size vs b o=φ b o:=λb o hb=>by unfold Sc;rw [if_neg (Nat.ne_of_lt hb)]
 refine ⟨_,_,ov.cell.more hle λb o hb=>eR b o hb.2,Hs ov.mj hh,⟨ov.tr.ph.trans hle,ov.tr.heap,λb o hb=> ?_,ov.tr.size,ov.tr.rest⟩,.refl _,ov.sub,ov.hv,ov.zv,λo=>by rw [eR _ _ rQ];exact h.fv o,h.nv,ov.hr,ov.zr,λo=>by rw [eR _ _ hlr];exact h.fr o,h.nr,h.ne⟩;have:b<W.heap.size:=by have:=h.tr.size;omega
 rw [eR _ _ this];exact h.tr.free b o hb
def K0 {key:Nat->Nat} {φ:Ph}{x:Value}{xs:List MV}(h:jI key φ [x] (.list xs)): ∃ad cp,x= .slice ad xs.length cp/\ ∀k (hk:k<xs.length),∃bg off IM vm,ad=some ⟨bg,off,none⟩/\vm.length=IM/\jI key φ vm xs[k]/\ ∀j,j<IM->φ bg (off+k *IM+j)=vm[j]? :=by
 generalize hv:[x]=l at h;generalize hm:MV.list xs=m at h;cases h with
 |list a cap ys bg off IM f h1 h2 h3 h4 h5=>cases hm;refine ⟨a,cap,by simpa using hv,λk hk=>⟨bg,off,IM,f k,h2 aab,h3 k hk,h5 k hk,λj hj=>h4 k j hk hj⟩⟩
 |_=>cases hm
theorem Mm {d:Nat}{op:Op}{p:Oper}(hp:al p d op)(eR: ∀t,op≠ .alloc t):Lp p=false:=by unfold Lp;rw [hp.op];cases op<;>first|rfl|exact absurd rfl (eR _)
end
structure Xn where
 xs:List MV
 e:Int
 os:List MV
structure TkF where
 ti:Nat
 tx:Nat
 may:Nat
section
variable (g:Nat->List MV->Option MV)(k:TkF)
def tkI (j:Nat)(q:Xn):Option Xn:=if q.e=0 then (match g k.ti [.list q.xs] with
 |some (.cw [.i .i64 n,.list xs,.i .i64 e])=>some ⟨xs,e,q.os.set j (.i .i64 n)⟩
 |_=>none) else some q
def T8 (j:Nat)(most:Int)(q:Xn):Option Xn:=if q.e=0 then (match g k.tx [.list q.xs,.i .i64 most] with
 |some (.cw [.s l,.list xs,.i .i64 e])=>some ⟨xs,e,q.os.set j (.s l)⟩
 |_=>none) else some q
def Jm:List Nat->Xn->Option Xn
 |[],q=>some q
 |j::r,q=>(match tkI g k j q with
  |some q=>Jm r q
  |none=>none)
def zOs:List MV:=[.i .i64 0,.i .i64 0,.i .i64 0,.s [],.s [],.i .i64 0,.i .i64 0,.i .i64 0]
def Xo (xs:List MV):Option MV:=match Jm g k [0,1,2,5,6,7] ⟨xs,0,zOs⟩ with
 |some q=>(match T8 g k 3 100 q with
  |some q=>(match T8 g k 4 1000 q with
   |some q=>if q.e=0 then (match g k.may [.agg q.os] with
    |some (.b true)=>some (.cw [.agg q.os,.list q.xs,.i .i64 0])
    |some (.b false)=>some (.cw [.agg zOs,.list [],.i .i64 3])
    |_=>none) else some (.cw [.agg zOs,.list [],.i .i64 q.e])
   |none=>none)
  |none=>none)
 |none=>none
end
def bj.set {key:Nat->Nat} {φ:Ph}{v:Value}{m:MV}(h:cQ key φ v m): ∀{ms:List MV} {vs:List Value} {j:Nat},bj key φ vs ms->bj key φ (vs.set j v) (ms.set j m):=by
 intro ms;induction ms with
 |nil=>intro vs j hh;subst hh;rfl
 |cons m' ms ih=>
  intro vs j hh;obtain ⟨v',r,rfl,h1,h2⟩:=hh;cases j with
  |zero=>exact ⟨v,r,rfl,h,h2⟩
  |succ j=>exact ⟨v',r.set j v,rfl,h1,ih h2⟩
theorem bj.len {key:Nat->Nat} {φ:Ph}: ∀{ms:List MV} {vs:List Value},bj key φ vs ms->vs.length=ms.length:=by
 intro ms;induction ms with
 |nil=>intro vs h;subst h;rfl
 |cons m ms ih=>intro vs h;obtain ⟨v,r,rfl,_,h2⟩:=h;simp [ih h2]
structure Ac (c:Ctx) (φ0:Ph) (w0:World) (φ:Ph) (W:World) (q:Xn) (vs:List Value):Prop where
 mj:oN φ W
 tr:Trans (λb=>w0.heap.size<=b) φ0 w0 φ W
 h2: ∃zs T,W.heap[w0.heap.size]? =some (.cells zs T (0,0))/\zs.size=8
 hr: ∃vb T,W.heap[w0.heap.size+1]? =some (.cells [vb,.int .i64 q.e].toArray T (0,0))/\jI c.key φ [vb] (.list q.xs)
 ho: ∃T,W.heap[w0.heap.size+2]? =some (.cells vs.toArray T (0,0))
 os:bj c.key φ vs q.os
 n:vs.length=8
 f: ∀j o,j<3->φ (w0.heap.size+j) o=none
section
variable {P:Program}{c:Ctx}{φ0 φ φ':Ph}{w0 W W':World}{q:Xn}{vs:List Value}
def Ac.grow (h:Ac c φ0 w0 φ W q vs)(t:Trans (λb=>W.heap.size<=b) φ W φ' W')(hi:oN φ' W'):Ac c φ0 w0 φ' W' q vs:=by have ⟨zs,T2,a1,a2⟩:=h.h2;have ⟨vb,Tr,b1,b2⟩:=h.hr;have ⟨To,c1⟩:=h.ho;have yS:=bx c1;have hold: ∀b,b<W.heap.size->W'.heap[b]? =W.heap[b]? :=λb hb=>t.heap b aab hb;refine ⟨hi,h.tr.trans (t.vY (by grind)),(by grind),⟨vb,Tr,by grind,b2.mono t.ph⟩,(by grind),h.os.mono t.ph,h.n,λj o hj=> ?_⟩;rw [t.free _ o aab];exact h.f j o hj
def Ac.wrote {q':Xn}{Wi:List Value}(h:Ac c φ0 w0 φ W q vs){j:Nat}(hj:j<3)(hs:W'.heap.size=W.heap.size)(hr:Rest W W')(ho: ∀b,b≠w0.heap.size+j->W'.heap[b]? =W.heap[b]?)(h2: ∃zs T,W'.heap[w0.heap.size]? =some (.cells zs T (0,0))/\zs.size=8)(hb: ∃vb T,W'.heap[w0.heap.size+1]? =some (.cells [vb,.int .i64 q'.e].toArray T (0,0))/\jI c.key φ [vb] (.list q'.xs))(hv: ∃T,W'.heap[w0.heap.size+2]? =some (.cells Wi.toArray T (0,0)))(hos:bj c.key φ Wi q'.os)(hn:Wi.length=8):Ac c φ0 w0 φ W' q' Wi:=by
 refine ⟨λb o u hu=>sn (h.mj b o u hu) λhl=>ho b λe=> ?_,⟨h.tr.ph,λb hb hl=> ?_,h.tr.free,by grind,h.tr.rest.trans hr⟩,h2,hb,hv,hos,hn,h.f⟩
 .rw [e,h.f j o hj] at hu;cases hu
 .rw [ho b aab];exact h.tr.heap b hb hl
def Ac.az4 (h:Ac c φ0 w0 φ W q vs){j:Nat}{v:Value}{m:MV}(hm:cQ c.key φ v m):Ac c φ0 w0 φ (W.setRow (w0.heap.size+2) (vs.set j v).toArray) ⟨q.xs,q.e,q.os.set j m⟩ (vs.set j v):=by have ⟨zs,T2,a1,a2⟩:=h.h2;have ⟨vb,Tr,b1,b2⟩:=h.hr;have ⟨To,c1⟩:=h.ho;refine h.wrote (j:=2) abq (setRow_size _ _ _) (.setRow _ _ _) (by grind [setRow_other]) (by grind [setRow_other]) (by grind [setRow_other]) ⟨To,iY _ c1⟩ (h.os.set hm) (by simp [h.n])
theorem Ac.EL (h:Ac c φ0 w0 φ W q vs){v:Value}{xs:List MV}(hm:jI c.key φ [v] (.list xs)):Ac c φ0 w0 φ (W.setRow (w0.heap.size+1) [v,.int .i64 q.e].toArray) ⟨xs,q.e,q.os⟩ vs:=by have ⟨zs,T2,a1,a2⟩:=h.h2;have ⟨vb,Tr,b1,b2⟩:=h.hr;have ⟨To,c1⟩:=h.ho;exact h.wrote (j:=1) abq (setRow_size _ _ _) (.setRow _ _ _) (by grind [setRow_other]) (by grind [setRow_other]) ⟨v,Tr,iY _ b1,hm⟩ (by grind [setRow_other]) h.os h.n
theorem Ac.QL (h:Ac c φ0 w0 φ W q vs){vb:Value}(e:Int)(hb:jI c.key φ [vb] (.list q.xs)):Ac c φ0 w0 φ (W.setRow (w0.heap.size+1) [vb,.int .i64 e].toArray) ⟨q.xs,e,q.os⟩ vs:=by have ⟨zs,T2,a1,a2⟩:=h.h2;have ⟨vb',Tr,b1,b2⟩:=h.hr;have ⟨To,c1⟩:=h.ho;exact h.wrote (j:=1) abq (setRow_size _ _ _) (.setRow _ _ _) (by grind [setRow_other]) (by grind [setRow_other]) ⟨vb,Tr,iY _ b1,hb⟩ (by grind [setRow_other]) h.os h.n
def Oe {t:TypeId}{I:TI}{x y:Operand}{e:Operand->Value}{g off:Nat}{v:Value}{ls:List Value}{T:TypeId}{o:Oper}(ho:gX o (.store t x y))(hT:iz P c.ti)(hI:c.tv t=some I)(hs:I.size=1)(hx:e x= .pointer (some ⟨g,off,none⟩))(hy:e y=v)(hc:v.cells.toList=[v])(h1:v.oneCell'=true)(cD:W.heap[g]? =some (.cells ls.toArray T (0,0)))(ac9:off<ls.length):(execOp e o).run P W= .ok .skip (W.setRow g (ls.set off v).toArray):=by have ⟨ng,Ls⟩:=a8 hI;rw [Hq (v:=v) ho (hT _ _ ng) Ls hx hy (by grind) (by grind) cD (by grind),hc,hs];simp_all [List.set_eq_take_append_cons_drop,if_pos]
end
structure TkT where
 tO:Nat
 tY:Nat
 te:Nat
 tR:Nat
 tQ:Nat
 tL:Nat
 tI:Nat
 tX:Nat
 ti:Nat
 tS:Nat
 tB:Nat
structure aml (P:Program) (c:Ctx) (g:Nat->List MV->Option MV) (k:TkF) (t:TkT):Prop where
 hT:iz P c.ti
 key: ∀f,c.key f=f
 snd: ∀f ms r,g f ms=some r->dG P c f ms r
 gv:c.cS k.ti=false/\c.cS k.tx=false/\c.cS k.may=false
 tyO: ∃I,c.tv t.tO=some I/\I.st=true/\I.xx=[0,1,2,3,4,5,6,7]/\I.size=8
 tyR: ∃I,c.tv t.tR=some I/\I.st=true/\I.xx=[0,1]/\I.size=2
 tyY: ∃I,c.tv t.tY=some I/\I.st=false/\I.size=1
 tye: ∃I,c.tv t.te=some I/\I.st=false/\I.size=1
 tyi: ∃I,c.tv t.ti=some I/\I.st=false/\I.size=1
 tyS: ∃I,c.tv t.tS=some I/\I.st=false/\I.size=1
 tyI: ∃I,c.tv t.tI=some I/\I.st=false/\I.size=1
 amm:P.underlying t.tL=some (.slice t.tI)
def zj {P:Program}{o:Oper}{d j:Nat}{x:Operand}{e:Operand->Value}{arr:Array Value}{v:Value}(ho:al o d (.extract x j))(hx:e x= .tuple arr)(hj:arr[j]? =some v)(w:World):(execOp e o).run P w= .ok (.value v) w:=by simp_all [execOp,ho.op,Instr.extract]
def bj.three {key:Nat->Nat} {φ:Ph}{arr:Array Value}{a b d:MV}(h:bj key φ arr.toList [a,b,d]): ∃x y z,arr[0]? =some x/\arr[1]? =some y/\arr[2]? =some z/\cQ key φ x a/\cQ key φ y b/\cQ key φ z d:=by have ⟨x,r,e1,h1,y,r2,e2,h2,z,r3,e3,h3,e4⟩:=h;subst e2 e3 e4;refine ⟨x,y,z,?_,?_,?_,h1,h2,h3⟩<;>rw [<-akr,e1]<;>rfl
def aoR {key:Nat->Nat} {φ:Ph}{v:Value}{xs:List MV}(h:cQ key φ v (.list xs)):jI key φ [v] (.list xs)/\v.cells.toList=[v]/\v.oneCell'=true:=by obtain ⟨ad,cp,rfl,_⟩:=K0 h.2;exact ⟨h.2,rfl,rfl⟩
def Of (r:Nat->Nat)(o:Nat->Oper):Code:= .seq (.region (r 0) #[o 0,o 1,o 2] false) (.block 0 (.loop (.seq (.region (r 1) #[o 3] false) (.seq (.cond (.tmp 9) .skip (.exit 0)) (.seq (.block 1 (.seq (.region (r 2) #[o 4,o 5,o 6] false) (.seq (.region (r 3) #[o 7,o 8,o 9,o 10,o 11] false) (.cond (.tmp 16) (.region (r 4) #[o 12,o 13,o 14,o 15,o 16,o 17,o 18,o 19,o 20,o 21,o 22,o 23,o 24,o 25,o 26,o 27,o 28,o 29,o 30,o 31] false) .skip)))) (.region (r 5) #[o 32,o 33] false))))))
structure amn (t:TkT) (fTI:Nat) (o:Nat->Oper):Prop where
 h0:al (o 0) 6 (.move (.tmp 1))
 h1:al (o 1) 7 (.call {callee:= .builtin .len,args:= #[.tmp 6],argTypes:= #[t.tL]})
 h2:al (o 2) 8 (.move (.const (.int .i64 0)))
 h3:al (o 3) 9 (.binOp .lss t.ti (.tmp 8) (.tmp 7) t.ti)
 h4:al (o 4) 10 (.indexAddr t.tL (.tmp 6) (.tmp 8))
 h5:al (o 5) 11 (.load t.tI (.tmp 10))
 h6:al (o 6) 5 (.assign (.tmp 11))
 h7:al (o 7) 12 (.move (.tmp 0))
 h8:al (o 8) 13 (.nilCheck (.tmp 12))
 h9:al (o 9) 14 (.fieldAddr t.tR (.tmp 13) 1)
 Hi:al (o 10) 15 (.load t.te (.tmp 14))
 QK:al (o 11) 16 (.binOp .eql t.te (.tmp 15) (.const (.int .i64 0)) t.te)
 Qo:al (o 12) 18 (.move (.tmp 5))
 R6:al (o 13) 19 (.move (.tmp 0))
 TH:al (o 14) 20 (.move (.tmp 0))
 NX:al (o 15) 21 (.move (.tmp 0))
 Mh:al (o 16) 22 (.nilCheck (.tmp 21))
 TJ:al (o 17) 23 (.fieldAddr t.tR (.tmp 22) 0)
 VP:al (o 18) 24 (.load t.tY (.tmp 23))
 W9:al (o 19) 25 (.call {callee:= .value (.func fTI),args:= #[.tmp 24],argTypes:= #[t.tY]})
 YZ:al (o 20) 17 (.move (.tmp 25))
 VQ:al (o 21) 26 (.extract (.tmp 17) 0)
 Y0:al (o 22) 27 (.extract (.tmp 17) 1)
 TL:al (o 23) 28 (.extract (.tmp 17) 2)
 Xa:al (o 24) 29 (.nilCheck (.tmp 18))
 R7:gX (o 25) (.store t.ti (.tmp 29) (.tmp 26))
 ZR:al (o 26) 30 (.nilCheck (.tmp 19))
 h27:al (o 27) 31 (.fieldAddr t.tR (.tmp 30) 0)
 h28:gX (o 28) (.store t.tY (.tmp 31) (.tmp 27))
 h29:al (o 29) 32 (.nilCheck (.tmp 20))
 h30:al (o 30) 33 (.fieldAddr t.tR (.tmp 32) 1)
 h31:gX (o 31) (.store t.te (.tmp 33) (.tmp 28))
 Y1:al (o 32) 34 (.binOp .add t.ti (.tmp 8) (.const (.int .i64 1)) t.ti)
 h33:al (o 33) 8 (.move (.tmp 34))
structure aia (P:Program) (f:Nat) (t:TkT) (fTI:Nat) (fn:Func) (r:Nat->Nat) (o:Nat->Oper):Prop where
 pos:P.funcs[f]? =some fn
 name:(fn.name== "runtime.NumGoroutine")=false
 tmps:fn.ntmps=35
 res:fn.results= #[]
 body:fn.body=some (Of r o)
 ops:amn t fTI o
def Og (r:Nat->Nat)(o:Nat->Oper):Code:= .seq (.region (r 0) #[o 0,o 1,o 2,o 3,o 4] false) (.cond (.tmp 10) (.region (r 1) #[o 5,o 6,o 7,o 8,o 9,o 10,o 11,o 12,o 13,o 14,o 15,o 16,o 17,o 18,o 19,o 20,o 21,o 22,o 23,o 24,o 25] false) .skip)
structure amo (t:TkT) (fTX:Nat) (o:Nat->Oper):Prop where
 h0:al (o 0) 6 (.move (.tmp 0))
 h1:al (o 1) 7 (.nilCheck (.tmp 6))
 h2:al (o 2) 8 (.fieldAddr t.tR (.tmp 7) 1)
 h3:al (o 3) 9 (.load t.te (.tmp 8))
 h4:al (o 4) 10 (.binOp .eql t.te (.tmp 9) (.const (.int .i64 0)) t.te)
 h5:al (o 5) 12 (.move (.tmp 1))
 h6:al (o 6) 13 (.move (.tmp 0))
 h7:al (o 7) 14 (.move (.tmp 0))
 h8:al (o 8) 15 (.move (.tmp 0))
 h9:al (o 9) 16 (.nilCheck (.tmp 15))
 Hi:al (o 10) 17 (.fieldAddr t.tR (.tmp 16) 0)
 QK:al (o 11) 18 (.load t.tY (.tmp 17))
 Qo:al (o 12) 19 (.move (.tmp 2))
 R6:al (o 13) 20 (.call {callee:= .value (.func fTX),args:= #[.tmp 18,.tmp 19],argTypes:= #[t.tY,t.ti]})
 TH:al (o 14) 11 (.move (.tmp 20))
 NX:al (o 15) 21 (.extract (.tmp 11) 0)
 Mh:al (o 16) 22 (.extract (.tmp 11) 1)
 TJ:al (o 17) 23 (.extract (.tmp 11) 2)
 VP:al (o 18) 24 (.nilCheck (.tmp 12))
 W9:gX (o 19) (.store t.tS (.tmp 24) (.tmp 21))
 YZ:al (o 20) 25 (.nilCheck (.tmp 13))
 VQ:al (o 21) 26 (.fieldAddr t.tR (.tmp 25) 0)
 Y0:gX (o 22) (.store t.tY (.tmp 26) (.tmp 22))
 TL:al (o 23) 27 (.nilCheck (.tmp 14))
 Xa:al (o 24) 28 (.fieldAddr t.tR (.tmp 27) 1)
 R7:gX (o 25) (.store t.te (.tmp 28) (.tmp 23))
structure aib (P:Program) (f:Nat) (t:TkT) (fTX:Nat) (fn:Func) (r:Nat->Nat) (o:Nat->Oper):Prop where
 pos:P.funcs[f]? =some fn
 name:(fn.name== "runtime.NumGoroutine")=false
 tmps:fn.ntmps=29
 res:fn.results= #[]
 body:fn.body=some (Og r o)
 ops:amo t fTX o
section
variable {P:Program}{c:Ctx}{g:Nat->List MV->Option MV}{k:TkF}{t:TkT}{φ0 φ1 φ:Ph}{w0 W:World}{q q':Xn}{vs:List Value}{fn:Func}{r:Nat->Nat}{o:Nat->Oper}
theorem Ac.lde (h:Ac c φ0 w0 φ W q vs):W.cell? ⟨w0.heap.size+1,1,none⟩=some (.int .i64 q.e):=by have ⟨vb,T,h1,_⟩:=h.hr;rw [cell_of h1];rfl
def Ac.avm (h:Ac c φ0 w0 φ W q vs)(H:aml P c g k t){ty:Nat}(oM: ∃I,c.tv ty=some I/\I.st=false/\I.size=1){j:Nat}(hj:j<8){v0 v1:Value}{m:MV}{xs:List MV}{e:Int}(h0:cQ c.key φ v0 m)(h01:v0.cells.toList=[v0])(h02:v0.oneCell'=true)(h1:cQ c.key φ v1 (.list xs)): ∃W1 W2 W3,(∀(oo:Oper) (x y:Operand) (ee:Operand->Value),gX oo (.store ty x y)->ee x= .pointer (some ⟨w0.heap.size+2,j,none⟩)->ee y=v0->(execOp ee oo).run P W= .ok .skip W1)/\ (∀(oo:Oper) (x y:Operand) (ee:Operand->Value),gX oo (.store t.tY x y)->ee x= .pointer (some ⟨w0.heap.size+1,0,none⟩)->ee y=v1->(execOp ee oo).run P W1= .ok .skip W2)/\ (∀(oo:Oper) (x y:Operand) (ee:Operand->Value),gX oo (.store t.te x y)->ee x= .pointer (some ⟨w0.heap.size+1,1,none⟩)->ee y= .int .i64 e->(execOp ee oo).run P W2= .ok .skip W3)/\ Ac c φ0 w0 φ W3 ⟨xs,e,q.os.set j m⟩ (vs.set j v0):=by have ⟨I0,i1,i2,i3⟩:=oM;have ⟨IY,y1,y2,y3⟩:=H.tyY;have ⟨Ie,e1,e2,e3⟩:=H.tye;have ⟨g1,g2,g3⟩:=aoR h1;have ⟨To,c1⟩:=h.ho;have k1:=h.az4 (j:=j) h0;have ⟨vb,Tr,b1,b2⟩:=k1.hr;have k2:=k1.EL g1;have ⟨vb2,Tr2,b3,b4⟩:=k2.hr;refine ⟨_,_,_,λoo x y ee ho hx hy=>Oe ho H.hT i1 i3 hx hy h01 h02 c1 (by rw [h.n];exact hj),λoo x y ee ho hx hy=>Oe ho H.hT y1 y3 hx hy g2 g3 b1 abu,λoo x y ee ho hx hy=>Oe ho H.hT e1 e3 hx hy rfl rfl b3 abu,k2.QL e b4⟩
theorem amp (H:aml P c g k t){f ba:Nat}(F:aia P f t k.ti fn r o){nx:List Nat}(ho: ∀j∈nx,j<8)(hlen:nx.length<100)(hb: ∀j (h:j<nx.length),φ1 ba j=some (.pointer (some ⟨w0.heap.size+2,nx[j],none⟩)))(hle:iZ φ1 φ)(hM:Ac c φ0 w0 φ W q vs)(hq:Jm g k nx q=some q'): dF P f #[.pointer (some ⟨w0.heap.size+1,0,none⟩),.slice (some ⟨ba,0,none⟩) nx.length nx.length] W λ_ W'=> ∃φ vs,iZ φ1 φ/\Ac c φ0 w0 φ W' q' vs:=by
 refine lp F.pos F.name F.body (calls_of_wp F.pos F.body ?_);rw [F.tmps];have ⟨IR,r1,r2,r3,r4⟩:=H.tyR;have ⟨IY,y1,y2,y3⟩:=H.tyY;have ⟨Ie,e1,e2,e3⟩:=H.tye;have ⟨II,p1,p2,p3⟩:=H.tyI;have ⟨hIi,YV⟩:=a8 p1;have ⟨iI,zI,hiI,hsI,_⟩:=kD (H.hT _ II hIi) YV;have key: ∀a:Act,Tm a 35 (rL (rL (λ_=>undef) 0 (.pointer (some ⟨w0.heap.size+1,0,none⟩))) 1 (.slice (some ⟨ba,0,none⟩) nx.length nx.length))->(Of r o).wp P (bodyPost P fn λe W=> ∃v,e= .returned v/\ ∃φ vs,iZ φ1 φ/\Ac c φ0 w0 φ W q' vs) a W:=by
  intro a ao;unfold Of;refine wp_seq (wp_region ?_);refine ao.mv F.ops.h0 λa ao=> ?_;refine ao.st F.ops.h1 (n8 F.ops.h1 H.amm rfl) λa ao=> ?_;refine ao.mv F.ops.h2 λa ao=> ?_;refine wp_block (wp_loop (λa W=> ∃σ,Tm a 35 σ/\σ 0= .pointer (some ⟨w0.heap.size+1,0,none⟩)/\σ 6= .slice (some ⟨ba,0,none⟩) nx.length nx.length/\σ 7= .int .i64 ((nx.length:Nat):Int)/\ ∃j:Nat,j<=nx.length/\σ 8= .int .i64 (j:Int)/\ ∃φ q vs,iZ φ1 φ/\Ac c φ0 w0 φ W q vs/\Jm g k (nx.drop j) q=some q') (λa W=>match a.tmps.getD 8 undef with| .int _ j=>nx.length-j.toNat|_=>0) ?_ ?_)
  .exact ⟨_,ao,rfl,rfl,rfl,0,afN _,rfl,φ,q,vs,hle,hM,by grind⟩
  .rintro a W ⟨σ,ao,h0,h6,h7,j,hj,h8,φ,q,vs,hle,hM,hq⟩;have hm8:(match a.tmps.getD 8 undef with| .int _ j=>nx.length-j.toNat|_=>0)=nx.length-j:=by rw [ao.get 8,h8];simp
   rw [hm8];refine wp_seq (wp_region ?_);refine ao.st F.ops.h3 (N0 F.ops.h3 h8 h7) λa ao=> ?_;refine wp_seq ?_;by_cases dX:j<nx.length;rotate_left
   .refine ao.cond (b:=false) (by show IN (decide ((j:Int)<(nx.length:Int)))=_;grind) ?_;refine wp_exit ?_;rw [afB aab] at hq;simp only [Jm,IT] at hq;subst hq;exact aq2 (P:=P) (R:=λ_ W=> ∃φ vs,iZ φ1 φ/\Ac c φ0 w0 φ W q vs) F.res ao (by grind)
   refine ao.cond (b:=true) (by show IN (decide ((j:Int)<(nx.length:Int)))=_;grind) ?_;refine wp_skip ?_;rw [List.drop_eq_getElem_cons dX] at hq;simp only [Jm] at hq;have hpc:W.cell? ⟨ba,j,none⟩=some (.pointer (some ⟨w0.heap.size+2,nx[j],none⟩)):=hM.mj _ _ _ (hle _ _ _ (hb j dX));refine wp_seq (wp_block ?_);refine wp_seq (wp_region ?_);refine ao.step rfl F.ops.h4 abq (al2 (size:=1) F.ops.h4 H.amm hiI (by rw [hsI,p3]) h6 h8 dX _) (λa ao=> ?_);refine ao.aZ (v:= .pointer (some ⟨w0.heap.size+2,nx[j],none⟩)) F.ops.h5 (yH F.ops.h5 (nu H.hT p1 p2 p3 (by grind))) λa ao=> ?_;refine ao.yU F.ops.h6 λa ao=> ?_;refine wp_seq (wp_region ?_);refine ao.mv (hv:=h0) F.ops.h7 λa ao=> ?_;refine ao.step rfl F.ops.h8 abq (si F.ops.h8 rfl _) (λa ao=> ?_);refine ao.step rfl F.ops.h9 abq (lC F.ops.h9 H.hT r1 r2 (q:=1) (by rw [r3];rfl) rfl _) (λa ao=> ?_);refine ao.aZ (v:= .int .i64 q.e) F.ops.Hi (yH F.ops.Hi (nu H.hT e1 e2 e3 (by grind [hM.lde]))) λa ao=> ?_;refine ao.st F.ops.QK (pj F.ops.QK rfl rfl) λa ao=> ?_;have last: ∀(a:Act) (W:World) (σ:Nat->Value) (φ:Ph) (q:Xn) (vs:List Value),Tm a 35 σ->σ 0= .pointer (some ⟨w0.heap.size+1,0,none⟩)->σ 6= .slice (some ⟨ba,0,none⟩) nx.length nx.length->σ 7= .int .i64 ((nx.length:Nat):Int)->σ 8= .int .i64 (j:Int)-> iZ φ1 φ->Ac c φ0 w0 φ W q vs->Jm g k (nx.drop (j+1)) q=some q'-> (ak3 (r 5) #[o 32,o 33] false).wp P (Exit.then (λa W=>(∃σ,Tm a 35 σ/\σ 0= .pointer (some ⟨w0.heap.size+1,0,none⟩)/\σ 6= .slice (some ⟨ba,0,none⟩) nx.length nx.length/\σ 7= .int .i64 ((nx.length:Nat):Int)/\ ∃j:Nat,j<=nx.length/\σ 8= .int .i64 (j:Int)/\ ∃φ q vs,iZ φ1 φ/\Ac c φ0 w0 φ W q vs/\Jm g k (nx.drop j) q=some q')/\(match a.tmps.getD 8 undef with| .int _ j=>nx.length-j.toNat|_=>0)<nx.length-j) (Exit.inBlock 0 (bodyPost P fn λe W=> ∃v,e= .returned v/\ ∃φ vs,iZ φ1 φ/\Ac c φ0 w0 φ W q' vs))) a W:=by
    intro a W σ φ q vs ao h0 h6 h7 h8 hle hM hq;refine wp_region ?_;refine ao.st F.ops.Y1 (kE (q:=1) F.ops.Y1 h8 rfl aab) λa ao=> ?_;refine ao.mv F.ops.h33 λa ao=> ?_;refine ⟨⟨_,ao,h0,h6,h7,j+1,aab,rfl,φ,q,vs,hle,hM,hq⟩,?_⟩;have:a.tmps.getD 8 undef= .int .i64 ((j+1:Nat):Int):=by rw [ao.get 8];rfl
    rw [this];simp;omega
   by_cases he:q.e=0;rotate_left
   .refine ao.cond (b:=false) (by show IN (decide (q.e=0))=_;grind) ?_;refine wp_skip ?_;rw [tkI,if_neg he] at hq;exact last a W _ φ q vs ao h0 h6 h7 h8 hle hM hq
   refine ao.cond (b:=true) (by show IN (decide (q.e=0))=_;grind) ?_;cases ng:tkI g k nx[j] q with
   |none=>grind
   |some q2=>
   rw [ng] at hq;rw [tkI,if_pos he] at ng;split at ng;rotate_left
   .cases ng
   rename_i n xs e Nw;simp at ng;subst ng;have ⟨vb,Tr,b1,b2⟩:=hM.hr;refine wp_region ?_;refine ao.mv F.ops.Qo λa ao=> ?_;refine ao.mv (hv:=h0) F.ops.R6 λa ao=> ?_;refine ao.mv (hv:=h0) F.ops.TH λa ao=> ?_;refine ao.mv (hv:=h0) F.ops.NX λa ao=> ?_;refine ao.step rfl F.ops.Mh abq (si F.ops.Mh rfl _) (λa ao=> ?_);refine ao.step rfl F.ops.TJ abq (lC F.ops.TJ H.hT r1 r2 (q:=0) (by rw [r3];rfl) rfl _) (λa ao=> ?_);refine ao.aZ (v:=vb) F.ops.VP (yH F.ops.VP (nu H.hT y1 y2 y3 (by rw [cell_of b1];rfl))) λa ao=> ?_;have Nb:dF P k.ti #[vb] W λx W'=> ∃φ',Trans (λb=>W.heap.size<=b) φ W φ' W'/\oN φ' W'/\iG c (λb=>W.heap.size<=b) φ' W' (c.key k.ti) x (.cw [.i .i64 n,.list xs,.i .i64 e]):=D5 (vs:=[vb]) (by rw [H.key];exact H.gv.1) (H.snd _ _ _ Nw) rfl ⟨_,_,rfl,⟨rfl,b2⟩,rfl⟩ hM.mj;refine ao.call rfl F.ops.W9 abq (TS F.ops.W9 rfl rfl _) Nb ?_;rintro x1 W1 a ⟨φ2,t1,m1,qh⟩ ao;obtain ⟨arr,rfl,qh⟩: ∃arr,x1= .tuple arr/\bj c.key φ2 arr.toList [.i .i64 n,.list xs,.i .i64 e]:=qh;have ⟨x,y,z,a1,a2,a3,q1,q2,q3⟩:=qh.three;have hx:=ah9 q1;have hz:=ah9 q3;subst hx hz;have hM1:=hM.grow t1 m1;have ⟨Wa,Wb,Wc,s1,s2,s3,hM2⟩:=hM1.avm H H.tyi (ho _ (akL dX)) q1 rfl rfl q2 (e:=e);refine ao.mv F.ops.YZ λa ao=> ?_;refine ao.st F.ops.VQ (zj F.ops.VQ rfl a1) λa ao=> ?_;refine ao.st F.ops.Y0 (zj F.ops.Y0 rfl a2) λa ao=> ?_;refine ao.st F.ops.TL (zj F.ops.TL rfl a3) λa ao=> ?_;refine ao.step rfl F.ops.Xa abq (si F.ops.Xa rfl _) (λa ao=> ?_);refine ao.CH rfl F.ops.R7 (s1 _ _ _ _ F.ops.R7 rfl rfl) ?_;refine ao.step rfl F.ops.ZR abq (si F.ops.ZR rfl _) (λa ao=> ?_);refine ao.step rfl F.ops.h27 abq (lC F.ops.h27 H.hT r1 r2 (q:=0) (by rw [r3];rfl) rfl _) (λa ao=> ?_);refine ao.CH rfl F.ops.h28 (s2 _ _ _ _ F.ops.h28 rfl rfl) ?_;refine ao.step rfl F.ops.h29 abq (si F.ops.h29 rfl _) (λa ao=> ?_);refine ao.step rfl F.ops.h30 abq (lC F.ops.h30 H.hT r1 r2 (q:=1) (by rw [r3];rfl) rfl _) (λa ao=> ?_);refine ao.CH rfl F.ops.h31 (s3 _ _ _ _ F.ops.h31 rfl rfl) ?_;exact last a Wc _ φ2 _ _ ao h0 h6 h7 h8 (hle.trans t1.ph) hM2 hq
 grind [tm2]
theorem ab5 (H:aml P c g k t){f:Nat}(F:aib P f t k.tx fn r o){j:Nat}(hj:j<8){most:Int}(hle:iZ φ1 φ)(hM:Ac c φ0 w0 φ W q vs)(hq:T8 g k j most q=some q'): dF P f #[.pointer (some ⟨w0.heap.size+1,0,none⟩),.pointer (some ⟨w0.heap.size+2,j,none⟩),.int .i64 most] W λ_ W'=> ∃φ vs,iZ φ1 φ/\Ac c φ0 w0 φ W' q' vs:=by
 refine lp F.pos F.name F.body (calls_of_wp F.pos F.body ?_);rw [F.tmps];have ⟨IR,r1,r2,r3,r4⟩:=H.tyR;have ⟨IY,y1,y2,y3⟩:=H.tyY;have ⟨Ie,e1,e2,e3⟩:=H.tye;have key: ∀a:Act,Tm a 29 (rL (rL (rL (λ_=>undef) 0 (.pointer (some ⟨w0.heap.size+1,0,none⟩))) 1 (.pointer (some ⟨w0.heap.size+2,j,none⟩))) 2 (.int .i64 most))->(Og r o).wp P (bodyPost P fn λe W=> ∃v,e= .returned v/\ ∃φ vs,iZ φ1 φ/\Ac c φ0 w0 φ W q' vs) a W:=by
  intro a ao;unfold Og;refine wp_seq (wp_region ?_);refine ao.mv F.ops.h0 λa ao=> ?_;refine ao.step rfl F.ops.h1 abq (si F.ops.h1 rfl _) (λa ao=> ?_);refine ao.step rfl F.ops.h2 abq (lC F.ops.h2 H.hT r1 r2 (q:=1) (by rw [r3];rfl) rfl _) (λa ao=> ?_);refine ao.aZ (v:= .int .i64 q.e) F.ops.h3 (yH F.ops.h3 (nu H.hT e1 e2 e3 (by grind [hM.lde]))) λa ao=> ?_;refine ao.st F.ops.h4 (pj F.ops.h4 rfl rfl) λa ao=> ?_;by_cases he:q.e=0;rotate_left
  .refine ao.cond (b:=false) (by show IN (decide (q.e=0))=_;grind) ?_;refine wp_skip ?_;rw [T8,if_neg he] at hq;exact aq2 F.res ao (by grind)
  refine ao.cond (b:=true) (by show IN (decide (q.e=0))=_;grind) ?_;simp only [if_true];rw [T8,if_pos he] at hq;split at hq;rotate_left
  .cases hq
  rename_i l xs e Nw;simp only [IT] at hq;subst hq;obtain ⟨vb,Tr,b1,b2⟩:=hM.hr;refine wp_region ?_;refine ao.mv F.ops.h5 λa ao=> ?_;refine ao.mv F.ops.h6 λa ao=> ?_;refine ao.mv F.ops.h7 λa ao=> ?_;refine ao.mv F.ops.h8 λa ao=> ?_;refine ao.step rfl F.ops.h9 abq (si F.ops.h9 rfl _) (λa ao=> ?_);refine ao.step rfl F.ops.Hi abq (lC F.ops.Hi H.hT r1 r2 (q:=0) (by rw [r3];rfl) rfl _) (λa ao=> ?_);refine ao.aZ (v:=vb) F.ops.QK (yH F.ops.QK (nu H.hT y1 y2 y3 (by rw [cell_of b1];rfl))) λa ao=> ?_;refine ao.mv F.ops.Qo λa ao=> ?_;have Nb:dF P k.tx #[vb,.int .i64 most] W λx W'=> ∃φ',Trans (λb=>W.heap.size<=b) φ W φ' W'/\oN φ' W'/\iG c (λb=>W.heap.size<=b) φ' W' (c.key k.tx) x (.cw [.s l,.list xs,.i .i64 e]):=D5 (vs:=[vb,.int .i64 most]) (by rw [H.key];exact H.gv.2.1) (H.snd _ _ _ Nw) rfl ⟨_,_,rfl,⟨rfl,b2⟩,_,_,rfl,CO,rfl⟩ hM.mj;refine ao.call rfl F.ops.R6 abq (TT F.ops.R6 rfl rfl rfl _) Nb ?_;rintro x1 W1 a ⟨φ2,t1,m1,qh⟩ ao;obtain ⟨arr,rfl,qh⟩: ∃arr,x1= .tuple arr/\bj c.key φ2 arr.toList [.s l,.list xs,.i .i64 e]:=qh;obtain ⟨x,y,z,a1,a2,a3,q1,q2,q3⟩:=qh.three;have hz:=ah9 q3;subst hz;have hx:x.cells.toList=[x]/\x.oneCell'=true:=by obtain ⟨_,hx⟩:=q1;generalize hv:[x]=lx at hx;cases hx;simp at hv;subst hv;exact ⟨rfl,rfl⟩
  have hM1:=hM.grow t1 m1;obtain ⟨Wa,Wb,Wc,s1,s2,s3,hM2⟩:=hM1.avm H H.tyS hj q1 hx.1 hx.2 q2 (e:=e);refine ao.mv F.ops.TH λa ao=> ?_;refine ao.st F.ops.NX (zj F.ops.NX rfl a1) λa ao=> ?_;refine ao.st F.ops.Mh (zj F.ops.Mh rfl a2) λa ao=> ?_;refine ao.st F.ops.TJ (zj F.ops.TJ rfl a3) λa ao=> ?_;refine ao.step rfl F.ops.VP abq (si F.ops.VP rfl _) (λa ao=> ?_);refine ao.CH rfl F.ops.W9 (s1 _ _ _ _ F.ops.W9 rfl rfl) ?_;refine ao.step rfl F.ops.YZ abq (si F.ops.YZ rfl _) (λa ao=> ?_);refine ao.step rfl F.ops.VQ abq (lC F.ops.VQ H.hT r1 r2 (q:=0) (by rw [r3];rfl) rfl _) (λa ao=> ?_);refine ao.CH rfl F.ops.Y0 (s2 _ _ _ _ F.ops.Y0 rfl rfl) ?_;refine ao.step rfl F.ops.TL abq (si F.ops.TL rfl _) (λa ao=> ?_);refine ao.step rfl F.ops.Xa abq (lC F.ops.Xa H.hT r1 r2 (q:=1) (by rw [r3];rfl) rfl _) (λa ao=> ?_);refine ao.CH rfl F.ops.R7 (s3 _ _ _ _ F.ops.R7 rfl rfl) ?_;exact aq2 F.res ao (λ_=>⟨φ2,_,hle.trans t1.ph,hM2⟩)
 grind [tm3]
end
def Oh (r:Nat->Nat)(o:Nat->Oper):Code:= .seq (.region (r 0) #[o 0,o 1,o 2] false) (.seq (.region (r 1) #[o 3,o 4,o 5,o 6] false) (.seq (.region (r 2) #[o 7,o 8,o 9] false) (.seq (.region (r 3) #[o 10,o 11,o 12,o 13,o 14,o 15,o 16,o 17,o 18] false) (.seq (.region (r 4) #[o 19,o 20,o 21] false) (.seq (.region (r 5) #[o 22,o 23,o 24] false) (.seq (.block 0 (.seq (.region (r 6) #[o 25,o 26,o 27,o 28,o 29,o 30] false) (.cond (.tmp 26) (.seq (.region (r 7) #[o 31,o 32,o 33,o 34,o 35,o 36,o 37,o 38] true) .ret) (.seq (.region (r 8) #[o 39,o 40,o 41,o 42] false) (.cond (.tmp 37) (.seq (.region (r 9) #[o 43,o 44,o 45,o 46] false) .ret) .skip))))) (.seq (.region (r 10) #[o 47,o 48,o 49,o 50,o 51,o 52,o 53,o 54] true) .ret)))))))
structure amq (t:TkT) (fI fX fM:Nat) (o:Nat->Oper):Prop where
 h0:al (o 0) 2 (.alloc t.tO)
 h1:al (o 1) 3 (.assign (.const (.slice none 0 0)))
 h2:al (o 2) 4 (.assign (.const (.int .i64 0)))
 h3:al (o 3) 7 (.move (.tmp 0))
 h4:al (o 4) 8 (.build t.tR #[(0,.tmp 7)])
 h5:al (o 5) 9 (.box t.tR (.tmp 8))
 h6:al (o 6) 5 (.assign (.tmp 9))
 h7:al (o 7) 10 (.build t.tO #[])
 h8:al (o 8) 6 (.alloc t.tO)
 h9:gX (o 9) (.store t.tO (.tmp 6) (.tmp 10))
 Hi:al (o 10) 11 (.move (.tmp 5))
 QK:al (o 11) 12 (.fieldAddr t.tO (.tmp 6) 0)
 Qo:al (o 12) 13 (.fieldAddr t.tO (.tmp 6) 1)
 R6:al (o 13) 14 (.fieldAddr t.tO (.tmp 6) 2)
 TH:al (o 14) 15 (.fieldAddr t.tO (.tmp 6) 5)
 NX:al (o 15) 16 (.fieldAddr t.tO (.tmp 6) 6)
 Mh:al (o 16) 17 (.fieldAddr t.tO (.tmp 6) 7)
 TJ:al (o 17) 18 (.buildSlice t.tL 6 #[(0,.tmp 12),(1,.tmp 13),(2,.tmp 14),(3,.tmp 15),(4,.tmp 16),(5,.tmp 17)])
 VP:al (o 18) 19 (.call {callee:= .value (.func fI),args:= #[.tmp 11,.tmp 18],argTypes:= #[t.tQ,t.tL]})
 W9:al (o 19) 20 (.move (.tmp 5))
 YZ:al (o 20) 21 (.fieldAddr t.tO (.tmp 6) 3)
 VQ:al (o 21) 22 (.call {callee:= .value (.func fX),args:= #[.tmp 20,.tmp 21,.const (.int .i64 100)],argTypes:= #[t.tQ,t.tX,t.ti]})
 Y0:al (o 22) 23 (.move (.tmp 5))
 TL:al (o 23) 24 (.fieldAddr t.tO (.tmp 6) 4)
 Xa:al (o 24) 25 (.call {callee:= .value (.func fX),args:= #[.tmp 23,.tmp 24,.const (.int .i64 1000)],argTypes:= #[t.tQ,t.tX,t.ti]})
 R7:al (o 25) 27 (.move (.tmp 5))
 ZR:al (o 26) 28 (.nilCheck (.tmp 27))
 h27:al (o 27) 29 (.fieldAddr t.tR (.tmp 28) 1)
 h28:al (o 28) 30 (.load t.te (.tmp 29))
 h29:al (o 29) 31 (.binOp .neq t.te (.tmp 30) (.const (.int .i64 0)) t.te)
 h30:al (o 30) 26 (.assign (.tmp 31))
 h31:al (o 31) 32 (.build t.tO #[])
 Y1:al (o 32) 33 (.move (.tmp 5))
 h33:al (o 33) 34 (.nilCheck (.tmp 33))
 h34:al (o 34) 35 (.fieldAddr t.tR (.tmp 34) 1)
 h35:al (o 35) 36 (.load t.te (.tmp 35))
 h36:gX (o 36) (.store t.tO (.tmp 2) (.tmp 32))
 h37:al (o 37) 3 (.assign (.const (.slice none 0 0)))
 h38:al (o 38) 4 (.assign (.tmp 36))
 h39:al (o 39) 38 (.load t.tO (.tmp 6))
 h40:al (o 40) 39 (.call {callee:= .value (.func fM),args:= #[.tmp 38],argTypes:= #[t.tO]})
 h41:al (o 41) 40 (.unOp .not t.tB (.tmp 39))
 h42:al (o 42) 37 (.assign (.tmp 40))
 h43:al (o 43) 41 (.build t.tO #[])
 h44:gX (o 44) (.store t.tO (.tmp 2) (.tmp 41))
 h45:al (o 45) 3 (.assign (.const (.slice none 0 0)))
 h46:al (o 46) 4 (.assign (.const (.int .i64 3)))
 h47:al (o 47) 42 (.load t.tO (.tmp 6))
 h48:al (o 48) 43 (.move (.tmp 5))
 h49:al (o 49) 44 (.nilCheck (.tmp 43))
 h50:al (o 50) 45 (.fieldAddr t.tR (.tmp 44) 0)
 h51:al (o 51) 46 (.load t.tY (.tmp 45))
 h52:gX (o 52) (.store t.tO (.tmp 2) (.tmp 42))
 h53:al (o 53) 3 (.assign (.tmp 46))
 h54:al (o 54) 4 (.assign (.const (.int .i64 0)))
def zVs:List Value:=[.int .i64 0,.int .i64 0,.int .i64 0,.string akz,.string akz,.int .i64 0,.int .i64 0,.int .i64 0]
structure CP (P:Program) (c:Ctx) (g:Nat->List MV->Option MV) (k:TkF) (t:TkT) (f fI fX:Nat) (fn:Func) (r:Nat->Nat) (o:Nat->Oper):Prop extends aml P c g k t where
 pos:P.funcs[f]? =some fn
 name:(fn.name== "runtime.NumGoroutine")=false
 tmps:fn.ntmps=47
 res:fn.results= #[.cell 2 t.tO,.tmp 3,.tmp 4]
 body:fn.body=some (Oh r o)
 ops:amq t fI fX k.may o
 ints: ∃yV r1 o1,aia P fI t k.ti yV r1 o1
 text: ∃Xp r2 o2,aib P fX t k.tx Xp r2 o2
 mix:P.follows .mixedOrders=true
 d7:Ad c #[o 31,o 32,o 33,o 34,o 35,o 36,o 37,o 38] [0,1,2,3,4,5,6,7]=true
 d10:Ad c #[o 47,o 48,o 49,o 50,o 51,o 52,o 53,o 54] [0,1,2,3,4,5,6,7]=true
 s35:still c (o 35)=true
 s47:still c (o 47)=true
 s51:still c (o 51)=true
 m38:iW c (o 38)=false
 m53:iW c (o 53)=false
 gvF:c.cS f=false
 tyL: ∃I,c.tv t.tL=some I/\I.elem=t.tI
 blR: ∀ad n cp,P.built t.tR [(0,.slice ad n cp)]=some #[.slice ad n cp,.int .i64 0]
 blO:P.built t.tO []=some zVs.toArray
def DS.aic {P:Program}{c:Ctx}{ops:Array Oper}{N:Act->World->Prop} {φ:Ph}{o:Oper}{a:Act}{w:World}{n:Nat} {σ:Nat->Value}{x d:Nat}{rest pre:List Nat}{listed:Array Bool}{op:Op}{v:Value}(h:DS c ops pre (x::rest) listed)(hx:ops[x]? =some o)(ho:al o d op)(hd:d<n)(hrd:jE o=true)(hmv:iW c o=false)(hld:mR c o=true)(fw:still c o=true)(ao:Tm a n σ)(hi:oN φ w)(bU: ∀w',oN φ w'->(execOp (ev σ) o).run P w'= .ok (.value v) w')(Wt: ∀a',Tm a' n (rL σ d v)->DS c ops (x::pre) rest (listed.setIfInBounds x true)->B5 P c ops N φ rest.length (listed.setIfInBounds x true) a' w):B5 P c ops N φ (rest.length+1) listed a w:=by
 have ⟨NM,NN,FR,xy,d4⟩:=h.facts hx;simp only [hrd,hmv,amz,Bool.and_self,cond_true] at d4;obtain ⟨D,D1,D2,D3,D4⟩:=yD rest [x] d4 (λy hy eR=>absurd (by simpa using hy) eR);have hL:=h.lst;refine Ax (v:=v) D3 hx h.sel rest.length listed a w ?_ ?_ FR ?_ hi ?_
 .intro j oj hoj hjD hjx ZI;have WT:j<ops.size:=(by grind)
  have hjr:j∈rest:=by
   rcases h.all j WT with h1|h1
   .exact absurd h1 ((hL.qu WT).1 ZI)
   .grind
  grind
 .intro d hd;have hdn:d∉pre:=by
   rcases D2 d hd with h1|h1
   .grind
   .grind [nt,xy.dr]
  by_cases VO:d<ops.size
  .cases hg:listed.getD d false with
   |false=>rfl
   |true=>exact absurd ((hL.done VO).1 hg) hdn
  .have hl: ¬d<listed.size:=by rw [hL.size];exact VO
   simp [hl]
 .refine .inl ⟨by simp [afy,ho.guard],λw' hg=> ?_⟩;grind [ao.eval]
 .rw [ho.dst];exact Wt _ (ao.put hd v) xy
section
variable {P:Program}{c:Ctx}{g:Nat->List MV->Option MV}{k:TkF}{t:TkT}{f fI fX:Nat}{fn:Func}{r:Nat->Nat}{o:Nat->Oper}{φ0 φ1 φ:Ph}{w0 W W':World}{q q':Xn}{vs:List Value}{a:Act}{σ:Nat->Value}{φt:Ph}{res:MV}
def Hw {o:Oper}{d t:Nat}{parts:Array (Nat×Operand)}{e:Operand->Value}{out:Array Value}(ho:al o d (.build t parts))(hb:P.built t (parts.toList.map λp=>(p.1,e p.2))=some out)(w:World):(execOp e o).run P w= .ok (.value (.agg out)) w:=by simp_all [run_build,execOp,ho.op]
def amr {o:Oper}{d:Nat} {t t':TypeId}{x y:Operand}{e:Operand->Value}{p q:Int}(ho:al o d (.binOp .neq t x y t'))(hx:e x= .int .i64 p)(hy:e y= .int .i64 q)(w:World):(execOp e o).run P w= .ok (.value (.bool (!decide (p=q)))) w:=zh ho hx hy (λw=>by rfl) w
def Hx {o:Oper}{t:TypeId}{I:TI}{x y:Operand}{e:Operand->Value}{g:Nat}{arr:Array Value}{T:TypeId}{w:World}(ho:gX o (.store t x y))(hT:iz P c.ti)(hI:c.tv t=some I)(hs:I.size=vs.length)(hx:e x= .pointer (some ⟨g,0,none⟩))(hy:e y= .agg vs.toArray)(h1: ∀u∈vs,u.oneCell'=true)(cD:w.heap[g]? =some (.cells arr T (0,0)))(hn:arr.size=vs.length):(execOp e o).run P w= .ok .skip (w.setRow g vs.toArray):=by
 have ⟨ng,Ls⟩:=a8 hI;have hc:(Value.agg vs.toArray).cells.toList=vs:=by simp [al3]
 rw [Hq (v:= .agg vs.toArray) ho (hT _ _ ng) Ls hx hy (by rw [hc,hs]) (by grind) cD (by grind),hc,hs];have:arr.toList.drop (0+vs.length)=[]:=by rw [agO,afB];rw [ab2,hn];exact afx _
 grind
def bj.adg {key:Nat->Nat} {φ:Ph}: ∀{ms:List MV} {vs:List Value},(∀m∈ms,m.one=true)->bj key φ vs ms->il key φ vs ms:=by
 intro ms;induction ms with
 |nil=>intro vs _ h;subst h;exact .nil
 |cons m ms ih=>intro vs h1 h;obtain ⟨v,r,rfl,h2,h3⟩:=h;refine .cons [v] m r ms ?_ (by grind);have:=h1 m abu;cases m<;>first|exact h2.2|grind [MV.one]
def bj.Cv {key:Nat->Nat} {φ:Ph}{ms:List MV}{vs:List Value}(h:il key φ vs ms): ∀u∈vs,u.oneCell'=true:=h.cells
def ab6 {os:List MV}{j:Nat}{m:MV}(h: ∀m∈os,m.one=true)(hm:m.one=true): ∀x∈os.set j m,x.one=true:=by grind
theorem ams {j:Nat}(h: ∀m∈q.os,m.one=true)(hq:tkI g k j q=some q'): ∀m∈q'.os,m.one=true:=by
 unfold tkI at hq;split at hq
 .split at hq
  .simp at hq;subst hq;exact ab6 h rfl
  .cases hq
 grind
def ab7 {j:Nat}{most:Int}(h: ∀m∈q.os,m.one=true)(hq:T8 g k j most q=some q'): ∀m∈q'.os,m.one=true:=by
 unfold T8 at hq;split at hq
 .split at hq
  .simp at hq;subst hq;exact ab6 h rfl
  .cases hq
 grind
def aid {l:List Nat}: ∀{q:Xn},(∀m∈q.os,m.one=true)->Jm g k l q=some q'-> ∀m∈q'.os,m.one=true:=by
 induction l with
 |nil=>grind [Jm,IT]
 |cons j l ih=>grind [Jm,tkI,ams]
def T9 {key:Nat->Nat} {φ:Ph}:bj key φ zVs zOs:=⟨_,_,rfl,CO,_,_,rfl,CO,_,_,rfl,CO,_,_,rfl,⟨rfl,.s _⟩,_,_,rfl,⟨rfl,.s _⟩,_,_,rfl,CO,_,_,rfl,CO,_,_,rfl,CO,rfl⟩
def Ua: ∀m∈zOs,m.one=true:=by intro m hm;simp [zOs] at hm;rcases hm with rfl|rfl|rfl|rfl|rfl|rfl|rfl|rfl<;>rfl
def Oi (H:CP P c g k t f fI fX fn r o)(ao:Tm a 47 σ)(hb: ∃T,W.heap[w0.heap.size]? =some (.cells vs.toArray T (0,0)))(hn:vs.length=8)(h2:σ 2= .pointer (some ⟨w0.heap.size,0,none⟩)){R:Value->World->Prop}(h:R (.tuple #[.agg vs.toArray,σ 3,σ 4]) W): bodyPost P fn (λe W=> ∃v,e= .returned v/\R v W) .ret a W:=by
 have ⟨Io,p1,p2,p3,p4⟩:=H.tyO;have ⟨T,hb⟩:=hb;refine ⟨ao.defers,.tuple #[.agg vs.toArray,σ 3,σ 4],?_,_,rfl,h⟩;have aoS:(loadVar t.tO ⟨w0.heap.size,0,none⟩).run P W= .ok (.agg vs.toArray) W:=by have:=FV (P:=P) (w:=W) (g:=w0.heap.size) (off:=0) H.hT p1 p2 (by rw [hn,p4]) (wOf hb abu);simpa [ahs,alm] using this
 have VM:a.tmps[2]?.getD undef= .pointer (some ⟨w0.heap.size,0,none⟩):=by have:=(ao.get 2).trans h2;simpa using this
 have h3':a.tmps[3]?.getD undef=σ 3:=by have:=ao.get 3;simpa using this
 have h4':a.tmps[4]?.getD undef=σ 4:=by have:=ao.get 4;simpa using this
 simp_all [results,H.res,asAddr]
def Oj (c:Ctx) (φ0:Ph)(w0:World)(res:MV)(v:Value)(W:World):Prop:= ∃φ',Trans (λb=>w0.heap.size<=b) φ0 w0 φ' W/\oN φ' W/\ ∃ms arr,res= .cw ms/\v= .tuple arr/\bj c.key φ' arr.toList ms
def Ac.sls (h:Ac c φ0 w0 φ W q vs): ∃φt vb,iZ φ φt/\oN φt W/\(∀b o,b≠w0.heap.size+1->b≠w0.heap.size+2->φt b o=φ b o)/\φt (w0.heap.size+1) 0=some vb/\φt (w0.heap.size+1) 1=some (.int .i64 q.e)/\jI c.key φt [vb] (.list q.xs)/\ ∀j,φt (w0.heap.size+2) j=vs[j]? :=by
 have ⟨vb,Tr,b1,b2⟩:=h.hr;have ⟨To,c1⟩:=h.ho;have f1: ∀o,φ (w0.heap.size+1) o=none:=λo=>h.f 1 o abq;have l1:=N3 (vs:=[vb,.int .i64 q.e]) f1;have f2: ∀o,Sc φ (w0.heap.size+1) [vb,.int .i64 q.e] (w0.heap.size+2) o=none:=λo=>by unfold Sc;rw [if_neg aab];exact h.f 2 o abq
 have l2:=N3 (vs:=vs) f2;refine ⟨_,vb,l1.trans l2,Hs (Hs h.mj b1) c1,λb o n1 n2=>by simp_all [Sc,if_neg],?_,?_,b2.mono (l1.trans l2),λj=>by simp [Sc]⟩;all_goals grind [Sc]
def Ac.close (h:Ac c φ0 w0 φ W q vs)(hle:iZ φ φt)(hi:oN φt W) (hφ: ∀b o,b≠w0.heap.size+1->b≠w0.heap.size+2->φt b o=φ b o)(hs:W'.heap.size=W.heap.size)(hr:Rest W W')(ho: ∀b,b≠w0.heap.size->W'.heap[b]? =W.heap[b]?):Trans (λb=>w0.heap.size<=b) φ0 w0 φt W'/\oN φt W':=by
 refine ⟨⟨h.tr.ph.trans hle,λb hb hl=> ?_,λb o hb=> ?_,by grind [h.tr.size],h.tr.rest.trans hr⟩,λb o u hu=>sn (hi b o u hu) λhl=>ho b λe=> ?_⟩
 .rw [ho b aab];exact h.tr.heap b hb hl
 .rw [hφ b o aab aab];exact h.tr.free b o hb
 .rw [hφ b o aab aab,e,show w0.heap.size=w0.heap.size+0 from rfl,h.f 0 o abq] at hu;cases hu
def Tm.aoT {ops:Array Oper}{o:Oper}{x n:Nat}{op:Op} {w w':World}{Q:Exit->Act->World->Prop}{K:Act->World->Prop}(ao:Tm a n σ)(hi:ops[x]? =some o)(ho:gX o op)(bU:(execOp (ev σ) o).run P w= .ok .skip w')(h:K a w'):wpOp P ops Q x K a w:=by unfold wpOp;simp only [hi,afy,ho.guard,if_true];left;unfold amt;rw [ao.eval,bU];simp only [Oper.upon];rw [ho.dst];exact h
def ab8 {p oi:Oper}{t:TypeId}{x y:Operand}(h:gX p (.store t x y)):(S1 c p||xL oi p)=false:=by grind [S1,jE,GZ,h.op,xL,akR]
def ny {p:Oper}{d:Nat}{op:Op}(h:al p d op)(hn: ∀t x,op≠ .load t x):still c p=false:=by unfold still;rw [h.op];grind
def Jn: ∀u∈zVs,u.oneCell'=true:=by intro m hm;simp [zVs] at hm;rcases hm with rfl|rfl|rfl|rfl|rfl|rfl|rfl|rfl<;>rfl
def ab9 {key:Nat->Nat} {φ:Ph}:jI key φ [akG none 0 0] (.list []):= .list none 0 [] 0 0 0 (λ_=>[]) abu abu abu abu abu
def ZY {φ':Ph}{ms:List MV}{xs:List MV}{e:Int}{us:List Value}{v:Value}(t1:Trans (λb=>w0.heap.size<=b) φ0 w0 φ' W)(t2:oN φ' W)(h1:il c.key φ' us ms)(h2:jI c.key φ' [v] (.list xs)):Oj c φ0 w0 (.cw [.agg ms,.list xs,.i .i64 e]) (.tuple #[.agg us.toArray,v,.int .i64 e]) W:=⟨φ',t1,t2,_,_,rfl,rfl,_,_,rfl,Xm h1,_,_,rfl,⟨rfl,h2⟩,_,_,rfl,CO,rfl⟩
theorem ad2 (H:CP P c g k t f fI fX fn r o)(hM:Ac c φ0 w0 φ W q vs)(ao:Tm a 47 σ)(h2:σ 2= .pointer (some ⟨w0.heap.size,0,none⟩))(h5:σ 5= .pointer (some ⟨w0.heap.size+1,0,none⟩)){Q:Exit->Act->World->Prop}(hQ: ∀a W,bodyPost P fn (λe W=> ∃v,e= .returned v/\Oj c φ0 w0 (.cw [.agg zOs,.list [],.i .i64 q.e]) v W) .ret a W->Q .ret a W): (Code.seq (.region (r 7) #[o 31,o 32,o 33,o 34,o 35,o 36,o 37,o 38] true) .ret).wp P Q a W:=by
 have ⟨φt,vb,l1,l2,l3,l4,l5,l6,l7⟩:=hM.sls;have ⟨Io,p1,p2,p3,p4⟩:=H.tyO;have ⟨IR,r1,r2,r3,r4⟩:=H.tyR;have ⟨Ie,e1,e2,e3⟩:=H.tye;have ⟨zs,T2,b1,b2⟩:=hM.h2;refine wp_seq (Xh (c:=c) (φ:=φt) (ord:=[0,1,2,3,4,5,6,7]) H.mix H.d7 λlisted xy=> ?_);have ⟨W0,hW0⟩: ∃W0,W0=({W with drawn:=W.drawn+1}:World):=⟨_,rfl⟩
 rw [<-hW0];have hh0:W0.heap=W.heap:=by rw [hW0]
 have hr0:Rest W W0:=by rw [hW0];exact ⟨rfl,rfl,rfl⟩
 have hi0:oN φt W0:=by rw [hW0];exact l2
 refine xy.read (v:= .agg zVs.toArray) rfl H.ops.h31 abq (by simp [jE,H.ops.h31.op]) (by simp [iW,H.ops.h31.op]) (ny H.ops.h31 abu) (by simp [EK,H.ops.h31.op]) ao hi0 (λw' _=>Hw H.ops.h31 H.blO w') (λa ao xy=> ?_);refine xy.read (v:= .pointer (some ⟨w0.heap.size+1,0,none⟩)) rfl H.ops.Y1 abq (by simp [jE,H.ops.Y1.op]) (by simp [iW,H.ops.Y1.op]) (ny H.ops.Y1 abu) (by simp [EK,H.ops.Y1.op]) ao hi0 (λw' _=>(mu H.ops.Y1 w').trans (by show Result.ok (Next.value (σ 5)) w'=_;rw [h5])) (λa ao xy=> ?_);refine xy.read (v:= .pointer (some ⟨w0.heap.size+1,0,none⟩)) rfl H.ops.h33 abq (by simp [jE,H.ops.h33.op]) (by simp [iW,H.ops.h33.op]) (ny H.ops.h33 abu) (by simp [EK,H.ops.h33.op]) ao hi0 (λw' _=>si H.ops.h33 rfl w') (λa ao xy=> ?_);refine xy.read (v:= .pointer (some ⟨w0.heap.size+1,0+1,none⟩)) rfl H.ops.h34 abq (by simp [jE,H.ops.h34.op]) (by simp [iW,H.ops.h34.op]) (ny H.ops.h34 abu) (by simp [EK,H.ops.h34.op]) ao hi0 (λw' _=>lC H.ops.h34 H.hT r1 r2 (by rw [r3];rfl) rfl w') (λa ao xy=> ?_);refine xy.aic (v:= .int .i64 q.e) rfl H.ops.h35 abq (by simp [jE,H.ops.h35.op]) (by simp [iW,H.ops.h35.op]) (by simp [mR,rY,H.ops.h35.op]) H.s35 ao hi0 (λw' hw=>yH H.ops.h35 (nu H.hT e1 e2 e3 (hw _ _ _ l5))) (λa ao xy=> ?_);refine xy.au7 (o:=o 36) rfl (λy hy p hp=> ?_) (by simp [jE,H.ops.h36.op]) (ao.aoT rfl H.ops.h36 (Hx H.ops.h36 H.hT p1 (by rw [p4];rfl) (by exact h2) rfl Jn (by rw [hh0];exact b1) (by rw [b2];rfl)) ?_)
 .have hy:y=6\/y=7:=by simpa using hy
  rcases hy with rfl|rfl<;>cases hp
  .grind [Mm,H.ops.h37]
  .exact Mm H.ops.h38 abu
 have ⟨W1,Qp⟩: ∃W1,W1=W0.setRow w0.heap.size zVs.toArray:=⟨_,rfl⟩
 rw [<-Qp];have uU:W1.heap[w0.heap.size]? =some (.cells zVs.toArray T2 (0,0)):=by rw [Qp];exact (by grind [iY])
 have ⟨t1,t2⟩:=hM.close (W':=W1) l1 l2 l3 (by simp_all) (hr0.trans (by rw [Qp];exact .setRow _ _ _)) (by grind [setRow_other]);refine ⟨⟨λoi hg=> ?_,t2⟩,?_⟩
 .have hgr:sf c oi #[o 31,o 32,o 33,o 34,o 35,o 36,o 37,o 38] 5=(S1 c (o 36)||xL oi (o 36)):=rfl;rw [hgr,ab8 H.ops.h36] at hg;cases hg
 have ⟨_,_,_,arc,_⟩:=xy.facts (o:=o 36) rfl;refine arc.read (v:= .slice none 0 0) rfl H.ops.h37 abq (by simp [jE,H.ops.h37.op]) (by simp [iW,H.ops.h37.op]) (ny H.ops.h37 abu) (by simp [EK,H.ops.h37.op]) ao t2 (λw' _=>DZ H.ops.h37 w') (λa ao xy=> ?_);refine xy.read (v:= .int .i64 q.e) rfl H.ops.h38 abq (by simp [jE,H.ops.h38.op]) H.m38 (ny H.ops.h38 abu) (by simp [EK,H.ops.h38.op]) ao t2 (λw' _=>DZ H.ops.h38 w') (λa ao xy=> ?_);refine xy.done ?_;refine wp_ret (hQ _ _ ?_);exact Oi H ao ⟨T2,uU⟩ rfl (by exact h2) (ZY t1 t2 (T9.adg Ua) ab9)
theorem aif (H:CP P c g k t f fI fX fn r o)(hM:Ac c φ0 w0 φ W q vs)(h1: ∀m∈q.os,m.one=true)(ao:Tm a 47 σ)(h2:σ 2= .pointer (some ⟨w0.heap.size,0,none⟩))(h5:σ 5= .pointer (some ⟨w0.heap.size+1,0,none⟩))(h6:σ 6= .pointer (some ⟨w0.heap.size+2,0,none⟩)){Q:Exit->Act->World->Prop}(hQ: ∀a W,bodyPost P fn (λe W=> ∃v,e= .returned v/\Oj c φ0 w0 (.cw [.agg q.os,.list q.xs,.i .i64 0]) v W) .ret a W->Q .ret a W): (Code.seq (.region (r 10) #[o 47,o 48,o 49,o 50,o 51,o 52,o 53,o 54] true) .ret).wp P Q a W:=by
 have ⟨φt,vb,l1,l2,l3,l4,l5,l6,l7⟩:=hM.sls;have ⟨Io,p1,p2,p3,p4⟩:=H.tyO;have ⟨IR,r1,r2,r3,r4⟩:=H.tyR;have ⟨IY,y1,y2,y3⟩:=H.tyY;have ⟨zs,T2,b1,b2⟩:=hM.h2;have hos:=(hM.os.mono l1).adg h1;have hn:=hM.n;refine wp_seq (Xh (c:=c) (φ:=φt) (ord:=[0,1,2,3,4,5,6,7]) H.mix H.d10 λlisted xy=> ?_);have ⟨W0,hW0⟩: ∃W0,W0=({W with drawn:=W.drawn+1}:World):=⟨_,rfl⟩
 rw [<-hW0];have hh0:W0.heap=W.heap:=by rw [hW0]
 have hr0:Rest W W0:=by rw [hW0];exact ⟨rfl,rfl,rfl⟩
 have hi0:oN φt W0:=by rw [hW0];exact l2
 refine xy.aic (v:= .agg vs.toArray) rfl H.ops.h47 abq (by simp [jE,H.ops.h47.op]) (by simp [iW,H.ops.h47.op]) (by simp [mR,rY,H.ops.h47.op]) H.s47 ao hi0 (λw' hw=>yH H.ops.h47 (by show (ahs t.tO (σ 6)).run P w'=_;rw [h6];exact FV H.hT p1 p2 (by rw [hn,p4]) (λj v hj=>by exact hw _ _ _ (by grind)))) (λa ao xy=> ?_);refine xy.read (v:= .pointer (some ⟨w0.heap.size+1,0,none⟩)) rfl H.ops.h48 abq (by simp [jE,H.ops.h48.op]) (by simp [iW,H.ops.h48.op]) (ny H.ops.h48 abu) (by simp [EK,H.ops.h48.op]) ao hi0 (λw' _=>(mu H.ops.h48 w').trans (by show Result.ok (Next.value (σ 5)) w'=_;rw [h5])) (λa ao xy=> ?_);refine xy.read (v:= .pointer (some ⟨w0.heap.size+1,0,none⟩)) rfl H.ops.h49 abq (by simp [jE,H.ops.h49.op]) (by simp [iW,H.ops.h49.op]) (ny H.ops.h49 abu) (by simp [EK,H.ops.h49.op]) ao hi0 (λw' _=>si H.ops.h49 rfl w') (λa ao xy=> ?_);refine xy.read (v:= .pointer (some ⟨w0.heap.size+1,0+0,none⟩)) rfl H.ops.h50 abq (by simp [jE,H.ops.h50.op]) (by simp [iW,H.ops.h50.op]) (ny H.ops.h50 abu) (by simp [EK,H.ops.h50.op]) ao hi0 (λw' _=>lC H.ops.h50 H.hT r1 r2 (by rw [r3];rfl) rfl w') (λa ao xy=> ?_);refine xy.aic (v:=vb) rfl H.ops.h51 abq (by simp [jE,H.ops.h51.op]) (by simp [iW,H.ops.h51.op]) (by simp [mR,rY,H.ops.h51.op]) H.s51 ao hi0 (λw' hw=>yH H.ops.h51 (nu H.hT y1 y2 y3 (hw _ _ _ l4))) (λa ao xy=> ?_);refine xy.au7 (o:=o 52) rfl (λy hy p hp=> ?_) (by simp [jE,H.ops.h52.op]) (ao.aoT rfl H.ops.h52 (Hx H.ops.h52 H.hT p1 (by rw [p4,hn]) (by exact h2) rfl hos.cells (by rw [hh0];exact b1) (by rw [b2,hn])) ?_)
 .have hy:y=6\/y=7:=by simpa using hy
  rcases hy with rfl|rfl<;>cases hp
  .grind [Mm,H.ops.h53]
  .exact Mm H.ops.h54 abu
 have ⟨W1,Qp⟩: ∃W1,W1=W0.setRow w0.heap.size vs.toArray:=⟨_,rfl⟩
 rw [<-Qp];have uU:W1.heap[w0.heap.size]? =some (.cells vs.toArray T2 (0,0)):=by rw [Qp];exact (by grind [iY])
 have ⟨t1,t2⟩:=hM.close (W':=W1) l1 l2 l3 (by simp_all) (hr0.trans (by rw [Qp];exact .setRow _ _ _)) (by grind [setRow_other]);refine ⟨⟨λoi hg=> ?_,t2⟩,?_⟩
 .have hgr:sf c oi #[o 47,o 48,o 49,o 50,o 51,o 52,o 53,o 54] 5=(S1 c (o 52)||xL oi (o 52)):=rfl;rw [hgr,ab8 H.ops.h52] at hg;cases hg
 have ⟨_,_,_,arc,_⟩:=xy.facts (o:=o 52) rfl;refine arc.read (v:=vb) rfl H.ops.h53 abq (by simp [jE,H.ops.h53.op]) H.m53 (ny H.ops.h53 abu) (by simp [EK,H.ops.h53.op]) ao t2 (λw' _=>DZ H.ops.h53 w') (λa ao xy=> ?_);refine xy.read (v:= .int .i64 0) rfl H.ops.h54 abq (by simp [jE,H.ops.h54.op]) (by simp [iW,H.ops.h54.op]) (ny H.ops.h54 abu) (by simp [EK,H.ops.h54.op]) ao t2 (λw' _=>DZ H.ops.h54 w') (λa ao xy=> ?_);refine xy.done ?_;refine wp_ret (hQ _ _ ?_);exact Oi H ao ⟨T2,uU⟩ hn (by exact h2) (ZY t1 t2 hos l6)
def aih (H:CP P c g k t f fI fX fn r o)(hM:Ac c φ0 w0 φ W q vs)(ao:Tm a 47 σ)(h2:σ 2= .pointer (some ⟨w0.heap.size,0,none⟩)){Q:Exit->Act->World->Prop}(hQ: ∀a W,bodyPost P fn (λe W=> ∃v,e= .returned v/\Oj c φ0 w0 (.cw [.agg zOs,.list [],.i .i64 3]) v W) .ret a W->Q .ret a W): (Code.seq (.region (r 9) #[o 43,o 44,o 45,o 46] false) .ret).wp P Q a W:=by
 have ⟨φt,vb,l1,l2,l3,_⟩:=hM.sls;have ⟨Io,p1,p2,p3,p4⟩:=H.tyO;have ⟨zs,T2,b1,b2⟩:=hM.h2;refine wp_seq (wp_region ?_);refine ao.st H.ops.h43 (Hw H.ops.h43 H.blO) λa ao=> ?_;refine ao.CH rfl H.ops.h44 (Hx H.ops.h44 H.hT p1 (by rw [p4];rfl) (by exact h2) rfl Jn b1 (by rw [b2];rfl)) ?_;have ⟨W1,Qp⟩: ∃W1,W1=W.setRow w0.heap.size zVs.toArray:=⟨_,rfl⟩
 rw [<-Qp];have uU:W1.heap[w0.heap.size]? =some (.cells zVs.toArray T2 (0,0)):=by rw [Qp];exact iY _ b1
 have ⟨t1,t2⟩:=hM.close (W':=W1) l1 l2 l3 (by simp_all) (by rw [Qp];exact .setRow _ _ _) (by grind [setRow_other]);refine ao.yU H.ops.h45 λa ao=> ?_;refine ao.yU H.ops.h46 λa ao=> ?_;refine wp_ret (hQ _ _ ?_);exact Oi H ao ⟨T2,uU⟩ rfl (by exact h2) (ZY t1 t2 (T9.adg Ua) ab9)
end
def ch.aCi {c:Ctx} {Z Z':Nat->Prop} {φ φ':Ph} {W W':World}{v:Value}{ty:Nat}{xs:List MV}(h:ch c (bC.plain Z) (np c.key φ) W v ⟨ty,false,xs⟩)(hz: ∀b,v.ownBlock=some b->Z' b)(hp:iZ φ φ')(hf: ∀b o,v.ownBlock=some b->φ' b o=φ b o)(hh: ∀b,v.ownBlock=some b->b<W.heap.size->W'.heap[b]? =W.heap[b]?): ch c (bC.plain Z') (np c.key φ') W' v ⟨ty,false,xs⟩:=by
 obtain ⟨I,cells,q1,q2,q3,q4,q5⟩:=h.row;refine ⟨I,cells,q1,q2,⟨q3.1,?_⟩,q4.mono hp,λb hb=>⟨hz b hb,λoff u hu=>(q5 b hb).2.1 off u ?_,λhc=>hc.elim⟩⟩
 .rcases q3.2 with h6|⟨g,cap,dp,r1,r2,r3,r4⟩
  .exact .inl h6
  .exact .inr ⟨g,cap,dp,r1,r2,(hh g (by rw [r1];rfl) (bx r3)).trans r3,r4⟩
 .have hu:φ' b off=some u:=hu;rw [hf b off hb] at hu;exact hu
section
variable {P:Program}{c:Ctx}{g:Nat->List MV->Option MV}{n:CN}{fn:Func}{r:Nat->Nat}{o:Nat->Oper}{φ0 φ1:Ph}{w0 W W':World}{bc br bd bv:Nat}{s s':CS}{v v' l:Int}{a:Act}{σ:Nat->Value}{Q:Exit->Act->World->Prop}{k:TkF}{t:TkT}{f fI fX:Nat}{φ φt:Ph}{q q':Xn}{vs:List Value}{res:MV}
theorem tm1 (v0:Value)(k:Nat):Tm {tmps:= #[v0]++sh k undef,defers:=[]} (k+1) (rL (λ_=>undef) 0 v0):=by
 refine ⟨rfl,by simp [akB],λq=> ?_⟩;by_cases h0:q=0
 .subst h0;show (#[v0]++sh k undef).getD 0 undef=v0;simp [OF]
 have e:ac4 q 0=false:=by
  cases hq:ac4 q 0 with
  |false=>rfl
  |true=>exact absurd (AT hq) h0
 simp only [rL,e,cond_false];have h3:1<=q:=aab
 simp [OF,afT,show¬q<1 by omega];by_cases hk:q-1<k<;>simp [hk]
def avn {φ:Ph}{W:World}(hi:oN φ W){b:Nat}(hb:W.heap.size<=b)(o:Nat):φ b o=none:=by
 cases hq:φ b o with
 |none=>rfl
 |some u=>exact absurd (BY W _ (hi _ _ _ hq)) (Nat.not_lt.2 hb)
structure TkV (w0:World) (σ:Nat->Value):Prop where
 h2:σ 2= .pointer (some ⟨w0.heap.size,0,none⟩)
 h5:σ 5= .pointer (some ⟨w0.heap.size+1,0,none⟩)
 h6:σ 6= .pointer (some ⟨w0.heap.size+2,0,none⟩)
theorem ad3 (H:CP P c g k t f fI fX fn r o)(hM:Ac c φ0 w0 φ W q vs)(h1: ∀m∈q.os,m.one=true)(ao:Tm a 47 σ)(hV:TkV w0 σ)(hm:(if q.e=0 then (match g k.may [.agg q.os] with
  |some (.b true)=>some (.cw [.agg q.os,.list q.xs,.i .i64 0])
  |some (.b false)=>some (.cw [.agg zOs,.list [],.i .i64 3])
  |_=>none) else some (.cw [.agg zOs,.list [],.i .i64 q.e]))=some res):
 (Code.seq (.block 0 (.seq (.region (r 6) #[o 25,o 26,o 27,o 28,o 29,o 30] false) (.cond (.tmp 26) (.seq (.region (r 7) #[o 31,o 32,o 33,o 34,o 35,o 36,o 37,o 38] true) .ret) (.seq (.region (r 8) #[o 39,o 40,o 41,o 42] false) (.cond (.tmp 37) (.seq (.region (r 9) #[o 43,o 44,o 45,o 46] false) .ret) .skip))))) (.seq (.region (r 10) #[o 47,o 48,o 49,o 50,o 51,o 52,o 53,o 54] true) .ret)).wp P (bodyPost P fn λe W=> ∃v,e= .returned v/\Oj c φ0 w0 res v W) a W:=by
 have ⟨Io,p1,p2,p3,p4⟩:=H.tyO;have ⟨IR,r1,r2,r3,r4⟩:=H.tyR;have ⟨Ie,e1,e2,e3⟩:=H.tye;refine wp_seq (wp_block ?_);refine wp_seq (wp_region ?_);refine ao.aZ (v:= .pointer (some ⟨w0.heap.size+1,0,none⟩)) H.ops.R7 ((mu H.ops.R7 _).trans (by show Result.ok (Next.value (σ 5)) W=_;rw [hV.h5])) λa ao=> ?_;refine ao.step rfl H.ops.ZR abq (si H.ops.ZR rfl _) (λa ao=> ?_);refine ao.step rfl H.ops.h27 abq (lC H.ops.h27 H.hT r1 r2 (q:=1) (by rw [r3];rfl) rfl _) (λa ao=> ?_);refine ao.aZ (v:= .int .i64 q.e) H.ops.h28 (yH H.ops.h28 (nu H.hT e1 e2 e3 (by grind [hM.lde]))) λa ao=> ?_;refine ao.st H.ops.h29 (amr H.ops.h29 rfl rfl) λa ao=> ?_;refine ao.yU H.ops.h30 λa ao=> ?_;by_cases he:q.e=0;rotate_left
 .rw [if_neg he,IT] at hm;subst hm;refine ao.cond (b:=true) (by show IN (!decide (q.e=0))=_;grind) ?_;exact ad2 H hM ao hV.h2 hV.h5 (λa W h=>h)
 rw [if_pos he] at hm;refine ao.cond (b:=false) (by show IN (!decide (q.e=0))=_;grind) ?_;refine wp_seq (wp_region ?_);have ⟨To,c1⟩:=hM.ho;have hos:=hM.os.adg h1;refine ao.aZ (v:= .agg vs.toArray) H.ops.h39 (yH H.ops.h39 (by show (ahs t.tO (σ 6)).run P W=_;grind [hV.h6,FV,H.hT,hM.n,wOf])) λa ao=> ?_;have aAc: ∃b,g k.may [.agg q.os]=some (.b b):=by
  cases hg:g k.may [.agg q.os] with
  |none=>grind
  |some m=>grind
 have ⟨b,hb⟩:=aAc;have Nb:dF P k.may #[.agg vs.toArray] W λx W'=> ∃φ',Trans (λb=>W.heap.size<=b) φ W φ' W'/\oN φ' W'/\iG c (λb=>W.heap.size<=b) φ' W' (c.key k.may) x (.b b):=D5 (vs:=[.agg vs.toArray]) (by rw [H.key];exact H.gv.2.2) (H.snd _ _ _ hb) rfl ⟨_,_,rfl,Xm hos,rfl⟩ hM.mj;refine ao.call rfl H.ops.h40 abq (TS H.ops.h40 rfl rfl _) Nb ?_;rintro x1 W1 a ⟨φ2,t1,m1,qh⟩ ao;have M9:x1= .bool b:=NP qh;subst M9;have hM1:=hM.grow t1 m1;refine ao.st H.ops.h41 (TG H.ops.h41 rfl) λa ao=> ?_;refine ao.yU H.ops.h42 λa ao=> ?_;rw [hb] at hm;cases b with
 |false=>simp at hm;subst hm;refine ao.cond (b:=true) rfl ?_;exact aih H hM1 ao hV.h2 (λa W h=>h)
 |true=>simp at hm;subst hm;refine ao.cond (b:=false) rfl ?_;refine wp_skip ?_;exact aif H hM1 h1 ao hV.h2 hV.h5 hV.h6 (λa W h=>h)
theorem ad4 (H:CP P c g k t f fI fX fn r o){xs:List MV}(hm:Xo g k xs=some res):dG P c f [.list xs] res:=by
 unfold Xo at hm;cases hq1:Jm g k [0,1,2,5,6,7] ⟨xs,0,zOs⟩ with
 |none=>grind
 |some qa=>
 rw [hq1] at hm;dsimp only at hm;cases hq2:T8 g k 3 100 qa with
 |none=>grind
 |some qb=>
 rw [hq2] at hm;dsimp only at hm;cases hq3:T8 g k 4 1000 qb with
 |none=>grind
 |some qc=>
 rw [hq3] at hm;dsimp only at hm;intro φ0 w0 Z0 vs hz0 dx iA;simp only [cR,H.key,H.gvF,AI,if_false] at dx;obtain ⟨x,rest,rfl,hx,vX⟩:=dx;have vX:rest=[]:=vX;subst vX;obtain ⟨hxr,hxc,M9⟩:=aoR hx;obtain ⟨ad,cp,hxs,_⟩:=K0 hxr;refine (lp (R:=Oj c φ0 w0 res) H.pos H.name H.body (calls_of_wp H.pos H.body ?_)).imp ?_;rotate_left
 .rintro v W ⟨φ',t1,t2,ms,arr,rfl,rfl,h3⟩;exact ⟨φ',t1.vY hz0,t2,QF.args h3⟩
 rw [H.tmps];obtain ⟨Io,p1,p2,p3,p4⟩:=H.tyO;obtain ⟨IL,pl1,pl2⟩:=H.tyL;obtain ⟨II,pi1,pi2,pi3⟩:=H.tyI;obtain ⟨hOi,hOc⟩:=a8 p1;obtain ⟨hIi,YV⟩:=a8 pi1;obtain ⟨iO,zO,hiO,hsO,_,hzO,ard⟩:=kD (H.hT _ Io hOi) hOc;have key: ∀a:Act,Tm a 47 (rL (λ_=>undef) 0 x)->(Oh r o).wp P (bodyPost P fn λe W=> ∃v,e= .returned v/\Oj c φ0 w0 res v W) a w0:=by
  intro a ao;unfold Oh;refine wp_seq (wp_region ?_);rw [show agN (#[o 0,o 1,o 2]:Array Oper).size=[0,1,2] from rfl];refine ao.step rfl H.ops.h0 abq (Mk H.ops.h0 hiO hzO _) (λa ao=> ?_);obtain ⟨W1,Qp⟩: ∃W1,W1=w0.alloc (.cells zO.cells t.tO):=⟨_,rfl⟩
  rw [<-Qp];have s1:W1.heap.size=w0.heap.size+1:=by rw [Qp];simp
  have l1:W1.heap[w0.heap.size]? =some (.cells zO.cells t.tO (0,0)):=by rw [Qp];exact ju w0 _
  have g1: ∀b,b<w0.heap.size->W1.heap[b]? =w0.heap[b]? :=λb hb=>by rw [Qp];exact (dk.alloc w0 _ _).vP b hb
  have k1:Rest w0 W1:=by rw [Qp];exact .alloc _ _ _
  refine ao.yU (v:= .slice none 0 0) H.ops.h1 λa ao=> ?_;refine ao.yU (v:= .int .i64 0) H.ops.h2 λa ao=> ?_;refine wp_seq (wp_region ?_);rw [show agN (#[o 3,o 4,o 5,o 6]:Array Oper).size=[0,1,2,3] from rfl];refine ao.mv (v:=x) H.ops.h3 λa ao=> ?_;refine ao.st (v:= .agg #[x,.int .i64 0]) H.ops.h4 (Hw H.ops.h4 (by rw [hxs];exact H.blR _ _ _)) λa ao=> ?_;refine ao.aZ (v:= .pointer (some ⟨w0.heap.size+1,0,none⟩)) H.ops.h5 (by have:=ab0 (P:=P) (e:=ev (rL (rL (rL (rL (rL (rL (λ_=>undef) 0 x) 2 (.pointer (some ⟨w0.heap.size,0,none⟩))) 3 (.slice none 0 0)) 4 (.int .i64 0)) 7 x) 8 (.agg #[x,.int .i64 0]))) H.ops.h5 W1;rw [s1] at this;exact this) λa ao=> ?_;obtain ⟨W2,Xc⟩: ∃W2,W2=W1.alloc (.cells [x,.int .i64 0].toArray t.tR):=⟨_,rfl⟩
  have hc2:(Value.agg #[x,.int .i64 0]).cells=[x,.int .i64 0].toArray:=rfl;show wpOps P _ _ _ a (W1.alloc (.cells (Value.agg #[x,.int .i64 0]).cells t.tR));rw [hc2,<-Xc];have s2:W2.heap.size=w0.heap.size+2:=by rw [Xc];simp [s1]
  have l2:W2.heap[w0.heap.size+1]? =some (.cells [x,.int .i64 0].toArray t.tR (0,0)):=by rw [Xc,<-s1];exact ju W1 _
  have g2: ∀b,b<w0.heap.size+1->W2.heap[b]? =W1.heap[b]? :=λb hb=>by rw [Xc];exact (dk.alloc W1 _ _).vP b aab
  have k2:Rest W1 W2:=by rw [Xc];exact .alloc _ _ _
  refine ao.yU (v:= .pointer (some ⟨w0.heap.size+1,0,none⟩)) H.ops.h6 λa ao=> ?_;refine wp_seq (wp_region ?_);rw [show agN (#[o 7,o 8,o 9]:Array Oper).size=[0,1,2] from rfl];refine ao.st (v:= .agg zVs.toArray) H.ops.h7 (Hw H.ops.h7 H.blO) λa ao=> ?_;refine ao.aZ (v:= .pointer (some ⟨w0.heap.size+2,0,none⟩)) H.ops.h8 (by rw [<-s2];exact Mk H.ops.h8 hiO hzO _) λa ao=> ?_;obtain ⟨W3,hW3⟩: ∃W3,W3=W2.alloc (.cells zO.cells t.tO):=⟨_,rfl⟩
  rw [<-hW3];have s3:W3.heap.size=w0.heap.size+3:=by rw [hW3];simp [s2]
  have l3:W3.heap[w0.heap.size+2]? =some (.cells zO.cells t.tO (0,0)):=by rw [hW3,<-s2];exact ju W2 _
  have g3: ∀b,b<w0.heap.size+2->W3.heap[b]? =W2.heap[b]? :=λb hb=>by rw [hW3];exact (dk.alloc W2 _ _).vP b aab
  have k3:Rest W2 W3:=by rw [hW3];exact .alloc _ _ _
  refine ao.CH rfl H.ops.h9 (Hx H.ops.h9 H.hT p1 (by rw [p4];rfl) rfl rfl Jn l3 (by rw [ard,p4];rfl)) ?_;obtain ⟨W4,hW4⟩: ∃W4,W4=W3.setRow (w0.heap.size+2) zVs.toArray:=⟨_,rfl⟩
  rw [<-hW4];have s4:W4.heap.size=w0.heap.size+3:=by rw [hW4,setRow_size,s3]
  have l4:W4.heap[w0.heap.size+2]? =some (.cells zVs.toArray t.tO (0,0)):=by rw [hW4];exact iY _ l3
  have g4: ∀b,b≠w0.heap.size+2->W4.heap[b]? =W3.heap[b]? :=(by grind [setRow_other])
  have k4:Rest W3 W4:=by rw [hW4];exact .setRow _ _ _
  refine wp_seq (wp_region ?_);rw [show agN (#[o 10,o 11,o 12,o 13,o 14,o 15,o 16,o 17,o 18]:Array Oper).size=[0,1,2,3,4,5,6,7,8] from rfl];refine ao.mv (v:= .pointer (some ⟨w0.heap.size+1,0,none⟩)) H.ops.Hi λa ao=> ?_;refine ao.st (v:= .pointer (some ⟨w0.heap.size+2,0,none⟩)) H.ops.QK (lC (off:=0) (q:=0) H.ops.QK H.hT p1 p2 (by rw [p3];rfl) rfl) λa ao=> ?_;refine ao.st (v:= .pointer (some ⟨w0.heap.size+2,1,none⟩)) H.ops.Qo (lC (off:=0) (q:=1) H.ops.Qo H.hT p1 p2 (by rw [p3];rfl) rfl) λa ao=> ?_;refine ao.st (v:= .pointer (some ⟨w0.heap.size+2,2,none⟩)) H.ops.R6 (lC (off:=0) (q:=2) H.ops.R6 H.hT p1 p2 (by rw [p3];rfl) rfl) λa ao=> ?_;refine ao.st (v:= .pointer (some ⟨w0.heap.size+2,5,none⟩)) H.ops.TH (lC (off:=0) (q:=5) H.ops.TH H.hT p1 p2 (by rw [p3];rfl) rfl) λa ao=> ?_;refine ao.st (v:= .pointer (some ⟨w0.heap.size+2,6,none⟩)) H.ops.NX (lC (off:=0) (q:=6) H.ops.NX H.hT p1 p2 (by rw [p3];rfl) rfl) λa ao=> ?_;refine ao.st (v:= .pointer (some ⟨w0.heap.size+2,7,none⟩)) H.ops.Mh (lC (off:=0) (q:=7) H.ops.Mh H.hT p1 p2 (by rw [p3];rfl) rfl) λa ao=> ?_;obtain ⟨ps,IU⟩: ∃ps:List Value,ps=[0,1,2,5,6,7].map λj=>ad5 (some ⟨w0.heap.size+2,j,none⟩):=⟨_,rfl⟩
  obtain ⟨W5,hW5⟩: ∃W5,W5=W4.alloc (.cells ps.toArray t.tI):=⟨_,rfl⟩
  refine ao.step (v:= .slice (some ⟨w0.heap.size+3,0,none⟩) 6 6) (w':=W5) rfl H.ops.TJ abq ?_ (λa ao=> ?_)
  .have h6:ps.length=6:=by rw [IU];rfl
   have:=Te (P:=P) (c:=c) (w:=W4) (t:=t.tL) (I:=IL) (E:=II) (vs:=ps) (parts:= #[(0,ad5 (some ⟨w0.heap.size+2,0,none⟩)),(1,ad5 (some ⟨w0.heap.size+2,1,none⟩)),(2,ad5 (some ⟨w0.heap.size+2,2,none⟩)),(3,ad5 (some ⟨w0.heap.size+2,5,none⟩)),(4,ad5 (some ⟨w0.heap.size+2,6,none⟩)),(5,ad5 (some ⟨w0.heap.size+2,7,none⟩))]) (by grind [H.amm]) (by grind) YV aab H.hT (by grind) (by rw [IU];intro v hv;simp at hv;rcases hv with rfl|rfl|rfl|rfl|rfl|rfl<;>rw [pi3]<;>rfl) (by rw [IU];rfl);have hfl:(ps.flatMap λv=>v.cells.toList)=ps:=by rw [IU];rfl
   rw [h6,hfl,s4,pl2,<-hW5] at this;simp [execOp,H.ops.TJ.op];rw [show (ev _:Operand->Value) (.tmp 12)=ad5 (some ⟨w0.heap.size+2,0,none⟩) from rfl,show (ev _:Operand->Value) (.tmp 13)=ad5 (some ⟨w0.heap.size+2,1,none⟩) from rfl,show (ev _:Operand->Value) (.tmp 14)=ad5 (some ⟨w0.heap.size+2,2,none⟩) from rfl,show (ev _:Operand->Value) (.tmp 15)=ad5 (some ⟨w0.heap.size+2,5,none⟩) from rfl,show (ev _:Operand->Value) (.tmp 16)=ad5 (some ⟨w0.heap.size+2,6,none⟩) from rfl,show (ev _:Operand->Value) (.tmp 17)=ad5 (some ⟨w0.heap.size+2,7,none⟩) from rfl,this];rfl
  have s5:W5.heap.size=w0.heap.size+4:=by rw [hW5];simp [s4]
  have l5:W5.heap[w0.heap.size+3]? =some (.cells ps.toArray t.tI (0,0)):=by rw [hW5,<-s4];exact ju W4 _
  have g5: ∀b,b<w0.heap.size+3->W5.heap[b]? =W4.heap[b]? :=λb hb=>by rw [hW5];exact (dk.alloc W4 _ _).vP b aab
  have k5:Rest W4 W5:=by rw [hW5];exact .alloc _ _ _
  have hold: ∀b,b<w0.heap.size->W5.heap[b]? =w0.heap[b]? :=(by grind)
  have hno: ∀b o,w0.heap.size<=b->φ0 b o=none:=λb o hb=>avn iA hb o;have aAe:oN φ0 W5:=λb o u hu=>sn (iA b o u hu) λhl=>hold b hl;have hle:=N3 (vs:=ps) λo=>hno (w0.heap.size+3) o aab;have hM:Ac c φ0 w0 (Sc φ0 (w0.heap.size+3) ps) W5 ⟨xs,0,zOs⟩ zVs:=by refine ⟨Hs aAe l5,⟨hle,λb hb hl=>hold b hl,λb o hb=>by unfold Sc;grind,aab,(((k1.trans k2).trans k3).trans k4).trans k5⟩,(by grind),⟨x,t.tR,by grind,hxr.mono hle⟩,(by grind),T9,rfl,λj o hj=> ?_⟩;unfold Sc;rw [if_neg aab];exact hno _ o aab
  obtain ⟨yV,r1,o1,F1⟩:=H.ints;obtain ⟨Xp,r2,o2,F2⟩:=H.text;have yT:=amp (ba:=w0.heap.size+3) (φ1:=Sc φ0 (w0.heap.size+3) ps) H.toaml F1 (nx:=[0,1,2,5,6,7]) abq abq (λj hj=>by unfold Sc;grind) (.refl _) hM hq1;refine ao.call rfl H.ops.VP abq (TT H.ops.VP rfl rfl rfl _) yT ?_;rintro y1 W6 a ⟨φ6,vs6,_,hM6⟩ ao;have aAf:=aid Ua hq1;refine wp_seq (wp_region ?_);rw [show agN (#[o 19,o 20,o 21]:Array Oper).size=[0,1,2] from rfl];refine ao.mv (v:= .pointer (some ⟨w0.heap.size+1,0,none⟩)) H.ops.W9 λa ao=> ?_;refine ao.st (v:= .pointer (some ⟨w0.heap.size+2,3,none⟩)) H.ops.YZ (lC (off:=0) (q:=3) H.ops.YZ H.hT p1 p2 (by rw [p3];rfl) rfl) λa ao=> ?_;refine ao.call rfl H.ops.VQ abq (ab1 H.ops.VQ rfl rfl rfl rfl _) (ab5 H.toaml F2 (j:=3) abq (.refl _) hM6 hq2) ?_;rintro y2 W7 a ⟨φ7,vs7,_,hM7⟩ ao;have aAg:=ab7 aAf hq2;refine wp_seq (wp_region ?_);rw [show agN (#[o 22,o 23,o 24]:Array Oper).size=[0,1,2] from rfl];refine ao.mv (v:= .pointer (some ⟨w0.heap.size+1,0,none⟩)) H.ops.Y0 λa ao=> ?_;refine ao.st (v:= .pointer (some ⟨w0.heap.size+2,4,none⟩)) H.ops.TL (lC (off:=0) (q:=4) H.ops.TL H.hT p1 p2 (by rw [p3];rfl) rfl) λa ao=> ?_;refine ao.call rfl H.ops.Xa abq (ab1 H.ops.Xa rfl rfl rfl rfl _) (ab5 H.toaml F2 (j:=4) abq (.refl _) hM7 hq3) ?_;rintro y3 W8 a ⟨φ8,vs8,_,hM8⟩ ao;exact ad3 H hM8 (ab7 aAg hq3) ao ⟨rfl,rfl,rfl⟩ hm
 grind [tm1]
def aca (g:Nat->List MV->Option MV)(k:TkF):List MV->Option MV
 |[.list xs]=>Xo g k xs
 |_=>none
def amu (H:CP P c g k t f fI fX fn r o){ms:List MV}(hm:aca g k ms=some res):dG P c f ms res:=by unfold aca at hm;grind [ad4]
end
def amv (r:Nat->Nat)(o:Nat->Oper):Code:= .seq (.region (r 0) #[o 0] false) (.seq (.region (r 1) #[o 1,o 2,o 3,o 4] false) .ret)
def Ub (r:Nat->Nat)(o:Nat->Oper):Code:= .seq (.region (r 0) #[o 0] false) (.seq (.region (r 1) #[o 1,o 2] false) (.seq (.region (r 2) #[o 3,o 4,o 5] false) (.seq (.region (r 3) #[o 6,o 7,o 8] false) .ret)))
structure ad6 where
 tP:Nat
 tB:Nat
 tO:Nat
 tS:Nat
 tE:Nat
 fN:Nat
 fF:Nat
 fW:Nat
 fS:Nat
structure arf (n:ad6) (o:Nat->Oper):Prop where
 h0:al (o 0) 0 (.assign (.const (.pointer none)))
 h1:al (o 1) 1 (.call {callee:= .value (.func n.fF),args:= #[],argTypes:= #[]})
 h2:al (o 2) 2 (.build n.tS #[(0,.tmp 1)])
 h3:al (o 3) 3 (.box n.tS (.tmp 2))
 h4:al (o 4) 0 (.assign (.tmp 3))
structure arh (n:ad6) (o:Nat->Oper):Prop where
 h0:al (o 0) 2 (.alloc n.tO)
 h1:al (o 1) 4 (.call {callee:= .value (.func n.fN),args:= #[],argTypes:= #[]})
 h2:al (o 2) 3 (.assign (.tmp 4))
 h3:al (o 3) 5 (.move (.tmp 3))
 h4:al (o 4) 6 (.move (.tmp 0))
 h5:al (o 5) 7 (.call {callee:= .value (.func n.fW),args:= #[.tmp 5,.tmp 6],argTypes:= #[n.tP,n.tB]})
 h6:al (o 6) 8 (.move (.tmp 3))
 h7:al (o 7) 9 (.call {callee:= .value (.func n.fS),args:= #[.tmp 8],argTypes:= #[n.tP]})
 h8:gX (o 8) (.store n.tO (.tmp 2) (.tmp 9))
def ksW (tE:Nat):List LK:=[.k (.h .u32 6),.own 2000001 tE false,.k (.i .i64)]
def ksS:List LK:=[.k (.h .u32 6),.k .l,.k (.i .i64)]
structure acb (P:Program) (c:Ctx) (g:Nat->List MV->Option MV) (n:ad6) (f:Nat) (fn fm:Func) (r:Nat->Nat) (o p:Nat->Oper):Prop where
 hT:iz P c.ti
 key: ∀k,c.key k=k
 snd: ∀k ms x,g k ms=some x->dG P c k ms x
 gvs:c.cS n.fF=false/\c.cS n.fW=true/\c.cS n.fS=true/\c.cS f=false
 sig:c.sig n.fW=some (0,ksW n.tE,ksS)/\c.sig n.fS=some (0,ksS,ksS)
 tyE: ∃I,c.tv n.tE=some I
 tyO: ∃I,c.tv n.tO=some I/\I.size=32
 pos:P.funcs[f]? =some fn
 name:(fn.name== "runtime.NumGoroutine")=false
 tmps:fn.ntmps=10
 res:fn.results= #[.cell 2 n.tO]
 body:fn.body=some (Ub r o)
 ops:arh n o
 pos':P.funcs[n.fN]? =some fm
 aoU:(fm.name== "runtime.NumGoroutine")=false
 aoV:fm.ntmps=4
 avr:fm.results= #[.tmp 0]
 aii:fm.body=some (amv r p)
 Uc:arf n p
 bld: ∀u0 u1 u2 u3 u4 u5 u6 u7:Int,P.built n.tS [(0,.agg #[.int .u32 u0,.int .u32 u1,.int .u32 u2,.int .u32 u3,.int .u32 u4,.int .u32 u5,.int .u32 u6,.int .u32 u7])]= some #[.int .u32 u0,.int .u32 u1,.int .u32 u2,.int .u32 u3,.int .u32 u4,.int .u32 u5,.int .u32 u6,.int .u32 u7,.slice none 0 0,.int .i64 0]
def aij (g:Nat->List MV->Option MV)(n:ad6):List MV->Option MV
 |[a]=>gL a λxs=>bd (g n.fF []) λs=>gH .u32 6 s λs=>bd (g n.fW [.cell (.func 0 [.h .u32 6 s,.list [],.i .i64 0]),.list xs]) λr=>gW r λ_ ls=>
  gC ls λm0 ls=>gH .u32 6 m0 λs1=>gC ls λm1 ls=>gL m1 λleft=>gC ls λm2 ls=>gI .i64 m2 λlong=>gN ls<|
  bd (g n.fS [.cell (.func 0 [.h .u32 6 s1,.list left,.i .i64 long])]) λq=>gW q λh _=>gH .u8 30 h λh=>some (.h .u8 30 h)
 |_=>none
def tm0 (k:Nat):Tm {tmps:= #[]++sh k undef,defers:=[]} k (λ_=>undef):=by refine ⟨rfl,abu,λq=> ?_⟩;simp [afT];grind
section
variable {P:Program}{c:Ctx}{g:Nat->List MV->Option MV}{n:ad6}{f:Nat}{fn fm:Func}{r:Nat->Nat}{o p:Nat->Oper}{φ:Ph}{w:World}
def acd {o:Oper}{d:Nat}{t:Array TypeId}{k:Nat}{e:Operand->Value}(ho:al o d (.call {callee:= .value (.func k),args:= #[],argTypes:=t})) (he:e (.func k)= .func (.func k) #[] #[]) (w:World):(execOp e o).run P w=(callFunc k #[]).run P w:=by simp [execOp,ho.op,resolve,invoke,he,afD]
def eight {s:List Int}(h:s.length=8): ∃a0 a1 a2 a3 a4 a5 a6 a7,s=[a0,a1,a2,a3,a4,a5,a6,a7]:=by
 match s,h with
 |[a0,a1,a2,a3,a4,a5,a6,a7],_=>grind
def FZ (H:acb P c g n f fn fm r o p){s:List Int}(hs:g n.fF []=some (.h .u32 6 s))(hi:oN φ w): dF P n.fN #[] w λv W=> ∃b φ',v= .pointer (some ⟨b,0,none⟩)/\w.heap.size<=b/\s.length=8/\W.heap[b]? =some (.cells (bN .u32 s++[akG none 0 0,afw .i64 0]).toArray n.tS (0,0))/\ (∀o,φ' b o=none)/\Trans (λb=>w.heap.size<=b) φ w φ' W/\oN φ' W:=by
 refine lp H.pos' H.aoU H.aii (calls_of_wp H.pos' H.aii ?_);rw [H.aoV];have aAi:Tm {tmps:= #[]++sh (4-(#[]:Array Value).size) undef,defers:=[]} 4 (λ_=>undef):=tm0 4;refine wp_seq (wp_region ?_);refine aAi.yU (v:= .pointer none) H.Uc.h0 λa ao=> ?_;refine wp_seq (wp_region ?_);have hc:=D5 (vs:=[]) (by rw [H.key];exact H.gvs.1) (H.snd _ _ _ hs) rfl rfl hi;refine ao.call rfl H.Uc.h1 abq (acd H.Uc.h1 rfl _) hc ?_;rintro x W a ⟨φ',t1,t2,hx⟩ ao;obtain ⟨rfl,hl⟩:x= .agg (s.map (afw .u32)).toArray/\s.length=8:=hx;obtain ⟨a0,a1,a2,a3,a4,a5,a6,a7,rfl⟩:=eight hl;refine ao.st (v:= .agg (bN .u32 [a0,a1,a2,a3,a4,a5,a6,a7]++[akG none 0 0,afw .i64 0]).toArray) H.Uc.h2 (Hw H.Uc.h2 (H.bld a0 a1 a2 a3 a4 a5 a6 a7)) λa ao=> ?_;refine ao.aZ (v:= .pointer (some ⟨W.heap.size,0,none⟩)) H.Uc.h3 (ab0 H.Uc.h3 W) λa ao=> ?_;refine ao.yU (v:= .pointer (some ⟨W.heap.size,0,none⟩)) H.Uc.h4 λa ao=> ?_;refine wp_ret ?_;refine ⟨ao.defers,.pointer (some ⟨W.heap.size,0,none⟩),?_,_,rfl,W.heap.size,φ',rfl,t1.size,rfl,?_,λo=> ?_,t1.trans ?_,?_⟩
 .have h0:a.tmps[0]?.getD undef= .pointer (some ⟨W.heap.size,0,none⟩):=by have:=ao.get 0;simpa [rL] using this
  simp [results,H.avr,gu,h0]
 .exact ju W _
 .cases ho:φ' W.heap.size o with
  |none=>rfl
  |some u=>have:=BY W _ (t2 _ _ _ ho);simp at this
 .exact ⟨.refl _,(by grind [qn]),λ_ _ _=>rfl,by simp_all,.alloc _ _ _⟩
 .exact λb o u hu=>sn (t2 b o u hu) (by grind [qn])
theorem aik (H:acb P c g n f fn fm r o p){xs:List MV}{res:MV}(hm:aij g n [.list xs]=some res):dG P c f [.list xs] res:=by
 simp only [aij,show∀K:List MV->Option MV,gL (.list xs) K=K xs from λ_=>rfl] at hm;have hgH: ∀{k:IntKind} {j:Nat} {m:MV} {K:List Int->Option MV} {r:MV},gH k j m K=some r-> ∃s,m= .h k j s/\K s=some r:=by
  intro k j m K r h;unfold gH at h;split at h
  .rename_i k' j' s;cases hq:decide (k'=k)&&ac4 j' j with
   |false=>grind
   |true=>simp_all
  .cases h
 have hgC: ∀{l:List MV} {K:MV->List MV->Option MV} {r:MV},gC l K=some r-> ∃m l',l=m::l'/\K m l'=some r:=by
  intro l K r h;cases l with
  |nil=>cases h
  |cons m l=>exact ⟨m,l,rfl,h⟩
 have hgW: ∀{m:MV} {K:MV->List MV->Option MV} {r:MV},gW m K=some r-> ∃x l,m= .eH x l/\K x l=some r:=by
  intro m K r h;unfold gW at h;split at h
  .grind
  .cases h
 obtain ⟨m,hF,h1⟩:=mE hm;clear hm;obtain ⟨s,e,h2⟩:=hgH h1;clear h1;subst e;obtain ⟨m,hW,h1⟩:=mE h2;clear h2;obtain ⟨x1,ls,e,h2⟩:=hgW h1;clear h1;subst e;obtain ⟨m0,ls,e,h1⟩:=hgC h2;clear h2;subst e;obtain ⟨s1,e,h2⟩:=hgH h1;clear h1;subst e;obtain ⟨m1,ls,e,h1⟩:=hgC h2;clear h2;subst e;obtain ⟨left,e,h2⟩: ∃l,m1=MV.list l/\(gC ls λm2 ls=>gI .i64 m2 λlong=>gN ls<|bd (g n.fS [.cell (.func 0 [.h .u32 6 s1,.list l,.i .i64 long])]) λq=>gW q λh _=>gH .u8 30 h λh=>some (.h .u8 30 h))=some res:=by unfold gL at h1;grind
 clear h1;subst e;obtain ⟨m2,ls,e,h1⟩:=hgC h2;clear h2;subst e;obtain ⟨long,e,h2⟩: ∃k,m2=MV.i .i64 k/\(gN ls<|bd (g n.fS [.cell (.func 0 [.h .u32 6 s1,.list left,.i .i64 k])]) λq=>gW q λh _=>gH .u8 30 h λh=>some (.h .u8 30 h))=some res:=by unfold gI at h1;grind
 clear h1;subst e;cases ls with
 |cons=>cases h2
 |nil=>
 simp only [gN] at h2;obtain ⟨m,hS,h1⟩:=mE h2;clear h2;obtain ⟨x2,outs,e,h2⟩:=hgW h1;clear h1;subst e;obtain ⟨h,e,h1⟩:=hgH h2;clear h2;subst e;simp only [IT] at h1;subst h1;intro φ0 w0 Z0 vs hz0 dx iA;simp only [cR,H.key,H.gvs.2.2.2,AI,if_false] at dx;obtain ⟨x,rest,rfl,hx,vX⟩:=dx;have vX:rest=[]:=vX;subst vX;refine (lp (R:=λv W=> ∃φ',Trans (λb=>w0.heap.size<=b) φ0 w0 φ' W/\oN φ' W/\cQ c.key φ' v (.h .u8 30 h)) H.pos H.name H.body (calls_of_wp H.pos H.body ?_)).imp ?_;rotate_left
 .rintro v W ⟨φ',t1,t2,h3⟩;exact ⟨φ',t1.vY hz0,t2,h3⟩
 rw [H.tmps];obtain ⟨Io,p1,p2⟩:=H.tyO;obtain ⟨IE,e1⟩:=H.tyE;obtain ⟨hOi,hOc⟩:=a8 p1;obtain ⟨mT,pg⟩:=a8 e1;obtain ⟨iO,zO,hiO,hsO,_,hzO,ard⟩:=kD (H.hT _ Io hOi) hOc;have o5:=H.ops.h5;have o7:=H.ops.h7;have key: ∀a:Act,Tm a 10 (rL (λ_=>undef) 0 x)->(Ub r o).wp P (bodyPost P fn λe W=> ∃v,e= .returned v/\ ∃φ',Trans (λb=>w0.heap.size<=b) φ0 w0 φ' W/\oN φ' W/\cQ c.key φ' v (.h .u8 30 h)) a w0:=by
  intro a ao;unfold Ub;refine wp_seq (wp_region ?_);refine ao.step rfl H.ops.h0 abq (Mk H.ops.h0 hiO hzO _) (λa ao=> ?_);obtain ⟨W1,Qp⟩: ∃W1,W1=w0.alloc (.cells zO.cells n.tO):=⟨_,rfl⟩
  rw [<-Qp];have s1':W1.heap.size=w0.heap.size+1:=by rw [Qp];simp
  have l1:W1.heap[w0.heap.size]? =some (.cells zO.cells n.tO (0,0)):=by rw [Qp];exact ju w0 _
  have g1: ∀b,b<w0.heap.size->W1.heap[b]? =w0.heap[b]? :=(by grind [qn])
  have k1:Rest w0 W1:=by rw [Qp];exact .alloc _ _ _
  have i1:oN φ0 W1:=λb o u hu=>sn (iA b o u hu) λhl=>g1 b hl;have f0: ∀o,φ0 w0.heap.size o=none:=λo=>by
   cases ho:φ0 w0.heap.size o with
   |none=>rfl
   |some u=>have:=BY w0 _ (iA _ _ _ ho);simp at this
  have t01:Trans (λb=>w0.heap.size<=b) φ0 w0 φ0 W1:=⟨.refl _,λb _ hb=>g1 b hb,λ_ _ _=>rfl,aab,k1⟩
  refine wp_seq (wp_region ?_);refine ao.call rfl H.ops.h1 abq (acd H.ops.h1 rfl _) (FZ H hF i1) ?_;rintro v2 W2 a ⟨b,φ2,rfl,hb,rK,B3,hbf,t12,i2⟩ ao;have VN:=bx B3;refine ao.yU H.ops.h2 λa ao=> ?_;refine wp_seq (wp_region ?_);refine ao.mv H.ops.h3 λa ao=> ?_;refine ao.mv H.ops.h4 λa ao=> ?_;have hx2:cQ c.key φ2 x (.list xs):=hx.mono t12.ph;have hzW: ∀q,W2.heap.size<=q->w0.heap.size<q:=(by grind)
  have qq:eY c (λq=>w0.heap.size<q) φ2 W2 b (ksW n.tE) [.h .u32 6 s,.list [],.i .i64 0]:=by
   refine ⟨[.hs .u32 6 s,.own 2000001,.p (.i .i64 0)],[(2000001,⟨n.tE,false,[]⟩)],λ_=> .slice none 0 0,_,_,rfl,B3,by grind,hbf,?_,?_,?_⟩
   .refine ⟨bN .u32 s,[.slice none 0 0,.int .i64 0],rfl,⟨rfl,rK⟩,[.slice none 0 0],[.int .i64 0],rfl,⟨_,rfl,rfl,λo _=>rfl⟩,[.int .i64 0],[],rfl,⟨rfl,.i _ _⟩,rfl⟩
   .intro f o ho;have ho:(bif ac4 2000001 f then some (⟨n.tE,false,[]⟩:pC) else none)=some o:=ho;cases hh:ac4 2000001 f with
    |false=>grind
    |true=>rw [hh] at ho;cases ho;exact ⟨⟨IE,[],mT,pg,World.ownsRow_nil W2 0 n.tE IE.size,rfl,(by grind [afF])⟩,by simp [afF]⟩
   .grind [afF]
  have Am:cR c (λq=>w0.heap.size<q) φ2 W2 (c.key n.fW) [.pointer (some ⟨b,0,none⟩),x] [.cell (.func 0 [.h .u32 6 s,.list [],.i .i64 0]),.list xs]:=by simp only [cR,H.key,H.gvs.2.1,if_true];exact .inr (.inr ⟨0,ksW n.tE,ksS,0,_,b,H.sig.1,rfl,rfl,⟨_,_,rfl,⟨rfl,.rp b 0 [] [] .nil abu⟩,_,_,rfl,hx2,rfl⟩,qq⟩)
  refine ao.call rfl o5 abq (TT o5 rfl rfl rfl _) (H.snd _ _ _ hW φ2 W2 _ _ hzW Am i2) ?_;rintro v3 W3 a ⟨φ3,t23,i3,_,pos',ks',ko',aqF,V0,yY,Wd,hc3⟩ ao;rw [H.key,H.sig.1] at yY;simp only [IT,an0] at yY;obtain ⟨rfl,rfl,rfl⟩:=yY;simp only [List.getElem?_cons_zero,IT,aoh,Addr.mk.injEq] at Wd;obtain ⟨rfl,_⟩:=Wd;refine wp_seq (wp_region ?_);refine ao.mv H.ops.h6 λa ao=> ?_;have aAl:cR c (λq=>w0.heap.size<q) φ3 W3 (c.key n.fS) [.pointer (some ⟨b,0,none⟩)] [.cell (.func 0 [.h .u32 6 s1,.list left,.i .i64 long])]:=by simp only [cR,H.key,H.gvs.2.2.1,if_true];exact .inr (.inr ⟨0,ksS,ksS,0,_,b,H.sig.2,rfl,rfl,⟨_,_,rfl,⟨rfl,.rp b 0 [] [] .nil abu⟩,rfl⟩,hc3⟩)
  refine ao.call rfl o7 abq (TS (v:= .pointer (some ⟨b,0,none⟩)) o7 rfl rfl _) (H.snd _ _ _ hS φ3 W3 (λq=>w0.heap.size<q) [.pointer (some ⟨b,0,none⟩)] (by grind [t12.size,t23.size]) aAl i3) ?_;rintro v4 W4 a ⟨φ4,t34,i4,qh,_⟩ ao;obtain ⟨rfl,hhl⟩:v4= .agg (h.map (afw .u8)).toArray/\h.length=32:=qh;have q4:W4.heap[w0.heap.size]? =some (.cells zO.cells n.tO (0,0)):=by rw [t34.heap _ aab (by grind [t12.size,t23.size]),t23.heap _ aab (by grind),t12.heap _ aab aab,l1]
  have aE6:zO.cells.toList.length=32:=by rw [ab2,ard,p2]
  have ER:(Value.agg (h.map (afw .u8)).toArray).cells.toList=h.map (afw .u8):=by simp [al3]
  refine ao.CH rfl H.ops.h8 (Hq (v:= .agg (h.map (afw .u8)).toArray) H.ops.h8 (H.hT _ _ hOi) hOc rfl rfl (by grind) (by grind [Value.oneCell']) q4 (by grind)) ?_;rw [ER,p2];have hdr:zO.cells.toList.take 0++h.map (afw .u8)++zO.cells.toList.drop (0+32)=h.map (afw .u8):=by rw [afB aab];simp
  rw [hdr];obtain ⟨W5,hW5⟩: ∃W5,W5=W4.setRow w0.heap.size (h.map (afw .u8)).toArray:=⟨_,rfl⟩
  rw [<-hW5];have l5:W5.heap[w0.heap.size]? =some (.cells (h.map (afw .u8)).toArray n.tO (0,0)):=by rw [hW5];exact iY _ q4
  have g5: ∀q,q≠w0.heap.size->W5.heap[q]? =W4.heap[q]? :=(by grind [setRow_other])
  have B1: ∀o,φ4 w0.heap.size o=none:=λo=>by rw [t34.free _ _ aab,t23.free _ _ aab,t12.free _ _ aab];exact f0 o
  have t04:Trans (λb=>w0.heap.size<=b) φ0 w0 φ4 W4:=((t01.trans (t12.vY λq hq=>aab)).trans (t23.vY λq hq=>aab)).trans (t34.vY λq hq=>aab);have i5:oN φ4 W5:=λb o u hu=>sn (i4 b o u hu) (by grind);have t05:Trans (λb=>w0.heap.size<=b) φ0 w0 φ4 W5:=⟨t04.ph,λb hb hl=>by rw [g5 b aab];exact t04.heap b hb hl,t04.free,by grind,t04.rest.trans (by rw [hW5];exact .setRow _ _ _)⟩
  refine wp_ret ?_;refine ⟨ao.defers,.agg (h.map (afw .u8)).toArray,?_,_,rfl,φ4,t05,i5,rfl,hhl⟩;have aoS:(loadVar n.tO ⟨w0.heap.size,0,none⟩).run P W5= .ok (.agg (h.map (afw .u8)).toArray) W5:=by
   have hr:W5.rangeAt w0.heap.size 0 (h.map (afw .u8)):=wOf l5 abu;rcases ja (P:=P) (H.hT _ _ hOi) hOc (vs:=h.map (afw .u8)) (by grind) hr with ⟨_,hq⟩|⟨_,u,hu,_⟩
   .grind [ahs,alm]
   .have:=congrArg List.length hu;grind
  have VM:a.tmps[2]?.getD undef= .pointer (some ⟨w0.heap.size,0,none⟩):=by have:=ao.get 2;rw [agx] at this;exact this
  simp [results,H.res,gu,VM,aoS,asAddr]
 grind [tm1]
def ari (H:acb P c g n f fn fm r o p){ms:List MV}{res:MV}(hm:aij g n ms=some res):dG P c f ms res:=by
 cases ms with
 |nil=>cases hm
 |cons a ms=>
  cases ms with
  |cons=>cases hm
  |nil=>
   have hl: ∃xs,a= .list xs:=by cases a<;>first|exact ⟨_,rfl⟩|grind [aij,gL]
   grind [aik]
end
end
end Dn
