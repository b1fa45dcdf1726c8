import Derived.Test.YtmdlghpieagfhaaGreatDnA
import Derived.MapKept
import Derived.Carry
import Derived.Laws.StructEq
import Derived.Laws.RangeAny
import Derived.Laws.BytesArg
import Derived.Laws.MakeOwn
import Derived.LoopN
import Derived.Laws.Sem
import Derived.ProofKit
import Derived.OpenShut
/-
  Variables that no one changes any more. Conditions: none.
-/
set_option linter.unusedSimpArgs false
set_option linter.unusedVariables false
set_option linter.constructorNameAsVariable false
open Nat renaming eq_of_beq_eq_true→eJ,beq→BY,zero_add→aa9,le_of_ble_eq_true→abu,add_right_cancel_iff→ab6,le_refl→acg,le_trans→aco,ble→acy,not_lt_zero→adg,ble_eq_true_of_le→adx,add_assoc→aeV,add_comm→aft,zero_le→afM
open Bool renaming and_eq_true→sh,or_eq_false_iff→IT,not_eq_true'→aai,false_eq_true→aaR,not_eq_false'→abb,not_true→aeL,true_and→aeX
open List renaming mem_cons→AI,getElem?_eq_getElem→IS,mem_append_left→No,mem_append_right→aah,mem_cons_of_mem→aas,cons_append→aaS,getElem?_eq_some_iff→aaT,map_cons→aaZ,replicate→aa1,getElem?_map→aa7,mem_map→aba,mem_append→abj,getElem?_append_right→ab1,getElem?_append_left→ab2,all_eq_true→aca,length_cons→acb,mem_filter→acm,getD_eq_getElem?_getD→acv,getElem?_eq_none_iff→acw,range'→acz,mem_range'→adk,take_append_drop→adw,length_singleton→ady,mem_of_getElem?→adB,getElem?_range→adH,map_eq_nil_iff→adK,getElem?_take→adO,range→adP,append_assoc→adW,getElem?_set→ad2,ext_getElem?→ad6,size_toArray→ad9,filter_cons→aea,length_take→aee,range'_succ→aei,length_map→aeB,append_nil→aeG,mapM_cons→aeJ
open Option.some renaming injEq→AT
open Go.Value renaming ownBlock→IN,slice→acf,cells→ach,okWide→acu,int→afP
open Go.Result renaming andThen→OF
open List.cons renaming injEq→aaa
open Prod.mk renaming injEq→aaD
open Go.MapKept renaming run_getObj_map→aaL,run_setObj_map→aaX,heap_set→acP
open Go.Instr renaming sameBits→aaN,sameNow→abr,findNow→ace,findKey→acE,sureAddr→aeK,loadAt→afK
open Classical renaming choose_spec→aa6,choose→acR
open Array renaming toList_inj→aa8,getElem?_modify→abt,getD_eq_getD_getElem?→abv,toArray_toList→abM,toList_map→ab8,replicate→adv,length_toList→adI,ext_getElem?→adN
open Option renaming map_some→abk
open Go.Deferred renaming ofValue→ab9
open Go.Oper renaming wp_mono→acp,upon_value→adb,wp→aeZ
open UInt8 renaming ofNat→acx
open Go.World renaming frozen?→acJ,frozen?_alloc_old→acN
open Go.Code renaming region→adD,rounds→afN
open Go.Sem renaming run_bind→adU
open Go.Utf8 renaming decode→aeA
open False renaming elim→aeH
open Go.Op renaming equal→aeI
open Go.Region renaming wanted→aeW
open Ne renaming symm→afu
open Go.Exit renaming inBlock→afA
open Go.Addr renaming add_mid→afL
open Go.Value.pointer renaming injEq→afO
namespace Dn
open Go
section
variable {P:Program}{c:Ctx}{Z:bR} {e e':Env}{st:St}{a:Act} {w w':World}{R:Type}{K:St->Option R}{r:R}{Q:Exit->Act->World->Prop}{o:Oper}
theorem cc.Un {root:Nat}{cs kh:List aJ}{arr:Array Value}{T:TypeId}(h:cc c Z e st a w)(hf:aw st.fr root= .box cs)(eZ:w.heap[e.B root]? =some (.cells arr T (0,0)))(hl:aC e arr.toList kh)(hp:kj kh=true)(VR:root∉Z.cJ)(BO:zu root=false): ∃φ',sR e.φ φ'/\(∀b off,¬Z b->φ' b off=e.φ b off)/\(∀j,j<arr.toList.length->φ' (e.B root) j=arr.toList[j]?)/\ cc c Z {e with φ:=φ'} {st with fr:=dg st.fr root (.zB kh)} a w:=by
 have pN:=h.slot root;rw [hf] at pN;have vj:=pN.2.free;have wI:gM cs=false:=by obtain ⟨o,h1,h2⟩:=pN.2.obj;rw [eZ] at h1;cases h1;exact h2.2.zM
 simp only [cz] at pN;refine ⟨λb off=>if b=e.B root/\off<arr.toList.length then arr.toList[off]? else e.φ b off,?_,?_,?_,?_⟩
 ·intro b off v hv;by_cases hb:b=e.B root
  ·subst hb;rw [vj] at hv;cases hv
  ·simp only [hb,false_and,if_false];exact hv
 ·intro b off hz;have hb: ¬b=e.B root:=by intro hb;subst hb;exact hz (Oj pN.2.cP VR)
  simp [hb]
 ·intro j hj;have hj':j<arr.size:=by simpa using hj
  simp [hj']
 ·have hle:sR e.φ (λb off=>if b=e.B root/\off<arr.toList.length then arr.toList[off]? else e.φ b off):=by
   intro b off v hv;by_cases hb:b=e.B root
   ·subst hb;rw [vj] at hv;cases hv
   ·simp only [hb,false_and,if_false];exact hv
  have xF:n9 (λ_=>True) (λ_=>True) e {e with φ:=λb off=>if b=e.B root/\off<arr.toList.length then arr.toList[off]? else e.φ b off}:=⟨rfl,hle,λ_ _=>rfl,λf o ho _=>⟨o,ho,rfl,rfl⟩⟩
  have hbk: ∀q,di (aw st.fr q)=true->di (aw (dg st.fr root (.zB kh)) q)=true:=by
   intro q hq;rw [cb];by_cases hqr:q=root
   ·simp [hqr,di]
   ·simp only [hqr,if_false];exact hq
  refine ⟨h.defers,h.size,h.m,h.key,fP h.nodup,?_,?_,?_,?_,?_,h.ff,?_,h.cP⟩
  ·intro t;show cz Z _ w t _ (aw (dg st.fr root (.zB kh)) t);rw [cb];by_cases ht:t=root
   ·subst ht;simp only [if_true,cz,ah];refine ⟨e.B t,0,arr.toList,by have:=pN.1.1 BO;rwa [vZ wI] at this,hl.on xF (λl _ f _=>trivial),hp,?_⟩;intro j hj;have hj':j<arr.size:=by simpa using hj
    rw [aa9];simp [hj']
   ·simp only [ht,if_false];have hs:=h.slot t;have tP:=h.bb t root;generalize aw st.fr t=s at hs tP;cases s<;>simp only [cz] at hs⊢ <;>try exact hs.on xF (eP _)
    rename_i qC;refine ⟨hs.1,hs.2.cP,?_,?_⟩
    ·obtain ⟨o2,h1,h2⟩:=hs.2.obj;exact ⟨o2,h1,h2.on xF (λl _ f _=>trivial)⟩
    ·intro off;have dS: ¬e.B t=e.B root:=tP qC cs rfl hf ht;show (if e.B t=e.B root/\off<arr.toList.length then arr.toList[off]? else e.φ (e.B t) off)=none;simp only [dS,false_and,if_false];exact hs.2.free off
  ·intro t;show cS (dg st.fr root (.zB kh)) (aw (dg st.fr root (.zB kh)) t);rw [cb];by_cases ht:t=root
   ·simp [ht,cS]
   ·simp only [ht,if_false];have rR:=h.root t;generalize aw st.fr t=s at rR;cases s with
    |ptr q o=>exact hbk q rR
    |hp q o i=>exact hbk q rR
    |zC q=>exact hbk q rR
    |_=>trivial
  ·intro f o ho;obtain ⟨I,cells,h1,h2,h3,h4,h5⟩:=(h.jA f o ho).row;refine ⟨I,cells,h1,h2,h3,h4.mono hle,λbx hb=>⟨(h5 bx hb).1,λoff u hu=>(h5 bx hb).2.1 off u ?_,λg1 g2 j hj=>hle.Dh ((h5 bx hb).2.2 g1 g2 j hj) hj⟩⟩;have dS: ¬bx=e.B root:=by intro Ro;exact h.bf root cs f o hf ho (by rw [hb,Ro])
   have hu:(if bx=e.B root/\off<arr.toList.length then arr.toList[off]? else e.φ bx off)=some u:=hu;simpa [dS] using hu
  ·intro t t' c1 c2 h1 h2 dS;have h1:aw (dg st.fr root (.zB kh)) t= .box c1:=h1;have h2:aw (dg st.fr root (.zB kh)) t'= .box c2:=h2;rw [cb] at h1 h2;by_cases ht:t=root
   ·simp [ht] at h1
   ·by_cases Dl:t'=root
    ·simp [Dl] at h2
    ·simp only [ht,Dl,if_false] at h1 h2;exact h.bb t t' c1 c2 h1 h2 dS
  ·intro t c1 f o h1 h2;have h1:aw (dg st.fr root (.zB kh)) t= .box c1:=h1;rw [cb] at h1;by_cases ht:t=root
   ·simp [ht] at h1
   ·simp only [ht,if_false] at h1;exact h.bf t c1 f o h1 h2
  ·intro b off v hv;have hv:(if b=e.B root/\off<arr.toList.length then arr.toList[off]? else e.φ b off)=some v:=hv;by_cases hb:b=e.B root/\off<arr.toList.length
   ·simp only [hb,and_self,if_true] at hv;rw [hb.1,cell_of eZ];simpa using hv
   ·simp only [hb,if_false] at hv;exact h.pM b off v hv
end
end Dn
/-
  Functions with captured variables. Conditions: none.
-/
namespace Dn
open Go
section
variable {P:Program}{c:Ctx}{Z:bR} {e e':Env}{st:St}{a:Act} {w w':World}{R:Type}{K:St->Option R}{r:R}{Q:Exit->Act->World->Prop}{o:Oper}
theorem HV {os:List Operand}: ∀{e:Env} {st:St} {K':List MV->St->Option R},cc c Z e st a w->Hr c st os K'=some r-> ∃e' b7 ms,cc c Z e' b7 a w/\Ext Z e e'/\jB e'.key e'.φ (os.map a.eval) ms/\K' ms b7=some r/\(∀m∈ms,m.one=true):=by
 induction os with
 |nil=>intro e st K' h hK;exact ⟨e,st,[],h,.refl _ _,.nil,hK,by simp⟩
 |cons x xs ih=>
  intro e st K' h hK;simp only [Hr] at hK;obtain ⟨hx,_⟩:=h.eval x;generalize aM c st x=s at hx hK;split at hK
  ·rename_i root;simp only [ah] at hx;split at hK
   ·rename_i cs zL;cases hup:wN cs||zu root with
    |true=>simp [hup] at hK
    |false=>
     simp only [hup,cond_false] at hK;obtain ⟨hu,ak1⟩:=IT.1 hup;have nv:=h.slot root;rw [zL] at nv;have wI:gM cs=false:=by
      cases hm:gM cs with
      |false=>rfl
      |true=>obtain ⟨s,ms,rfl⟩:=MO hm;simp [wN,Oz] at hu
     obtain ⟨arr,T,eZ,sV⟩:=nv.2.cells wI;obtain ⟨e1,cR,ms,zv,HM,E1,zO,hK,_,BO⟩:=oa h sV hK;cases MP:su cs ms with
     |none=>simp [MP] at hK
     |some kh=>
      simp only [MP] at hK;obtain ⟨EZ,FV⟩:=BO kh MP;have hB:e1.B root=e.B root:=HM.on.B root trivial;unfold wr at hK;cases hn:bL cR.cJ root with
      |true=>simp [hn] at hK
      |false=>
       obtain ⟨φ',g1,g2,g3,g4⟩:=zv.Un (root:=root) (cs:=cs) (by rw [E1];exact zL) (by rw [hB];exact eZ) EZ FV (by rw [<-zv.defers.2.1,<-bU,hn];simp) ak1;simp only [hn,cond_false,force_eq,oK] at hK;have Li:Ext Z e1 {e1 with φ:=φ'}:=⟨⟨rfl,g1,λ_ _=>rfl,λf o ho _=>⟨o,ho,rfl,rfl⟩⟩,g2⟩
       obtain ⟨e3,qD,ns,hs3,W5,W6,hK,oX⟩:=ih g4 hK;refine ⟨e3,qD,.rp ms::ns,hs3,(HM.trans Li).trans W5,?_,hK,by intro m hm;rcases AI.1 hm with rfl|hm<;>first|rfl|exact oX m hm⟩;have iv:nu e1.key φ' [a.eval x] (.rp ms):=by rw [hx,<-hB];refine .rp (e1.B root) 0 arr.toList ms (zO.mono g1) ?_;intro j hj;rw [aa9];exact g3 j hj
       have iv:=iv.mono W5.on.φ;have hk3:e3.key=e1.key:=W5.on.key;rw [<-hk3] at iv;exact .cons [a.eval x] _ _ _ iv W6
   ·simp at hK
  ·rename_i cs;simp only [ah] at hx;obtain ⟨bx,q,vs,hv,sV,hp,E0⟩:=hx;obtain ⟨e1,cR,ms,zv,HM,E1,zO,xG,h6,_⟩:=oa h sV hK;clear hK;obtain ⟨rfl,rfl⟩:=h6 hp;obtain ⟨e3,qD,ns,hs3,W5,W6,OX,oX⟩:=ih zv xG;refine ⟨e3,qD,.rp ms::ns,hs3,HM.trans W5,?_,OX,by intro m hm;rcases AI.1 hm with rfl|hm<;>first|rfl|exact oX m hm⟩;have iv:nu e1.key e1.φ [a.eval x] (.rp ms):=by rw [hv];exact .rp bx (q+0) vs ms zO (by simpa using E0)
   have iv:=iv.mono W5.on.φ;rw [<-W5.on.key] at iv;exact .cons [a.eval x] _ _ _ iv W6
  ·simp at hK
theorem OY {f:Nat}{dm:Array Operand}(ho:o.op= .makeFunc (.func f) #[] dm)(h:cc c Z e st a w)(hK:Hr c st dm.toList (λms st=>bu c st o.dst (.sc (.p (.func (c.key f) ms))) K)=some r):Rd P c Z K r e a w o (λ_=>True):=by
 obtain ⟨e1,cR,ms,zv,HM,zO,hK,oX⟩:=HV h hK;refine Rb (v:= .func (.func f) #[] (dm.map a.eval)) (s:= .sc (.p (.func (c.key f) ms))) (λw _=> ?_) zv HM.tr (.of ?_ trivial) hK
 ·simp [execOp,ho,Instr.makeFunc]
 ·simp only [ah,aY];exact ⟨rfl,.func f _ _ ms (by rw [zv.key]) (by simpa using zO) oX⟩
end
end Dn
/-
  Contracts of functions; calls. Conditions: none.
-/
namespace Dn
open Go
def Du (φ:Ph)(w:World):Prop:= ∀b o v,φ b o=some v->w.cell? ⟨b,o,none⟩=some v
def uT (key:Nat->Nat) (φ:Ph):Env:=⟨key,φ,λ_=>undef,λ_=>0,[]⟩
def kW (P:Program)(f:FuncId)(args:Array Value)(w:World)(R:Value->World->Prop):Prop:=match (callFunc f args).run P w with
 | .ok (.enter g as) w'=>Calls P g as w' λx AO=> ∃v,x= .returned v/\R v AO
 | .ok (.value v) w'=>R v w'
 |_=>False
def W7 (ks:List LK)(ls:List MV):Option (List aJ×List (Nat×pH)):=dq ⟨[],[],[],[]⟩ ks ls λcs rest st=>gN rest (some (cs,st.bn))
def qU (c:Ctx)(Z:Nat->Prop) (φ:Ph)(w:World)(bx:Nat)(ks:List LK)(ls:List MV):Prop:=∃cs m,∃E:Nat->Value,∃arr T,W7 ks ls=some (cs,m)/\w.heap[bx]? =some (.cells arr T (0,0))/\Z bx/\(∀o,φ bx o=none)/\aC ⟨c.key,φ,E,λ_=>bx,m⟩ arr.toList cs/\ (∀f o,aT m f=some o->dW c (bR.plain Z) ⟨c.key,φ,E,λ_=>bx,m⟩ w (E f) o/\(E f).ownBlock≠some bx)/\ (∀f f' o o' k,aT m f=some o->aT m f'=some o'->(E f).ownBlock=some k->(E f').ownBlock=some k->f=f')
def acj (c:Ctx)(Z:Nat->Prop) (φ:Ph)(w:World)(k:Nat)(vs:List Value)(ms:List MV):Prop:=∃pos ks off ls bx,c.sig k=some (pos,ks)/\vs[pos]? =some (.pointer (some ⟨bx,off,none⟩))/\ms[pos]? =some (.cell (.func off ls))/\cX c.key φ vs (ms.set pos (.rp []))/\qU c Z φ w bx ks ls
def jr (c:Ctx)(Z:Nat->Prop) (φ:Ph)(w:World)(k:Nat)(vs:List Value)(ms:List MV):Prop:=if c.iL k then (∃v0 v1 v2 xs m1 ys,vs=[v0,v1,v2]/\ms=[.fresh xs,m1,.fresh ys]/\dW c (bR.plain Z) (uT c.key φ) w v0 ⟨c.sI k,false,xs⟩/\jU c.key φ v1 m1/\ dW c (bR.plain Z) (uT c.key φ) w v2 ⟨c.sI k,false,ys⟩/\ ∀b,v0.ownBlock=some b->v2.ownBlock≠some b)\/ (∃v0 v1 v2 xs m1 m2,vs=[v0,v1,v2]/\ms=[.fresh xs,m1,m2]/\m2.one=true/\dW c (bR.plain Z) (uT c.key φ) w v0 ⟨c.sI k,false,xs⟩/\jU c.key φ v1 m1/\jU c.key φ v2 m2)\/ acj c Z φ w k vs ms
 else cX c.key φ vs ms
def kA (c:Ctx)(Z:Nat->Prop) (φ:Ph)(w:World)(k:Nat)(v:Value):MV->Prop
 | .fresh xs=>dW c (bR.plain Z) (uT c.key φ) w v ⟨c.sI k,false,xs⟩
 | .ej ms=> ∃arr,v= .tuple arr/\cX c.key φ arr.toList ms
 |m=>jU c.key φ v m
def vl (c:Ctx)(Z:Nat->Prop) (φ:Ph)(w:World)(k:Nat)(vs:List Value)(v:Value):MV->Prop
 | .fZ r outs=>kA c Z φ w k v r/\ ∃pos ks bx off,c.sig k=some (pos,ks)/\vs[pos]? =some (.pointer (some ⟨bx,off,none⟩))/\qU c Z φ w bx ks outs
 |r=>kA c Z φ w k v r
def mN (P:Program)(c:Ctx)(f:Nat)(ms:List MV)(r:MV):Prop:=∀(φ:Ph) (w:World) (Z:Nat->Prop) (vs:List Value),(∀b,w.heap.size<=b->Z b)->jr c Z φ w (c.key f) vs ms->Du φ w-> kW P f vs.toArray w λv w'=> ∃φ',Trans Z φ w φ' w'/\Du φ' w'/\vl c Z φ' w' (c.key f) vs v r
def Sound (P:Program)(c:Ctx):Prop:= ∀f ms r,c.g (c.key f) ms=some r->mN P c f ms r
section
variable {P:Program}{c:Ctx}{Z:bR} {Z':Nat->Prop} {e e':Env}{st:St}{a:Act} {w w':World}{R:Type}{K:St->Option R}{r:R}{Q:Exit->Act->World->Prop}{o:Oper}
theorem vl.plain {c:Ctx}{Z:Nat->Prop} {φ:Ph}{w:World}{k:Nat}{vs:List Value}{v:Value}{r:MV}(h:kA c Z φ w k v r):vl c Z φ w k vs v r:=by cases r<;>first|exact h|exact absurd h.1 (by simp [MV.one])
def isW:MV->Bool
 | .fZ _ _=>true
 |_=>false
theorem vl.of {c:Ctx}{Z:Nat->Prop} {φ:Ph}{w:World}{k:Nat}{vs:List Value}{v:Value}{r:MV}(h:vl c Z φ w k vs v r)(hr:isW r=false):kA c Z φ w k v r:=by cases r<;>first|exact h|cases hr
theorem cc.called {φ':Ph}(h:cc c Z e st a w)(hz: ∀b,Z' b->Z.In b)(sS: ∀t cs,aw st.fr t= .box cs-> ¬Z' (e.B t))(mM: ∀f o k,aT st.bn f=some o->(e.E f).ownBlock=some k-> ¬Z' k)(ht:Trans Z' e.φ w φ' w')(hi:Du φ' w'):cc c Z {e with φ:=φ'} st a w':=by
 have xF:n9 (λ_=>True) (λ_=>True) e {e with φ:=φ'}:=⟨rfl,ht.ph,λ_ _=>rfl,λf o ho _=>⟨o,ho,rfl,rfl⟩⟩
 refine ⟨h.defers,h.size,h.m,h.key,h.nodup,?_,h.root,?_,h.bb,h.bf,h.ff,hi,λb hb=>h.cP b (aco ht.size hb)⟩
 ·intro t;have hs:=h.slot t;have hb:=sS t;generalize aw st.fr t=s at hs hb;cases s<;>simp only [cz] at hs⊢ <;>try exact hs.on xF (eP _)
  rename_i cs;refine ⟨hs.1,hs.2.cP,?_,?_⟩
  ·obtain ⟨o2,h1,h2⟩:=hs.2.obj;exact ⟨o2,by rw [ht.heap _ (hb cs rfl) (bD h1)];exact h1,h2.on xF (λl _ f _=>trivial)⟩
  ·intro off;show φ' (e.B t) off=none;rw [ht.free _ off (hb cs rfl)];exact hs.2.free off
 ·intro f o ho;obtain ⟨I,cells,h1,h2,h3,h4,h5⟩:=(h.jA f o ho).row;refine ⟨I,cells,h1,h2,?_,h4.mono ht.ph,?_⟩
  ·show w'.ownsRow 0 o.ty I.size (e.E f) o.xs.length cells;refine ⟨h3.1,?_⟩;rcases h3.2 with h6|⟨g,cap,gJ,g1,g2,g3,g4⟩
   ·exact .inl h6
   ·refine .inr ⟨g,cap,gJ,g1,g2,?_,g4⟩;rw [ht.heap g (mM f o g ho (by rw [g1];rfl)) (bD g3)];exact g3
  ·intro bx hb;refine ⟨(h5 bx hb).1,λoff u hu=>(h5 bx hb).2.1 off u ?_,λg1 g2 j hj=>ht.ph.Dh ((h5 bx hb).2.2 g1 g2 j hj) hj⟩;have hu:φ' bx off=some u:=hu;rw [ht.free _ off (mM f o bx ho hb)] at hu;exact hu
theorem cc.W8 {f:Nat}{fo:pH} {v':Value}(h:cc c Z e st a w)(Cq:f∉Z.cV)(mM:dW c Z.nc e w v' fo)(hb: ∀b,v'.ownBlock=some b->(∀t cs,aw st.fr t= .box cs->e.B t≠b)/\(∀g o,aT st.bn g=some o->(e.E g).ownBlock≠some b)): cc c Z (e.zP f v' fo) (st.zP f fo) a w:=by
 have xF:n9 (· ≠f) (λ_=>True) e (e.zP f v' fo):=by refine ⟨rfl,.refl _,λ_ _=>rfl,λf2 o2 cU dS=> ?_⟩;have cU:aT (ck e.m f fo) f2=some o2:=cU;rw [bw] at cU;simp only [dS,if_false] at cU;exact ⟨o2,cU,by simp [Env.zP,dS],rfl⟩
 refine ⟨h.defers,h.size,by show ck e.m f _=ck st.bn f _;rw [h.m],h.key,?_,?_,?_,?_,?_,?_,?_,h.pM,h.cP⟩
 ·show (aV (mw f st.fr)).Nodup;have:aV (mw f st.fr)=aV st.fr:=by simp [aV,mw]
  rw [this];exact h.nodup
 ·intro t;show cz Z _ _ t _ (aw (mw f st.fr) t);rw [iQ];have hs:=h.slot t;generalize aw st.fr t=s at hs;by_cases HR: ∃cs,s= .box cs
  ·obtain ⟨cs,rfl⟩:=HR;simp only [cz,BK] at hs⊢;refine ⟨hs.1.mH (Ra f _),hs.2.cP,?_,hs.2.free⟩;obtain ⟨o2,h1,h2⟩:=hs.2.obj;refine ⟨o2,h1,?_⟩;refine (h2.map (λ_ _=>aY.kill f) (λ_ _=>rfl)).on xF ?_;intro l hl;obtain ⟨x,_,rfl⟩:=aba.1 hl;exact HC f x
  ·have BQ:ah e (a.tmps.getD t undef) s:=by cases s<;>simp only [cz] at hs<;>first|exact hs|exact absurd ⟨_,rfl⟩ HR
   have h2:=(BQ.kill f).on xF (Wz f _ s (eP s));generalize QQ:BK f s=s2 at h2;cases s2<;>first|exact h2|(exfalso;simp [ah] at h2)
 ·intro t;show cS (mw f st.fr) (aw (mw f st.fr) t);rw [iQ];have rR:=h.root t;generalize aw st.fr t=s at rR;have hk: ∀q,di (aw (mw f st.fr) q)=di (aw st.fr q):=λq=>by rw [iQ,E3]
  cases s with
  |ptr q o=>show di (aw (mw f st.fr) q)=true;rw [hk];exact rR
  |hp q o i=>show di (aw (mw f st.fr) q)=true;rw [hk];exact rR
  |zC q=>show di (aw (mw f st.fr) q)=true;rw [hk];exact rR
  |ep g' _ _ _ _=>simp only [BK];cases BY g' f<;>trivial
  |_=>trivial
 ·intro f2 o2 cU;have cU:aT (ck st.bn f fo) f2=some o2:=cU;rw [bw] at cU;show dW c (Z.fz f2) _ w (if f2=f then v' else e.E f2) o2;by_cases gl:f2=f
  ·rw [if_pos gl];rw [if_pos gl] at cU;cases cU;rw [gl];exact (mM.to Cq).env rfl rfl
  ·rw [if_neg gl];simp only [gl,if_false] at cU;exact (h.jA f2 o2 cU).env rfl rfl
 ·intro t t' c1 c2 h1 h2 dS;have h1:aw (mw f st.fr) t= .box c1:=h1;have h2:aw (mw f st.fr) t'= .box c2:=h2;rw [iQ] at h1 h2;obtain ⟨d1,g1,_⟩:=vh h1;obtain ⟨d2,g2,_⟩:=vh h2;exact h.bb t t' d1 d2 g1 g2 dS
 ·intro t c1 f2 o2 h1 h2;have h1:aw (mw f st.fr) t= .box c1:=h1;have h2:aT (ck st.bn f fo) f2=some o2:=h2;rw [iQ] at h1;rw [bw] at h2;obtain ⟨d1,g1,_⟩:=vh h1;show (if f2=f then v' else e.E f2).ownBlock≠some (e.B t);by_cases gl:f2=f
  ·rw [if_pos gl];intro hh;exact (hb _ hh).1 t d1 g1 rfl
  ·rw [if_neg gl];simp only [gl,if_false] at h2;exact h.bf t d1 f2 o2 g1 h2
 ·intro f1 f2 o1 o2 k h1 h2 h3 h4;have h1:aT (ck st.bn f fo) f1=some o1:=h1;have h2:aT (ck st.bn f fo) f2=some o2:=h2;have h3:(if f1=f then v' else e.E f1).ownBlock=some k:=h3;have h4:(if f2=f then v' else e.E f2).ownBlock=some k:=h4;rw [bw] at h1 h2;by_cases M0:f1=f
  ·by_cases Dc:f2=f
   ·rw [M0,Dc]
   ·rw [if_pos M0] at h3;rw [if_neg Dc] at h4;simp only [Dc,if_false] at h2;exact absurd h4 ((hb k h3).2 f2 o2 h2)
  ·rw [if_neg M0] at h3;simp only [M0,if_false] at h1;by_cases Dc:f2=f
   ·rw [if_pos Dc] at h4;exact absurd h3 ((hb k h4).2 f1 o1 h1)
   ·rw [if_neg Dc] at h4;simp only [Dc,if_false] at h2;exact h.ff f1 f2 o1 o2 k h1 h2 h3 h4
theorem Ct {I:TI}{x:MV}{v:Value} {K':Slot->Option R}(hv:jU e.key e.φ v x)(hK:FO I x K'=some r): ∃s,ah e v s/\BJ s=true/\K' s=some r:=by
 unfold FO at hK;cases jn:I.st with
 |true=>
  simp only [jn,cond_true] at hK;unfold gA at hK;split at hK
  ·rename_i ms;obtain ⟨arr,rfl,hr⟩:=hv;obtain ⟨ls,OS,oc⟩:=xQ (e:=e) (vs:=arr.toList) hK;exact ⟨.ag ls,⟨arr,rfl,OS.rep hr⟩,OS.VM,oc⟩
  ·simp at hK
 |false=>
  simp only [jn,cond_false] at hK;split at hK
  ·rename_i k hl;obtain ⟨l,Cn,oc⟩:=oY (e:=e) (vs:=[v]) hK;refine ⟨.sc l,?_,Cn.VM,oc⟩;have hp:=Cn.VM;have hm:=Cn.mv;cases l<;>simp [vd] at hp<;>simp [bT] at hm
   ·subst hm;have h1:=Cn.one _ rfl;rename_i m;have:m.one=true/\nu e.key e.φ [v] m:=by cases m<;>simp [MV.one] at h1<;>exact ⟨rfl,hv.2⟩
    exact this
   ·subst hm;exact hv
  ·simp at hK
theorem OZ {ts:List Nat}: ∀{vs:List Value} {ms:List MV} {K':List Slot->Option R},cX e.key e.φ vs ms->Hp c ts ms K'=some r-> ∃ss,lv e vs ss/\K' ss=some r:=by
 induction ts with
 |nil=>
  intro vs ms K' h hK;cases ms with
  |nil=>cases h;exact ⟨[],rfl,hK⟩
  |cons m ms=>simp [Hp,gN] at hK
 |cons t ts ih=>
  intro vs ms K' h hK;simp only [Hp] at hK;cases hI:c.tv t with
  |none=>simp [hI] at hK
  |some I=>
   simp only [hI] at hK;cases ms with
   |nil=>simp [gC] at hK
   |cons m ms=>simp only [gC] at hK;obtain ⟨v,u,rfl,h1,h2⟩:=h;obtain ⟨s,g1,g2,hK⟩:=Ct h1 hK;obtain ⟨ss,g3,hK⟩:=ih h2 hK;exact ⟨s::ss,⟨v,u,rfl,g1,g2,g3⟩,hK⟩
theorem Rq {fr:Fr}{s:Slot}(h:BJ s=true):cS fr s:=by cases s<;>simp [BJ] at h<;>trivial
theorem xT {I:TI}{x:MV}{v:Value}{k:Nat} {K':Slot->Option R}(hk:e.key=c.key)(hv:kA c Z' e.φ w k v x)(hK:sP c I x K'=some r): ∃s,ah e v s/\cS st.fr s/\K' s=some r:=by
 unfold sP at hK;split at hK
 ·rename_i hc;have ZG:jU e.key e.φ v x:=by
   rw [hk];cases x<;>first|exact hv|skip
   ·exfalso;unfold FO gA at hK;cases jn:I.st<;>simp [jn] at hK;split at hK<;>(try (simp at hK;done));unfold lq at hK;rename_i k _;cases k<;>simp [gB,gI,gS,gL,gH,gR] at hK
   ·exfalso;unfold FO gA at hK;cases jn:I.st<;>simp [jn] at hK;split at hK<;>(try (simp at hK;done));unfold lq at hK;rename_i k _;cases k<;>simp [gB,gI,gS,gL,gH,gR] at hK
  obtain ⟨s,h1,h2,hK⟩:=Ct ZG hK;exact ⟨s,h1,Rq h2,hK⟩
 ·unfold gT at hK;split at hK
  ·obtain ⟨arr,rfl,h1⟩:=hv;obtain ⟨ss,h2,hK⟩:=OZ (by rw [hk];exact h1) hK;exact ⟨.ej ss,⟨arr,rfl,h2⟩,trivial,hK⟩
  ·simp at hK
end
end Dn
/-
  Calls as operations. Conditions: none.
-/
namespace Dn
open Go
section
variable {P:Program}{c:Ctx}{Z:bR} {Z':Nat->Prop} {e e':Env}{st:St}{a:Act} {w w':World}{R:Type}{K:St->Option R}{r:R}{Q:Exit->Act->World->Prop}{o:Oper}
theorem E4 (h:cc c Z e st a w){t:Nat}{cs:List aJ}(ht:aw st.fr t= .box cs):e.B t<w.heap.size:=by have hs:=h.slot t;rw [ht] at hs;obtain ⟨o2,h1,_⟩:=hs.2.obj;exact bD h1
theorem adQ {base:Nat}{ty:TypeId}{size n:Nat}{v:Value}{xs:List Value}(h:w.ownsRow base ty size v n xs){b:Nat}(hb:v.ownBlock=some b):b<w.heap.size:=by
 rcases h.2 with ⟨h1,_⟩|⟨g,cap,gJ,h1,_,h2,_⟩
 ·rw [h1] at hb;simp [IN] at hb
 ·rw [h1] at hb;simp only [IN,AT] at hb;subst hb;exact bD h2
theorem E5 (h:cc c Z e st a w){f:Nat}{o:pH}(hf:aT st.bn f=some o){b:Nat}(hb:(e.E f).ownBlock=some b):b<w.heap.size:=by obtain ⟨I,cells,_,_,h3,_⟩:=(h.jA f o hf).row;exact adQ h3 hb
structure Handed (c:Ctx) (Z:bR) (Z':Nat->Prop) (e:Env) (st:St) (a:Act) (w:World) (k:Nat) (vs:List Value) (ms:List MV):Prop where
 vm:cc c Z e st a w
 new: ∀b,w.heap.size<=b->Z' b
 sub: ∀b,Z' b->Z.In b
 box: ∀t cs,aw st.fr t= .box cs-> ¬Z' (e.B t)
 jA: ∀f o b,aT st.bn f=some o->(e.E f).ownBlock=some b-> ¬Z' b
 args:jr c Z' e.φ w k vs ms
 grow:c.iL k=false-> ∀b,Z' b->w.heap.size<=b
structure ak3 (c:Ctx) (Z:bR) (e e':Env) (st b7:St) (a:Act) (w:World) (k:Nat) (v:Value) (xs:List MV):Prop where
 vm:cc c Z e' b7 a w
 φ:e'.φ=e.φ
 row:dW c (bR.plain λb=>v.ownBlock=some b) (uT c.key e.φ) w v ⟨c.sI k,false,xs⟩
 In: ∀b,v.ownBlock=some b->Z.In b
 box: ∀t cs,aw b7.fr t= .box cs->v.ownBlock≠some (e'.B t)
 jA: ∀f o b,aT b7.bn f=some o->(e'.E f).ownBlock=some b->v.ownBlock≠some b
 keep: ∀(u:Value) (s:Slot) (g:Nat),s= .sc (.own g)->ah e u s->(∃o,aT b7.bn g=some o/\o.eX=false)->ah e' u s
 boxes: ∀t cs,aw b7.fr t= .box cs-> ∃GP,aw st.fr t= .box GP/\e'.B t=e.B t
 bn: ∀f o b,aT b7.bn f=some o->(e'.E f).ownBlock=some b-> ∃o0,aT st.bn f=some o0/\(e.E f).ownBlock=some b
theorem Cu {k:Nat}{s:Slot}{v:Value} {K':MV->St->Option R}(h:cc c Z e st a w)(hs:ah e v s)(hK:Hs c k st s K'=some r): ∃e' b7 xs,ak3 c Z e e' st b7 a w k v xs/\K' (.fresh xs) b7=some r:=by
 unfold Hs at hK;split at hK
 ·rename_i f;cases hf:aT st.bn f with
  |none=>simp [hf] at hK
  |some o=>
   simp only [hf] at hK;cases hz:o.eX||!BY o.ty (c.sI k) with
   |true=>simp [hz] at hK
   |false=>
    simp only [hz,cond_false] at hK;simp only [IT,abb] at hz;have kz:=eJ hz.2;have hv:v=e.E f:=(sX h hs hf).1;have mM:=h.jA f o hf;have W1:dW c Z.nc e w (.slice none 0 0) ⟨o.ty,true,[]⟩:=by obtain ⟨I,cells,g1,g2,_⟩:=mM.row;exact ⟨I,[],g1,g2,⟨by simp,.inl ⟨rfl,rfl⟩⟩,rfl,λbx hb=>by simp [IN] at hb⟩
    have Cq:=h.npf hK;have h5:=h.W8 (f:=f) Cq W1 (λb hb=>by simp [IN] at hb);refine ⟨_,_,o.xs,⟨h5,rfl,?_,?_,?_,?_,?_,?_,?_⟩,tu hK⟩
    ·obtain ⟨I,cells,g1,g2,g3,g4,g5⟩:=mM.row;rw [<-kz];refine ⟨I,cells,g1,g2,by rw [hv];exact g3,by show bB c.key e.φ _ _ _;rw [<-h.key];exact g4,λbx hb=>⟨hb,λoff u hu=> ?_,λhc=>aeH hc⟩⟩;have:=((g5 bx (by rw [<-hv];exact hb)).2.1 off u hu).1;rw [hz.1] at this;cases this
    ·intro b hb;obtain ⟨I,cells,_,_,_,_,g5⟩:=mM.row;exact Oj (g5 b (by rw [<-hv];exact hb)).1 Cq
    ·intro t cs ht hb;have ht:aw (mw f st.fr) t= .box cs:=ht;rw [iQ] at ht;obtain ⟨d1,g1,_⟩:=vh ht;exact h.bf t d1 f o g1 hf (by rw [<-hv];exact hb)
    ·intro f2 o2 b cU hb hvb;have cU:aT (ck st.bn f ⟨o.ty,true,[]⟩) f2=some o2:=cU;have hb:(if f2=f then acf none 0 0 else e.E f2).ownBlock=some b:=hb;rw [bw] at cU;by_cases gl:f2=f
     ·rw [if_pos gl] at hb;simp [IN] at hb
     ·rw [if_neg gl] at hb cU;exact gl (h.ff f2 f o2 o b cU hf hb (by rw [<-hv];exact hvb))
    ·rintro u s g rfl nv ⟨o2,cU,hz2⟩;have cU:aT (ck st.bn f ⟨o.ty,true,[]⟩) g=some o2:=cU;rw [bw] at cU;by_cases HW:g=f
     ·rw [if_pos HW] at cU;cases cU;cases hz2
     ·rw [if_neg HW] at cU;obtain ⟨x,hx,HM,Li⟩:=nv;refine ⟨x,hx,HM,λo3 Rg=> ?_⟩;show x=if g=f then acf none 0 0 else e.E g
      rw [if_neg HW];exact Li o2 (by rw [h.m];exact cU)
    ·intro t cs ht;have ht:aw (mw f st.fr) t= .box cs:=ht;rw [iQ] at ht;obtain ⟨d1,g1,_⟩:=vh ht;exact ⟨d1,g1,rfl⟩
    ·intro f2 o2 b cU hb;have cU:aT (ck st.bn f ⟨o.ty,true,[]⟩) f2=some o2:=cU;have hb:(if f2=f then acf none 0 0 else e.E f2).ownBlock=some b:=hb;rw [bw] at cU;by_cases gl:f2=f
     ·rw [if_pos gl] at hb;simp [IN] at hb
     ·rw [if_neg gl] at hb cU;exact ⟨o2,cU,hb⟩
 ·cases hI:c.tv (c.sI k) with
  |none=>simp [hI] at hK
  |some I=>simp only [hI] at hK;obtain ⟨Re,QK⟩:=b6 hI;simp only [ah,aY,aaa,and_true] at hs;subst hs;refine ⟨e,st,[],⟨h,rfl,⟨I,[],Re,QK,⟨by simp,.inl ⟨rfl,rfl⟩⟩,rfl,λbx hb=>by simp [IN] at hb⟩,λb hb=>by simp [IN] at hb,λt cs _ hb=>by simp [IN] at hb,λf o b _ _ hb=>by simp [IN] at hb,λu s g _ hs _=>hs,λt cs ht=>⟨cs,ht,rfl⟩,λf o b ho hb=>⟨o,ho,hb⟩⟩,hK⟩
 ·simp at hK
theorem F1 {k:Nat}{s:Slot} {K':MV->St->Option R}(hK:Hs c k st s K'=some r):(∃g o,s= .sc (.own g)/\aT st.bn g=some o/\o.eX=false)\/s= .sc .nil:=by
 unfold Hs at hK;split at hK
 ·rename_i f;cases hf:aT st.bn f with
  |none=>simp [hf] at hK
  |some o=>
   simp only [hf] at hK;cases hz:o.eX with
   |true=>simp [hz] at hK
   |false=>exact .inl ⟨f,o,rfl,hf,hz⟩
 ·exact .inr rfl
 ·simp at hK
theorem Rr {k:Nat}{ss:List Slot}{vs:List Value} {K':List MV->St->Option R}(h:cc c Z e st a w)(hlen:vs.length=ss.length)(iv: ∀(i:Nat)(v:Value)(s:Slot),vs[i]? =some v->ss[i]? =some s->ah e v s)(hK:SV c k st ss K'=some r): ∃e' b7 ms,∃Z':Nat->Prop,Handed c Z Z' e' b7 a w k vs ms/\Trans Z e.φ w e'.φ w/\K' ms b7=some r:=by
 unfold SV at hK;cases hg:c.iL k with
 |false=>
  simp only [hg,cond_false] at hK;obtain ⟨e1,cR,ms,h1,h2,h3,h4,hK⟩:=sW h ⟨λ_=>vs,rfl,hlen,iv⟩ hK;refine ⟨e1,cR,ms,λb=>w.heap.size<=b,⟨h1,λb hb=>hb,h1.cP,?_,?_,?_,λ_ b hb=>hb⟩,h2.tr,hK⟩
  ·intro t cs ht hz;have:=E4 h1 ht;omega
  ·intro f o b ho hb hz;have:=E5 h1 ho hb;omega
  ·simp only [jr,hg,aaR,if_false];rw [<-h1.key];exact h4
 |true=>
  simp only [hg,cond_true] at hK;split at hK
  ·rename_i s0 s1 s2;match vs,hlen with
   |[v0,v1,v2],agQ=>
    clear agQ hlen;split at hK
    ·rename_i m2;obtain ⟨e1,cR,m1,h1,x1,E1,r1,oc⟩:=pi h (iv 1 v1 s1 rfl rfl) hK;obtain ⟨e2,dV,xs,G1,xG⟩:=Cu h1 ((iv 0 v0 s0 rfl rfl).on x1.on (eP s0)) oc;have S5:m2.one=true/\nu e.key e.φ [v2] m2:=iv 2 v2 (.sc (.p m2)) rfl rfl;have ha2:jU e.key e.φ v2 m2:=by obtain ⟨g1,g2⟩:=S5;cases m2<;>simp [MV.one] at g1<;>exact ⟨rfl,g2⟩
     have ak4:jU c.key e1.φ v2 m2:=by rw [<-h.key];exact ha2.mono x1.on.φ
     have wide: ∀{v:Value} {zs:List MV} (Z1:Nat->Prop),(∀b,v.ownBlock=some b->Z1 b)->dW c (bR.plain λb=>v.ownBlock=some b) (uT c.key e1.φ) w v ⟨c.sI k,false,zs⟩->dW c (bR.plain Z1) (uT c.key e1.φ) w v ⟨c.sI k,false,zs⟩:=by intro v zs Z1 hz hf;obtain ⟨I,cells,g1,g2,g3,g4,g5⟩:=hf.row;exact ⟨I,cells,g1,g2,g3,g4,λbx hb=>⟨hz bx hb,(g5 bx hb).2⟩⟩
     refine ⟨e2,dV,[.fresh xs,m1,m2],λb=>w.heap.size<=b\/v0.ownBlock=some b,⟨G1.vm,λb hb=> .inl hb,?_,?_,?_,?_,λHW=>by rw [hg] at HW;cases HW⟩,by rw [G1.φ];exact x1.tr,xG⟩
     ·intro b hb;rcases hb with hb|hb
      ·exact h1.cP b hb
      ·exact G1.In b hb
     ·intro t cs ht hb;rcases hb with hb|hb
      ·have:=E4 G1.vm ht;have hb:w.heap.size<=e2.B t:=hb;omega
      ·exact G1.box t cs ht hb
     ·intro f o b ho hb hz;rcases hz with hz|hz
      ·have:=E5 G1.vm ho hb;omega
      ·exact G1.jA f o b ho hb hz
     ·simp only [jr,hg,if_true];rw [G1.φ];exact .inr (.inl ⟨v0,v1,v2,xs,m1,m2,rfl,rfl,S5.1,wide _ (λb hb=> .inr hb) G1.row,by rw [<-h1.key];exact r1,ak4⟩)
    ·obtain ⟨e1,cR,m1,h1,x1,E1,r1,oc⟩:=pi h (iv 1 v1 s1 rfl rfl) hK;obtain ⟨e2,dV,xs,G1,xG⟩:=Cu h1 ((iv 0 v0 s0 rfl rfl).on x1.on (eP s0)) oc;have S5:=(iv 2 v2 s2 rfl rfl).on x1.on (eP s2);have Uo:ah e2 v2 s2:=by
      rcases F1 xG with ⟨g,o,h5,h6,h7⟩|h5
      ·exact G1.keep v2 s2 g h5 S5 ⟨o,h6,h7⟩
      ·rw [h5] at S5⊢;exact S5
     obtain ⟨e3,qD,ys,G2,OX⟩:=Cu G1.vm Uo xG;have agR:dW c (bR.plain λb=>v2.ownBlock=some b) (uT c.key e1.φ) w v2 ⟨c.sI k,false,ys⟩:=by have:=G2.row;rw [G1.φ] at this;exact this
     have xS: ∀b,v0.ownBlock=some b->v2.ownBlock≠some b:=by
      intro b h0 wJ;rcases F1 xG with ⟨g,o,h5,h6,h7⟩|h5
      ·rw [h5] at Uo;have S2:v2=e2.E g:=(sX G1.vm Uo h6).1;exact G1.jA g o b h6 (by rw [<-S2];exact wJ) h0
      ·rw [h5] at Uo;simp only [ah,aY,aaa,and_true] at Uo;rw [Uo] at wJ;simp [IN] at wJ
     have wide: ∀{v:Value} {zs:List MV} (Z1:Nat->Prop),(∀b,v.ownBlock=some b->Z1 b)->dW c (bR.plain λb=>v.ownBlock=some b) (uT c.key e1.φ) w v ⟨c.sI k,false,zs⟩->dW c (bR.plain Z1) (uT c.key e1.φ) w v ⟨c.sI k,false,zs⟩:=by intro v zs Z1 hz hf;obtain ⟨I,cells,g1,g2,g3,g4,g5⟩:=hf.row;exact ⟨I,cells,g1,g2,g3,g4,λbx hb=>⟨hz bx hb,(g5 bx hb).2⟩⟩
     have h3φ:e3.φ=e1.φ:=G2.φ.trans G1.φ;refine ⟨e3,qD,[.fresh xs,m1,.fresh ys],λb=>w.heap.size<=b\/v0.ownBlock=some b\/v2.ownBlock=some b,⟨G2.vm,λb hb=> .inl hb,?_,?_,?_,?_,λHW=>by rw [hg] at HW;cases HW⟩,by rw [h3φ];exact x1.tr,OX⟩
     ·intro b hb;rcases hb with hb|hb|hb
      ·exact h1.cP b hb
      ·exact G1.In b hb
      ·exact G2.In b hb
     ·intro t cs ht hb;rcases hb with hb|hb|hb
      ·have:=E4 G2.vm ht;have hb:w.heap.size<=e3.B t:=hb;omega
      ·obtain ⟨GP,k1,k2⟩:=G2.boxes t cs ht;rw [k2] at hb;exact G1.box t GP k1 hb
      ·exact G2.box t cs ht hb
     ·intro f o b ho hb hz;rcases hz with hz|hz|hz
      ·have:=E5 G2.vm ho hb;omega
      ·obtain ⟨o0,k1,k2⟩:=G2.bn f o b ho hb;exact G1.jA f o0 b k1 k2 hz
      ·exact G2.jA f o b ho hb hz
     ·simp only [jr,hg,if_true];rw [h3φ];exact .inl ⟨v0,v1,v2,xs,m1,ys,rfl,rfl,wide _ (λb hb=> .inr (.inl hb)) G1.row,by rw [<-h1.key];exact r1,wide _ (λb hb=> .inr (.inr hb)) agR,xS⟩
  ·simp at hK
theorem cX.map {os:List Operand}(h:cc c Z e st a w): ∀(i:Nat) (v:Value) (s:Slot),(os.map a.eval)[i]? =some v->(kq c st os)[i]? =some s->ah e v s:=by
 intro i v s h1 h2;rw [jW,aa7] at h2;rw [aa7] at h1;cases ho:os[i]? with
 |none=>simp [ho] at h1
 |some x=>simp [ho] at h1 h2;rw [<-h1,<-h2];exact (h.eval x).1
theorem Dv {f:Nat}{args:Array Value}{Rp:Value->World->Prop}(cy:(execOp a.eval o).run P w=(callFunc f args).run P w)(hc:kW P f args w Rp){Nx:Act->World->Prop}(ack: ∀v w',Rp v w'->Nx (a.put o.dst v) w'):o.wp P a w Nx Q:=by
 unfold aeZ;rw [cy];unfold kW at hc;generalize (callFunc f args).run P w=res at hc;cases res with
 |halt=>exact hc.elim
 |ok n w1=>
  cases n<;>simp only at hc<;>try exact hc.elim
  ·exact ack _ _ hc
  ·rw [Oper.upon_enter];refine hc.mono ?_;rintro x AO ⟨v,rfl,hv⟩;exact ack _ _ hv
theorem W9 {Z':Nat->Prop}{k d:Nat}{ms:List MV}{x:MV}{v:Value} {φ':Ph}{I:TI}{vs:List Value}(hh:Handed c Z Z' e st a w k vs ms)(hd:o.dst.getD 0=d)(ht:Trans Z' e.φ w φ' w')(hi:Du φ' w')(hr:kA c Z' φ' w' k v x)(hK:(bif c.fresh k then bif BY (c.sI k) 0 then Da x λxs=>bu c st o.dst (.sc (.p (.clip xs))) K else gF x λxs=>bif !BY I.elem (c.sI k) then none else kR st d ⟨I.elem,false,xs⟩ λst=>(bif bL c.bs d then pI st (.own d) λm st=>bu c st o.dst (.sc (.p m)) K else bu c st o.dst (.sc (.own d)) K) else sP c I x λs=>bu c st o.dst s K)=some r): Out c Z K r e.φ w (a.put o.dst v) w':=by
 have hs:=hh.vm.called hh.sub hh.box hh.jA ht hi;have F3:Trans Z e.φ w φ' w':=⟨ht.ph,λb hb=>ht.heap b (λhz=>hb (hh.sub b hz)),λb o hb=>ht.free b o (λhz=>hb (hh.sub b hz)),ht.size,ht.rest⟩
 cases hf:c.fresh k with
 |true=>
  simp only [hf,cond_true] at hK;cases h0:BY (c.sI k) 0 with
  |true=>
   simp only [h0,cond_true] at hK;unfold Da at hK;split at hK
   ·rename_i xs;have Hf:ah {e with φ:=φ'} v (.sc (.p (.clip xs))):=by have hr:(MV.clip xs).one=true/\nu c.key φ' [v] (.clip xs):=hr;simp only [ah,aY];rw [hh.vm.key];exact hr
    obtain ⟨e2,dV,q1,q2,q3⟩:=dM hs (.of Hf trivial) hK;exact ⟨e2,dV,q1,by rw [q3];exact F3,q2⟩
   ·simp at hK
  |false=>
  simp only [h0,cond_false] at hK;unfold gF at hK;split at hK
  ·rename_i xs;cases kz:BY I.elem (c.sI k) with
   |false=>simp [kz] at hK
   |true=>
    simp only [kz,aeL,cond_false] at hK;have kz:=eJ kz;rw [kz] at hK;have hr:dW c (bR.plain Z') (uT c.key φ') w' v ⟨c.sI k,false,xs⟩:=hr;have Hf:dW c Z.nc {e with φ:=φ'} w' v ⟨c.sI k,false,xs⟩:=by obtain ⟨I,cells,g1,g2,g3,g4,g5⟩:=hr.row;exact ⟨I,cells,g1,g2,g3,by show bB e.key φ' _ _ _;rw [hh.vm.key];exact g4,λbx hb=>⟨hh.sub _ (g5 bx hb).1,(g5 bx hb).2.1,λhc=>aeH hc⟩⟩
    have h6:=hs.W8 (f:=d) (hh.vm.npf hK) Hf (by intro b hb;obtain ⟨I,cells,g1,g2,g3,g4,g5⟩:=hr.row;have hz:=(g5 b hb).1;exact ⟨λt cs h1 h2=>hh.box t cs h1 (by rw [h2];exact hz),λg o h1 h2=>hh.jA g o b h1 h2 hz⟩);have h1:v.oneCell'=true:=by obtain ⟨I,cells,g1,g2,g3,_⟩:=hr.row;exact Dt g3
    have hK:=tu hK;cases VQ:bL c.bs d with
    |true=>simp only [VQ,cond_true] at hK;obtain ⟨e3,qD,m,k1,k2,_,k4,hK,_,k7,k8⟩:=pg (l:= .own d) h6 (vs:=[v]) ⟨v,rfl,h1,λo ho=>by simp [Env.zP]⟩ hK;have hm:m.one=true:=k8 (λx he=>by cases he);obtain ⟨e2,dV,q1,q2,q3⟩:=dM k1 (.of (s:= .sc (.p m)) (by exact ⟨hm,k4⟩) trivial) hK;exact ⟨e2,dV,q1,by rw [q3];exact F3.trans k2.tr,q2⟩
    |false=>simp only [VQ,cond_false] at hK;obtain ⟨e2,dV,q1,q2,q3⟩:=dM h6 (.of (wR h1) trivial) hK;exact ⟨e2,dV,q1,by rw [q3];exact F3,q2⟩
  ·simp at hK
 |false=>simp only [hf,cond_false] at hK;obtain ⟨s,g1,g2,hK⟩:=xT (e:={e with φ:=φ'}) (st:=st) hh.vm.key hr hK;obtain ⟨e2,dV,q1,q2,q3⟩:=dM hs (.of g1 g2) hK;exact ⟨e2,dV,q1,by rw [q3];exact F3,q2⟩
theorem Out.trans {φ0:Ph}{w0:World} {a':Act}(h:Trans Z φ0 w0 e.φ w) (h':Out c Z K r e.φ w a' w'):Out c Z K r φ0 w0 a' w':=by obtain ⟨e2,dV,h1,h2,h3⟩:=h';exact ⟨e2,dV,h1,h.trans h2,h3⟩
theorem Up {R':Type}{I:TI}{x:MV}{outs:List MV} {K':Slot->Option R'}:sP c I (.fZ x outs) K'=none:=by
 unfold sP;split
 ·unfold FO;cases I.st
  ·simp only [cond_false];split
   ·rename_i k _;cases k<;>rfl
   ·rfl
  ·rfl
 ·rfl
theorem F4 {R':Type} {r':R'}{I:TI}{x:MV} {K':Slot->Option R'}(h:sP c I x K'=some r'):isW x=false:=by cases x<;>first|rfl|(rw [Up] at h;cases h)
theorem aat {cl:Call}{f:Nat}{I:TI}(hS:Sound P c)(ho:o.op= .call cl)(sY:cl.callee= .value (.func f))(h:cc c Z e st a w)(hK:SV c (c.key f) st (kq c st cl.args.toList) (λms st=>Wb c (o.dst.getD 0) st (c.key f) ms I λs st=>bu c st o.dst s K)=some r): o.wp P a w (λa' w'=>(c.iL (c.key f)=false->eF w w')/\Out c Z K r e.φ w a' w') Q:=by
 obtain ⟨e1,cR,ms,Z',hh,ht,hK⟩:=Rr (vs:=cl.args.toList.map a.eval) h (by simp [jW]) (cX.map h) hK;unfold Wb at hK;obtain ⟨x,hx,hK⟩:=rq hK;have HX:=hS f ms x hx e1.φ w Z' _ hh.new hh.args hh.vm.pM;refine Dv ?_ HX ?_
 ·have EQ:(cl.args.toList.map a.eval).toArray=cl.args.map a.eval:=by rw [<-ab8,abM]
  rw [EQ];simp [execOp,ho,resolve,sY,Act.eval,ab9,invoke]
 ·rintro v w' ⟨φ',t1,t2,t3⟩;have hw:isW x=false:=by
   cases GO:c.fresh (c.key f) with
   |true=>rw [GO] at hK;cases h0:BY (c.sI (c.key f)) 0<;>rw [h0] at hK<;>cases x<;>first|rfl|(simp [gF,Da] at hK;done)
   |false=>rw [GO] at hK;exact F4 hK
  exact ⟨λHW=>⟨t1.size,λb hb=>t1.heap b (λhz=>by have:=hh.grow HW b hz;omega) hb,t1.rest⟩,(W9 hh rfl t1 t2 (t3.of hw) hK).trans ht⟩
theorem jB.one {ms:List MV}: ∀{vs:List Value},jB e.key e.φ vs ms->(∀m∈ms,m.one=true)->cX e.key e.φ vs ms:=by
 induction ms with
 |nil=>intro vs h _;cases h;rfl
 |cons m ms ih=>
  intro vs h h1;cases h with
  |cons v _ vs _ g1 g2=>obtain ⟨u,rfl,_⟩:=g1.one (h1 m (by simp));have hm:=h1 m (by simp);exact ⟨u,vs,rfl,by cases m<;>simp [MV.one] at hm<;>exact ⟨rfl,g1⟩,ih g2 (λm hm=>h1 m (by simp [hm]))⟩
theorem adR {cl:Call}{x:Operand}{I:TI}(hS:Sound P c)(ho:o.op= .call cl)(sY:cl.callee= .value x)(h:cc c Z e st a w)(hK:MI c st I (aM c st x) (kq c st cl.args.toList) (λs st=>bu c st o.dst s K)=some r): o.wp P a w (λa' w'=>eF w w'/\Out c Z K r e.φ w a' w') Q:=by
 obtain ⟨hx,_⟩:=h.eval x;generalize aM c st x=s at hx hK;unfold MI at hK;split at hK
 ·rename_i m;simp only [ah,aY] at hx;unfold QJ at hK;split at hK
  ·rename_i f dm;obtain ⟨hg,hK⟩:=eY hK;obtain ⟨f',cap,hv,wb,Cr,oX⟩: ∃(f':Nat) (cap:Array Value),a.eval x= .func (.func f') #[] cap/\e.key f'=f/\jB e.key e.φ cap.toList dm/\ ∀m∈dm,m.one=true:=by obtain ⟨_,hx⟩:=hx;generalize BM:[a.eval x]=vs at hx;cases hx;rename_i f' cap h1 h2 h3;exact ⟨f',cap,by simpa using BM,h1,h2,h3⟩
   obtain ⟨e1,cR,ms,h1,h2,h3,h4,xG⟩:=sW h ⟨λ_=>cl.args.toList.map a.eval,rfl,by simp [jW],cX.map h⟩ hK;obtain ⟨x',Uf,OX⟩:=rq xG;have Ln:c.key f'=f:=by rw [<-h.key];exact wb
   have agS:cX e1.key e1.φ cap.toList dm:=by have:=(jB.one Cr oX).mono h2.on.φ;rw [<-h2.on.key] at this;exact this
   have kL:jr c (λb=>w.heap.size<=b) e1.φ w (c.key f') (cl.args.toList.map a.eval++cap.toList) (ms++dm):=by
    have hg':c.iL (c.key f')=false:=by rw [Ln];simpa using hg
    simp only [jr,hg',aaR,if_false];rw [<-h1.key];exact h4.append agS
   have HX:=hS f' (ms++dm) x' (by rw [Ln];exact Uf) e1.φ w (λb=>w.heap.size<=b) _ (λb hb=>hb) kL h1.pM;refine Dv ?_ HX ?_
   ·have EQ:(cl.args.toList.map a.eval++cap.toList).toArray=cl.args.map a.eval++cap:=by rw [<-ab8,<-Array.toList_append,abM]
    rw [EQ];simp [execOp,ho,resolve,sY,hv,ab9,invoke]
   ·rintro v w' ⟨φ',t1,t2,t3⟩;have hh:Handed c Z (λb=>w.heap.size<=b) e1 cR a w (c.key f') (cl.args.toList.map a.eval++cap.toList) (ms++dm):=by
     refine ⟨h1,λb hb=>hb,h1.cP,?_,?_,kL,λ_ b hb=>hb⟩
     ·intro t cs ht hz;have:=E4 h1 ht;omega
     ·intro f o b ho hb hz;have:=E5 h1 ho hb;omega
    have hs:=hh.vm.called hh.sub hh.box hh.jA t1 t2;have F3:Trans Z e1.φ w φ' w':=⟨t1.ph,λb hb=>t1.heap b (λhz=>hb (hh.sub b hz)),λb o hb=>t1.free b o (λhz=>hb (hh.sub b hz)),t1.size,t1.rest⟩
    obtain ⟨s,g1,g2,ZJ⟩:=xT (e:={e1 with φ:=φ'}) (st:=cR) h1.key (t3.of (F4 OX)) OX;obtain ⟨e2,dV,q1,q2,q3⟩:=dM hs (.of g1 g2) ZJ;exact ⟨⟨t1.size,λb hb=>t1.heap b (λhz=>by have hz:w.heap.size<=b:=hz;omega) hb,t1.rest⟩,e2,dV,q1,by rw [q3];exact h2.tr.trans F3,q2⟩
  ·simp at hK
 ·simp at hK
end
end Dn
/-
  Parts of a state. Conditions: none.
-/
namespace Dn
open Go
section
variable {P:Program}{c:Ctx}{Z Zi:bR} {e e':Env}{st b7:St}{a:Act} {w w':World}{R:Type}{K:St->Option R}{r:R}{Q:Exit->Act->World->Prop}{o:Oper}
theorem cc.sub (h:cc c Z e st a w)(hpp: ∀t∈Z.cJ,t∈Zi.cJ)(hm:b7.cJ=Zi.cJ/\b7.cV=Zi.cV/\ ∀t∈Zi.cJ,a.tmps.getD t undef=Zi.T t)(hn:(aV b7.fr).Nodup)(hs: ∀t,aw b7.fr t= .sc .un\/(dQ (aw st.fr t)=false/\(aw b7.fr t=aw st.fr t\/ ∃qs,aw b7.fr t=Kg qs (aw st.fr t))))(hf: ∀f o,aT b7.bn f=some o-> ∃o0,aT st.bn f=some o0/\o0.ty=o.ty/\o0.xs=o.xs/\(o0.eX=true->o.eX=true))(hbz: ∀t cs,aw b7.fr t= .box cs->(t∈Zi.cJ/\Zi.Pr (e.B t))\/Zi.In (e.B t))(hfz: ∀f o b,aT b7.bn f=some o->(e.E f).ownBlock=some b->(f∈Zi.cV/\Zi.Pr b)\/Zi.In b)(aau: ∀f o I cells b,aT b7.bn f=some o->f∈Zi.cV->o.eX=true->c.ti o.ty=some I->w.ownsRow 0 o.ty I.size (e.E f) o.xs.length cells->(e.E f).ownBlock=some b-> ∀j,j<cells.length->e.φ b j=cells[j]?)(hz: ∀b,w.heap.size<=b->Zi.In b):cc c Zi {e with m:=b7.bn} b7 a w:=by
 have xF:n9 (λ_=>True) (λ_=>True) e {e with m:=b7.bn}:=by refine ⟨rfl,.refl _,λ_ _=>rfl,λf o ho _=> ?_⟩;obtain ⟨o0,h1,h2,h3,h4⟩:=hf f o ho;exact ⟨o0,by rw [h.m];exact h1,rfl,h3.symm⟩
 have tie: ∀{t:Nat} {v:Value} {cs:List aJ} {b:Nat},tied Z t v cs b->tied Zi t v cs b:=λht=>⟨ht.1,λhp=>by obtain ⟨k1,k2⟩:=ht.2 hp;have k3:=hpp _ k1;exact ⟨k3,by rw [<-hm.2.2 _ k3,h.defers.2.2.2 _ k1,k2]⟩⟩
 have Xa: ∀t cs,aw b7.fr t= .box cs-> ∃GP,aw st.fr t= .box GP/\(cs=GP\/ ∃qs,cs=GP.map (Q5 qs)):=by
  intro t cs ht;rcases hs t with h1|⟨_,h1|⟨qs,h1⟩⟩
  ·rw [h1] at ht;cases ht
  ·rw [h1] at ht;exact ⟨cs,ht,.inl rfl⟩
  ·rw [h1] at ht;generalize aw st.fr t=s at ht;cases s<;>simp only [Kg] at ht<;>first|(cases ht;done)|skip
   simp at ht;exact ⟨_,rfl,.inr ⟨qs,ht.symm⟩⟩
 refine ⟨⟨h.defers.1,hm⟩,h.size,rfl,h.key,hn,?_,?_,?_,?_,?_,?_,h.pM,hz⟩
 ·intro t;have nv:=h.slot t;have jn:=hs t;have hb0:=hbz t;generalize aw b7.fr t=s' at jn hb0;generalize aw st.fr t=s at nv jn;rcases jn with rfl|⟨_,rfl|⟨qs,rfl⟩⟩
  ·simp [cz,ah]
  ·cases s'<;>simp only [cz] at nv⊢ <;>try exact nv.on xF (eP _)
   obtain ⟨o2,h1,h2⟩:=nv.2.obj;exact ⟨tie nv.1,hb0 _ rfl,⟨o2,h1,h2.on xF (λl _ f _=>trivial)⟩,nv.2.free⟩
  ·by_cases HR: ∃cs,s= .box cs
   ·obtain ⟨cs,rfl⟩:=HR;simp only [cz,Kg] at nv⊢;obtain ⟨o2,h1,h2⟩:=nv.2.obj;exact ⟨(tie nv.1).mH (adu qs _),hb0 _ rfl,⟨o2,h1,(h2.map (λ_ _=>aY.S0 qs) (λ_ _=>rfl)).on xF (λl _ f _=>trivial)⟩,nv.2.free⟩
   ·have BQ:ah e (a.tmps.getD t undef) s:=by cases s<;>simp only [cz] at nv<;>first|exact nv|exact absurd ⟨_,rfl⟩ HR
    have h2:=(BQ.S0 qs).on xF (eP _);generalize QQ:Kg qs s=s2 at h2;cases s2<;>first|exact h2|(exfalso;simp [ah] at h2)
 ·intro t;have jn:=hs t;generalize aw b7.fr t=s' at jn;generalize aw st.fr t=s at jn;rcases jn with rfl|⟨hp,rfl|⟨qs,rfl⟩⟩
  ·trivial
  ·cases s'<;>simp [dQ] at hp<;>trivial
  ·cases s<;>simp [dQ] at hp<;>trivial
 ·intro f o ho;obtain ⟨o0,h1,h2,h3,h4⟩:=hf f o ho;obtain ⟨I,cells,g1,g2,g3,g4,g5⟩:=(h.jA f o0 h1).row;rw [h2] at g1 g3;rw [h3] at g3 g4 g5;refine ⟨I,cells,g1,g2,g3,g4,λbx hb=>⟨hfz f o bx ho hb,λoff u hu=> ?_,λk1 k2 j hj=>aau f o I cells bx ho k1 k2 g1 g3 hb j hj⟩⟩;obtain ⟨k1,k2⟩:=(g5 bx hb).2.1 off u hu;exact ⟨h4 k1,k2⟩
 ·intro t t' c1 c2 h1 h2 dS;obtain ⟨d1,g1,_⟩:=Xa t c1 h1;obtain ⟨d2,g2,_⟩:=Xa t' c2 h2;exact h.bb t t' d1 d2 g1 g2 dS
 ·intro t c1 f o h1 h2;obtain ⟨d1,g1,_⟩:=Xa t c1 h1;obtain ⟨o0,g2,_⟩:=hf f o h2;exact h.bf t d1 f o0 g1 g2
 ·intro f f' o1 o2 k h1 h2 h3 h4;obtain ⟨p1,g1,_⟩:=hf f o1 h1;obtain ⟨p2,g2,_⟩:=hf f' o2 h2;exact h.ff f f' p1 p2 k g1 g2 h3 h4
theorem cc.drop {ds:List Nat}(h:cc c Z e st a w):cc c Z e {st with fr:=pf ds st.fr} a w:=by
 have hg:=HA ds st.fr h.nodup;have:=h.sub (Zi:=Z) (b7:={st with fr:=pf ds st.fr}) (λ_ h=>h) ⟨h.defers.2.1,h.defers.2.2.1,h.defers.2.2.2⟩ ((Di ds st.fr).nodup h.nodup) (by
   intro t;show aw (pf ds st.fr) t=_\/(_/\(aw (pf ds st.fr) t=_\/ ∃qs,aw (pf ds st.fr) t=_));rw [hg];cases hb:dQ (aw st.fr t)||bL ds t with
   |true=>exact .inl (by simp)
   |false=>simp only [IT] at hb;exact .inr ⟨hb.1,.inl (by simp)⟩)
  (λf o ho=>⟨o,ho,rfl,rfl,id⟩)
  (by
   intro t cs ht;have ht:aw (pf ds st.fr) t= .box cs:=ht;rw [hg] at ht;split at ht
   ·cases ht
   ·have hs:=h.slot t;rw [ht] at hs;exact hs.2.cP)
  (by intro f o b ho hb;obtain ⟨I,cells,_,_,_,_,g5⟩:=(h.jA f o ho).row;exact (g5 b hb).1)
  (by intro f o I cells b ho hp hz hI fT hb j hj;obtain ⟨I',MY,g1,_,g3,_,g5⟩:=(h.jA f o ho).row;rw [hI] at g1;cases g1;rw [vg fT g3 hb] at hj⊢;exact (g5 b hb).2.2 hp hz j hj)
  h.cP
 have hm:e.m=st.bn:=h.m;have he:{e with m:=({st with fr:=pf ds st.fr}:St).bn}=e:=by cases e;simp at hm⊢;exact hm.symm
 rw [he] at this;exact this
theorem cc.Xb {t root off:Nat}{cs:List aJ}(h:cc c Z e st a w)(hb:aw st.fr root= .box cs)(hn:di (aw st.fr t)=false)(hv:ah e (a.tmps.getD t undef) (.ptr root off)): cc c Z e {st with fr:=dg st.fr t (.ptr root off)} a w:=by
 have hg: ∀t',aw (dg st.fr t (.ptr root off)) t'=if t'=t then .ptr root off else aw st.fr t':=λt'=>cb _ _ _ _
 have dS: ∀r,di (aw st.fr r)=true->r≠t:=λr hr he=>by subst he;rw [hn] at hr;cases hr
 have sS: ∀t' cs,aw (dg st.fr t (.ptr root off)) t'= .box cs->aw st.fr t'= .box cs:=by
  intro t' cs ht;rw [hg] at ht;by_cases wc:t'=t
  ·rw [if_pos wc] at ht;cases ht
  ·rw [if_neg wc] at ht;exact ht
 have hk: ∀r,di (aw st.fr r)=true->di (aw (dg st.fr t (.ptr root off)) r)=true:=λr hr=>by rw [hg,if_neg (dS r hr)];exact hr
 refine ⟨h.defers,h.size,h.m,h.key,fP h.nodup,?_,?_,h.jA,?_,?_,h.ff,h.pM,h.cP⟩
 ·intro t';show cz Z e w t' _ (aw (dg st.fr t (.ptr root off)) t');rw [hg];by_cases wc:t'=t
  ·subst wc;simp only [if_true];exact hv
  ·simp only [wc,if_false];exact h.slot t'
 ·intro t';show cS (dg st.fr t (.ptr root off)) (aw (dg st.fr t (.ptr root off)) t');have hr:=h.root t';rw [hg t'];by_cases wc:t'=t
  ·simp only [wc,if_true];exact hk root (by rw [hb];rfl)
  ·simp only [wc,if_false];generalize aw st.fr t'=s at hr;cases s<;>first|trivial|exact hk _ hr
 ·intro t1 t2 c1 c2 h1 h2 dS;exact h.bb t1 t2 c1 c2 (sS t1 c1 h1) (sS t2 c2 h2) dS
 ·intro t1 c1 f o h1 h2;exact h.bf t1 c1 f o (sS t1 c1 h1) h2
theorem AQ {s:Slot}(h:ER s=true): ∃cs,s= .box cs/\gM cs=false:=by cases s<;>simp [ER] at h;exact ⟨_,rfl,h⟩
theorem O0 {Z1:bR}{e1:Env}{cR:St}{root:Nat}(h:cc c Z e st a w)(h1:cc c Z1 e1 cR a w)(hp:zu root=false)(hb:ER (aw st.fr root)=true)(wT:ER (aw cR.fr root)=true):e1.B root=e.B root:=by obtain ⟨cs,hf,hm⟩:=AQ hb;obtain ⟨fF,M0,hm1⟩:=AQ wT;have s1:=h.slot root;have s2:=h1.slot root;rw [hf] at s1;rw [M0] at s2;have g1:=s1.1.1 hp;have g2:=s2.1.1 hp;rw [vZ hm] at g1;rw [vZ hm1,g1] at g2;simp at g2;exact g2.symm
theorem HY {Z0:bR}{e0:Env}{Ht:St}{ok:Nat->Bool}(h0:cc c Z0 e0 Ht a w): ∀{l:Fr} {st:St} {R:Type} {r:R} {K:Fr->Option R},(∀t s,(t,s)∈l->aw Ht.fr t=s)->cc c Z e st a w->Ho ok Ht.fr l st.fr K=some r-> ∃fr,cc c Z e {st with fr:=fr} a w/\K fr=some r:=by
 intro l;induction l with
 |nil=>intro st R r K _ h hK;exact ⟨st.fr,h,hK⟩
 |cons p l ih=>
  obtain ⟨t,s⟩:=p;intro st R r K hl h hK;have Cn: ∀t s,(t,s)∈l->aw Ht.fr t=s:=λt s hm=>hl t s (aas _ hm);have hs:=hl t s (by simp);cases s with
  |ptr root off=>
   simp only [Ho] at hK;cases hc:ok t&&(!zu root&&(ER (aw Ht.fr root)&&(ER (aw st.fr root)&&!di (aw st.fr t)))) with
   |false=>rw [hc] at hK;exact ih Cn h hK
   |true=>
    rw [hc] at hK;simp only [sh,aai] at hc;obtain ⟨_,hp,hb0,wT,hn⟩:=hc;simp only [cond_true,oK] at hK;obtain ⟨cs,hf,_⟩:=AQ wT;have hB:=O0 h0 h hp hb0 wT;have hv:ah e (a.tmps.getD t undef) (.ptr root off):=by have:=h0.slot t;rw [hs] at this;simp only [cz,ah] at this⊢;rw [hB];exact this
    have h2:=h.Xb hf hn hv;obtain ⟨fr,g1,g2⟩:=ih (st:={st with fr:=dg st.fr t (.ptr root off)}) Cn h2 hK;exact ⟨fr,g1,g2⟩
  |_=>exact ih Cn h hK
theorem O1 {l:Fr}(hn:(aV l).Nodup): ∀t s,(t,s)∈l->aw l t=s:=by
 induction l with
 |nil=>intro t s hm;simp at hm
 |cons p l ih=>
  obtain ⟨k,x⟩:=p;have hn:(k::aV l).Nodup:=hn;rw [List.nodup_cons] at hn;intro t s hm;rcases AI.1 hm with hm|hm
  ·cases hm;simp [aw]
  ·have hk:t∈aV l:=by unfold aV;exact aba.2 ⟨(t,s),hm,rfl⟩
   have dS:k≠t:=λhe=>hn.1 (he▸hk);simp only [aw,eH];simp only [dS,decide_false,cond_false];exact ih hn.2 t s hm
theorem vn {ds:List Nat}{R:Type}{r:R}{K:St->Option R}(h:cc c Z e st a w)(hK:EW ds st K=some r): ∃b7,cc c Z e b7 a w/\K b7=some r:=by obtain ⟨p,q,fr,m⟩:=st;simp only [EW,FQ] at hK;obtain ⟨qR,g1,g2⟩:=HY (st:={cJ:=p,cV:=q,fr:=pf ds fr,bn:=m}) h (O1 h.nodup) h.drop hK;exact ⟨_,g1,g2⟩
end
end Dn
/-
  Maps of the function's own: their operations. Conditions: none.
-/
namespace Dn
open Go
theorem Tf (b:ByteArray):(b==b)=true:=by rw [beq_toListBytes];exact beq_self_eq_true _
theorem adS {a b:Kd}(h:kdB a b=true):a=b:=by cases a<;>cases b<;>simp [kdB,kB] at h<;>first|rfl|(subst h;rfl)
theorem Tg {l m:List Kd}(h:Df l m=true):l=m:=by
 induction l generalizing m with
 |nil=>cases m<;>simp [Df] at h;rfl
 |cons a l ih=>
  cases m with
  |nil=>simp [Df] at h
  |cons b m=>simp only [Df,sh] at h;rw [adS h.1,ih h.2]
theorem Rs {s t:MS}(h:msB s t=true):s=t:=by unfold msB at h;simp only [sh,beq_iff_eq] at h;cases s;cases t;simp only at h;obtain ⟨h1,h2,h3⟩:=h;rw [h1,Tg h2,h3]
theorem aav {a b:MV}(h:EU a b=true):a=b:=by
 unfold EU at h;split at h
 ·rw [of_decide_eq_true h]
 ·simp only [sh] at h;rw [of_decide_eq_true h.1,of_decide_eq_true h.2]
 ·rw [of_decide_eq_true h]
 ·rw [of_decide_eq_true h]
 ·cases h
theorem O2 {a b:List MV}(h:eO a b=true):a=b:=by
 induction a generalizing b with
 |nil=>cases b with|nil=>rfl|cons=>simp [eO] at h
 |cons x xs ih=>
  cases b with
  |nil=>simp [eO] at h
  |cons y ys=>simp only [eO,sh] at h;rw [aav h.1,ih h.2]
structure Th (P:Program) (t:TypeId) (s:MS):Prop where
 row: ∃kt el,P.underlying t=some (.map kt el)/\(∀w:World,(zeroValue el).run P w= .ok (Bs s.b (kc s.b)) w)/\ (∀(em:Bool) (ks:List MV) (w:World),dR s.lay ks=true->(Instr.checkKey em 10000 kt (gn s.st ks)).run P w= .ok () w)/\ ∃d,P.underlying kt=some d/\((∀a b,dR s.lay a=true->dR s.lay b=true->abr d (gn s.st a) (gn s.st b)=some (eO b a))\/ (∀a b,dR s.lay a=true->dR s.lay b=true->abr d (gn s.st a) (gn s.st b)=none/\ ∀w:World,(aeI kt (gn s.st a) (gn s.st b)).run P w= .ok (eO b a) w))
def xU (P:Program)(c:Ctx):Prop:= ∀t s,vX c t=some s->Th P t s
theorem Xc {k:Kd}{e:Env}{l:aJ}{vs:List Value}{m:MV}(h:aY e vs l)(hf:oW k l=true)(hm:bT [l]=some [m]):vs=EO m/\EY k m=true:=by
 have bytes: ∀b:ByteArray,Value.string b=Value.string ⟨b.data.toList.toArray⟩:=by intro b;cases b;simp
 cases k<;>cases l<;>simp only [oW] at hf<;>try (cases hf;done)
 ·rename_i x;cases x<;>simp only [oW] at hf<;>try (cases hf;done)
  simp [bT] at hm;subst hm;obtain ⟨_,h⟩:=h;cases h;exact ⟨rfl,rfl⟩
 ·rename_i k x;cases x<;>simp only [oW] at hf<;>try (cases hf;done)
  simp [bT] at hm;subst hm;obtain ⟨_,h⟩:=h;cases h;exact ⟨rfl,hf⟩
 ·rename_i x;cases x<;>simp only [oW] at hf<;>try (cases hf;done)
  simp [bT] at hm;subst hm;obtain ⟨_,h⟩:=h;cases h;exact ⟨by simp [EO],rfl⟩
 ·simp [bT] at hm;subst hm;exact ⟨h,rfl⟩
theorem yM {l:aJ}{ls:List aJ}{ms:List MV}(h:bT (l::ls)=some ms): ∃m q,bT [l]=some [m]/\bT ls=some q/\ms=m::q:=by
 cases l<;>cases hq:bT ls<;>simp [bT,hq] at h⊢
 ·exact h.symm
 ·exact h.symm
theorem aaw {e:Env}{lay:List Kd}: ∀{ls:List aJ} {vs:List Value} {ms:List MV},aC e vs ls->ga lay ls=true->bT ls=some ms->vs=ms.flatMap EO/\dR lay ms=true:=by
 induction lay with
 |nil=>
  intro ls vs ms h hf hm;cases ls with
  |nil=>cases h;simp [bT] at hm;subst hm;exact ⟨rfl,rfl⟩
  |cons=>simp [ga] at hf
 |cons k lay ih=>
  intro ls vs ms h hf hm;cases ls with
  |nil=>simp [ga] at hf
  |cons l ls=>
   simp only [ga] at hf;cases h1:oW k l with
   |false=>simp [h1] at hf
   |true=>simp only [h1,cond_true] at hf;obtain ⟨m,q,g1,g2,rfl⟩:=yM hm;obtain ⟨v,u,rfl,g3,g4⟩:=h;obtain ⟨k1,k2⟩:=Xc g3 h1 g1;obtain ⟨k3,k4⟩:=ih g4 hf g2;exact ⟨by rw [k1,k3];rfl,by simp [dR,k2,k4]⟩
theorem adT {e:Env}{s:MS}{v:Value}{sl:Slot}{ks:List MV}(h:ah e v sl)(hf:ga s.lay (aP sl)=true)(WG:nX s.st sl=true)(hm:bT (aP sl)=some ks):v=gn s.st ks/\dR s.lay ks=true:=by
 cases sl with
 |sc l=>
  simp only [nX,aai] at WG;simp only [aP] at hf hm;cases hl:s.lay with
  |nil=>rw [hl] at hf;simp [ga] at hf
  |cons k r=>
   cases r with
   |cons=>rw [hl] at hf;simp [ga] at hf
   |nil=>
    rw [hl] at hf;have M0:oW k l=true:=by cases hq:oW k l<;>simp_all [ga]
    obtain ⟨m,q,g1,g2,rfl⟩:=yM hm;simp [bT] at g2;subst g2;by_cases hh: ∃x,l= .hs x
    ·obtain ⟨x,rfl⟩:=hh;simp [bT] at g1;subst g1;simp only [ah] at h;cases k<;>simp [oW] at M0;exact ⟨by rw [WG,h];rfl,by simp [dR,EY]⟩
    ·have hlr:aY e [v] l:=by cases l<;>simp only [ah] at h<;>first|exact h|(cases k<;>simp [oW] at M0;done)|exact absurd ⟨_,rfl⟩ hh
     obtain ⟨k1,k2⟩:=Xc hlr M0 g1;refine ⟨?_,by simp [dR,k2]⟩;rw [WG];cases m<;>simp [EO] at k1<;>first|(rw [k1];rfl)|skip
     rename_i x;have:=dr x;rw [<-k1] at this;simp at this
 |ag cs=>simp only [nX] at WG;simp only [aP] at hf hm;simp only [ah] at h;obtain ⟨arr,rfl,hl⟩:=h;obtain ⟨k1,k2⟩:=aaw hl hf hm;refine ⟨?_,k2⟩;rw [WG];simp only [gn];rw [<-k1]
 |_=>simp [nX] at WG
theorem M1 {n:Nat}{m:MV}: ∀x∈EO m,aaN n x x=true:=by
 intro x hx;cases m<;>simp [EO,bM] at hx
 ·subst hx;cases n<;>simp [aaN]
 ·subst hx;cases n<;>simp [aaN]
 ·subst hx;cases n<;>(simp only [aaN];exact Tf _)
 ·obtain ⟨b,_,rfl⟩:=hx;cases n<;>simp [aaN]
theorem Dw {n:Nat}{ms:List MV}:aaN (n+1) (.agg (ms.flatMap EO).toArray) (.agg (ms.flatMap EO).toArray)=true:=by
 simp only [aaN,sh,beq_self_eq_true,true_and];rw [aca];rintro ⟨x,y⟩ ZK;have ZK:(x,y)∈(ms.flatMap EO).zip (ms.flatMap EO):=by simpa using ZK
 obtain ⟨i,hi,he⟩:=List.mem_iff_getElem.1 ZK;rw [List.getElem_zip] at he;simp only [aaD] at he;obtain ⟨h1,h2⟩:=he;rw [h1] at h2;subst h2;have hm:x∈ms.flatMap EO:=by rw [<-h1];exact List.getElem_mem _
 obtain ⟨m,_,hm⟩:=List.mem_flatMap.1 hm;exact M1 _ hm
theorem M2 {n:Nat}{st:Bool}{lay:List Kd}{ks:List MV}(hf:dR lay ks=true):aaN (n+1) (gn st ks) (gn st ks)=true:=by
 unfold gn;split
 ·rename_i x;have:=Dw (n:=n) (ms:=[.h x]);simpa [EO] using this
 ·simp [aaN]
 ·simp [aaN]
 ·simp only [aaN];exact Tf _
 ·exact Dw
theorem Lo {P:Program}{w:World}{st:Bool}{lay:List Kd}{ks:List MV}(hf:dR lay ks=true):(Instr.keyThatStays (gn st ks) (gn st ks)).run P w= .ok (gn st ks) w:=by unfold Instr.keyThatStays;rw [M2 (n:=9999) hf];rfl
def gd:List (List MV)->List MV->Nat
 |[],_=>0
 |q::r,ks=>bif eO q ks then 0 else gd r ks+1
theorem Dx (jE:List (List MV))(ks:List MV):gd jE ks<=jE.length:=by
 induction jE with
 |nil=>simp [gd]
 |cons q r ih=>simp only [gd];cases eO q ks<;>simp [ih]
theorem HZ {jE:List (List MV)}{ks:List MV}{q:List MV}(h:jE[gd jE ks]? =some q):q=ks:=by
 induction jE with
 |nil=>simp at h
 |cons p r ih=>
  simp only [gd] at h;cases hm:eO p ks with
  |true=>simp [hm] at h;rw [<-h];exact O2 hm
  |false=>simp [hm] at h;exact ih h
theorem fa (es:List MV)(ks:List MV):cI es ks=gd (es.map kv) ks:=by
 induction es with
 |nil=>rfl
 |cons e r ih=>simp only [cI,aaZ,gd,ih]
def rS (s:MS):List MapEntry->List (List MV)->Prop
 |[],jE=>jE=[]
 |x::es,jE=> ∃q r,jE=q::r/\dR s.lay q=true/\x.key=gn s.st q/\rS s es r
theorem rS.length {s:MS}: ∀{es:List MapEntry} {jE:List (List MV)},rS s es jE->jE.length=es.length
 |[],_,h=>by cases h;rfl
 |_::es,_,⟨q,r,rfl,_,_,h⟩=>by simp [h.length]
theorem rS.append {s:MS}: ∀{es Ti:List MapEntry} {jE agV:List (List MV)},rS s es jE->rS s Ti agV->rS s (es++Ti) (jE++agV)
 |[],_,_,_,h,h'=>by cases h;exact h'
 |x::es,_,_,_,⟨q,r,rfl,h1,h2,h⟩,h'=>⟨q,_,rfl,h1,h2,h.append h'⟩
theorem rS.at {s:MS}: ∀{es:List MapEntry} {jE:List (List MV)} {i:Nat} {x:MapEntry},rS s es jE->es[i]? =some x-> ∃q,jE[i]? =some q/\dR s.lay q=true/\x.key=gn s.st q
 |[],_,_,_,_,h=>by simp at h
 |y::es,_,i,x,⟨q,r,rfl,h1,h2,h⟩,hx=>by
  cases i with
  |zero=>simp at hx;subst hx;exact ⟨q,rfl,h1,h2⟩
  |succ i=>simpa using h.at (i:=i) (by simpa using hx)
theorem Rt {s:MS}{d:TypeDesc}{ks:List MV}(hf:dR s.lay ks=true)(hd: ∀a b,dR s.lay a=true->dR s.lay b=true->abr d (gn s.st a) (gn s.st b)=some (eO b a)): ∀(es:List MapEntry) (jE:List (List MV)) (n:Nat),rS s es jE->ace d (gn s.st ks) es n=some ((es[gd jE ks]?).map λx=>(n+gd jE ks,x.val)):=by
 intro es;induction es with
 |nil=>intro jE n h;rfl
 |cons x es ih=>
  rintro jE n ⟨q,r,rfl,h1,h2,h⟩;simp only [ace,h2,hd ks q hf h1,gd];cases hm:eO q ks with
  |true=>simp
  |false=>simp only [cond_false];rw [ih r (n+1) h];simp [aeV,aft 1]
theorem Kr {P:Program}{s:MS}{kt:TypeId}{ks:List MV}{w:World}(hf:dR s.lay ks=true)(hd: ∀a b,dR s.lay a=true->dR s.lay b=true-> ∀w:World,(aeI kt (gn s.st a) (gn s.st b)).run P w= .ok (eO b a) w): ∀(es:List MapEntry) (jE:List (List MV)) (n:Nat),rS s es jE->(Instr.findAsking kt (gn s.st ks) es n).run P w= .ok ((es[gd jE ks]?).map λx=>(n+gd jE ks,x.val)) w:=by
 intro es;induction es with
 |nil=>intro jE n h;rfl
 |cons x es ih=>
  rintro jE n ⟨q,r,rfl,h1,h2,h⟩;simp only [Instr.findAsking,h2,adU,hd ks q hf h1 w,OF,gd];cases hm:eO q ks with
  |true=>simp
  |false=>simp only [cond_false,aaR,if_false];rw [ih r (n+1) h];simp [aeV,aft 1]
theorem H0 {P:Program}{s:MS}{kt:TypeId}{d:TypeDesc}{ks:List MV}{w:World}{es:List MapEntry}{jE:List (List MV)}(hf:dR s.lay ks=true)(hu:P.underlying kt=some d)(hd:(∀a b,dR s.lay a=true->dR s.lay b=true->abr d (gn s.st a) (gn s.st b)=some (eO b a))\/ (∀a b,dR s.lay a=true->dR s.lay b=true->abr d (gn s.st a) (gn s.st b)=none/\ ∀w:World,(aeI kt (gn s.st a) (gn s.st b)).run P w= .ok (eO b a) w))(h:rS s es jE):(acE kt (gn s.st ks) es).run P w= .ok ((es[gd jE ks]?).map λx=>(gd jE ks,x.val)) w:=by
 rcases hd with hd|hd
 ·have:=Rt hf hd es jE 0 h;rw [aa9] at this;exact MapKept.run_findKey hu this
 ·cases es with
  |nil=>simp [acE,run_underlying hu,OF,ace]
  |cons x es=>
   have h0:=Kr (P:=P) (kt:=kt) (w:=w) hf (λa b ha hb=>(hd a b ha hb).2) (x::es) jE 0 h;obtain ⟨q,r,rfl,h1,h2,h3⟩:=h;have hn:ace d (gn s.st ks) (x::es) 0=none:=by simp [ace,h2,(hd ks q hf h1).1]
   rw [aa9] at h0;simp only [acE,adU,run_underlying hu,OF,hn];exact h0
theorem rQ.ks {s:MS}: ∀{es:List MapEntry} {ms:List MV} {n:Nat},es.length=ms.length->(∀(i:Nat) x m,es[i]? =some x->ms[i]? =some m->WA s x m (n+i))->rS s es (ms.map kv)
 |[],[],_,_,_=>rfl
 |x::es,m::ms,n,hl,h=>by obtain ⟨h1,ks,v,rfl,h2,h3,_⟩:=h 0 x m rfl rfl;refine ⟨ks,ms.map kv,rfl,h2,h3,rQ.ks (n:=n+1) (by simpa using hl) λi y q hy hq=> ?_⟩;have:=h (i+1) y q (by simpa using hy) (by simpa using hq);rwa [show n+1+i=n+(i+1) by omega]
 |[],_::_,_,hl,_=>by simp at hl
 |_::_,[],_,hl,_=>by simp at hl
theorem rQ.jE {s:MS}{es:Array MapEntry}{n:Nat}{ms:List MV}(h:rQ s es n ms):rS s es.toList (ms.map kv):=rQ.ks (n:=0) (by simpa using h.size) (λi x m hx hm=>by rw [aa9];exact h.ZF i x m (by simpa using hx) hm)
structure yN (s:MS) (w w':World):Prop where
 size:w.heap.size<=w'.heap.size
 v8: ∀(b:Nat) (o:Obj),w.heap[b]? =some o->w'.heap[b]? =some o\/ ∃es n Ti n' new jE,o=Obj.map es n/\w'.heap[b]? =some (Obj.map Ti n')/\Ti.toList=es.toList++new/\rS s new jE/\ ∀x∈new,x.val=Bs s.b (kc s.b)
 rest:Rest w w'
theorem eF.m {w w':World}(s:MS)(h:eF w w'):yN s w w':=⟨h.size,λb o ho=> .inl (by rw [h.v8 b (bD ho)];exact ho),h.rest⟩
theorem yN.trans {s:MS} {w w' AO:World}(h:yN s w w') (h':yN s w' AO):yN s w AO:=by
 refine ⟨aco h.size h'.size,λb o ho=> ?_,h.rest.trans h'.rest⟩;rcases h.v8 b o ho with h1|⟨es,n,es1,n1,new,jE,rfl,h1,h2,h3,h4⟩
 ·exact h'.v8 b o h1
 ·rcases h'.v8 b _ h1 with g1|⟨Ti,n',es2,n2,ak7,ak8,g0,g1,g2,g3,g4⟩
  ·exact .inr ⟨es,n,es1,n1,new,jE,rfl,g1,h2,h3,h4⟩
  ·simp only [Obj.map.injEq] at g0;obtain ⟨rfl,rfl⟩:=g0;refine .inr ⟨es,n,es2,n2,new++ak7,jE++ak8,rfl,g1,by rw [g2,h2,adW],h3.append g3,λx hx=> ?_⟩;rcases abj.1 hx with hx|hx
   ·exact h4 x hx
   ·exact g4 x hx
section
variable {P:Program}{c:Ctx}{Z:bR}{e:Env}{st:St}{a:Act} {w w':World}{R:Type}{K:St->Option R}{r:R}{Q:Exit->Act->World->Prop}{o:Oper}
theorem AR {s:MS}{sl:Slot}{v:Value} {K':Nat->List MV->Option R}(h:cc c Z e st a w)(hv:ah e v sl)(hK:Kk st s sl K'=some r): ∃root es arr n,aw st.fr root= .box [.mp s es]/\v= .map (some (e.B root))/\w.heap[e.B root]? =some (.map arr n)/\rQ s arr n es/\(Z.bz root).In (e.B root)/\K' root es=some r:=by
 unfold Kk at hK;split at hK
 ·rename_i root;split at hK
  ·rename_i s' es zL;cases hm:msB s s'&&!De s' with
   |false=>simp [hm] at hK
   |true=>
    simp only [hm,cond_true] at hK;simp only [sh,aai] at hm;obtain ⟨hm,hit⟩:=hm;have:=Rs hm;subst this;have nv:=h.slot root;rw [zL] at nv;obtain ⟨ob,h1,h2⟩:=nv.2.obj;cases ob with
    |cells arr T z=>exact absurd h2.2.zM (by simp [gM])
    |map arr n=>obtain ⟨s2,ms2,h3,_,h4⟩:=h2;simp only [aaa,aJ.mp.injEq,and_true] at h3;obtain ⟨rfl,rfl⟩:=h3;exact ⟨root,es,arr,n,zL,by simpa [ah] using hv,h1,h4,nv.2.cP,hK⟩
    |stringIter x n=>have h3:_=[aJ.mp MS.it _]:=h2;simp only [aaa,aJ.mp.injEq,and_true] at h3;rw [h3.1] at hit;cases hit
    |_=>exact h2.elim
  ·cases hK
 ·cases hK
theorem E6 {s:MS}{sl:Slot}{v:Value} {K':List MV->Option R}(hv:ah e v sl)(hK:OB s sl K'=some r): ∃ks,v=gn s.st ks/\dR s.lay ks=true/\K' ks=some r:=by
 unfold OB at hK;cases hf:ga s.lay (aP sl)&&nX s.st sl with
 |false=>simp [hf] at hK
 |true=>
  simp only [hf,cond_true] at hK;simp only [sh] at hf;cases hm:bT (aP sl) with
  |none=>simp [hm] at hK
  |some ks=>simp only [hm] at hK;obtain ⟨h1,h2⟩:=adT hv hf.1 hf.2 hm;exact ⟨ks,h1,h2,hK⟩
theorem O3 {s:MS}{es:List MV}{arr:Array MapEntry}{n:Nat}{ks:List MV}(hm:rQ s arr n es): ah e ((((arr.toList[gd (es.map kv) ks]?).map λx=>x.val)).getD (Bs s.b (kc s.b))) (EV s es ks):=by
 have GQ: ∀v:MV,Q8 s.b v=true->(s.b=true/\v= .b (asB v))\/(s.b=false/\v= .i .i64 (asI v)):=by
  intro v hv;cases hb:s.b<;>rw [hb] at hv<;>cases v<;>simp [Q8] at hv
  ·rename_i k x;cases k<;>simp [Q8] at hv;exact .inr ⟨rfl,rfl⟩
  ·exact .inl ⟨rfl,rfl⟩
 unfold EV ab3 n8;rw [fa];cases ha:arr.toList[gd (es.map kv) ks]? with
 |none=>
  have:es[gd (es.map kv) ks]? =none:=by rw [acw] at ha⊢;have:=hm.size;simp at ha;omega
  rw [this];cases hb:s.b<;>simp [Bs,kc,hb]
  ·exact sU _ _
  ·exact zd _
 |some x=>
  have dO:gd (es.map kv) ks<es.length:=by have h1:=(aaT.1 ha).1;have:=hm.size;simp at h1;omega
  obtain ⟨m,hmm⟩: ∃m,es[gd (es.map kv) ks]? =some m:=⟨_,IS dO⟩
  obtain ⟨_,q,v,rfl,_,_,h5,h6⟩:=hm.ZF _ x m (by simpa using ha) hmm;rw [hmm];simp only [abk,Option.getD_some,h6,Z5];rcases GQ v h5 with ⟨h7,h8⟩|⟨h7,h8⟩
  ·rw [h7,h8];exact zd _
  ·rw [h7,h8];exact sU _ _
theorem Ru {t:TypeId}{s:MS}(ho:o.op= .makeMap t none)(hit:De s=false)(h:cc c Z e st a w)(hK:bu c st o.dst (.box [.mp s []]) K=some r):o.wp P a w (Out c Z K r e.φ w) Q:=by
 have cy:(execOp a.eval o).run P w= .ok (.value (.map (some w.heap.size))) (w.alloc (.map #[] 0)):=by simp [execOp,ho,RowKit.run_makeMap,OF]
 have hg:eF w (w.alloc (.map #[] 0)):=by
  refine ⟨by simp,λb hb=>rn w _ b hb,⟨rfl,rfl,rfl,λx=> ?_⟩⟩;by_cases hx:x.block=w.heap.size
  ·have e1:(w.alloc (.map #[] 0)).heap[x.block]? =some (.map #[] 0):=by rw [hx];exact ki w _
   have e2:w.heap[x.block]? =none:=by rw [hx];simp
   simp [acJ,e1,e2]
  ·exact acN _ _ _ hx
 refine fin cy (h.grow hg) (hg.trans h.cP _) ?_ hK;exact ⟨w.heap.size,by rw [WB (by simp [mH,hit])],⟨h.cP _ (acg _),⟨_,ki w _,s,[],rfl,hit,⟨rfl,rfl,λi x m hx=>by simp at hx⟩⟩,HI h⟩,(AP h).1,(AP h).2⟩
theorem Uq {t:TypeId}{s:MS}{m k:Operand}(ho:o.op= .lookup t m k false)(kz:Th P t s)(h:cc c Z e st a w)(hK:Kk st s (aM c st m) (λ_ es=>OB s (aM c st k) λks=>bu c st o.dst (EV s es ks) K)=some r):Rd P c Z K r e a w o (yN s w):=by
 obtain ⟨hm,_⟩:=h.eval m;obtain ⟨hk,_⟩:=h.eval k;obtain ⟨root,es,arr,n,h1,h2,h3,h4,_,hK⟩:=AR h hm hK;obtain ⟨ks,h5,h6,hK⟩:=E6 hk hK;obtain ⟨kt,el,t1,t2,t3,d,t4,t5⟩:=kz.row;have QQ:=h4.jE;refine Rb (v:=(((arr.toList[gd (es.map kv) ks]?).map λx=>x.val)).getD (Bs s.b (kc s.b))) (s:=EV s es ks) (λw' hg=> ?_) h (.refl _ _ _) (.of (O3 h4) ?_) hK
 ·have run: ∀(zN:Array MapEntry) (n':Nat) (jE:List (List MV)),w'.heap[e.B root]? =some (.map zN n')->rS s zN.toList jE-> (execOp a.eval o).run P w'= .ok (.value ((((zN.toList[gd jE ks]?).map λx=>x.val)).getD (Bs s.b (kc s.b)))) w':=by
   intro zN n' jE g1 g2;have HG:=H0 (P:=P) (w:=w') h6 t4 t5 g2;cases hx:zN.toList[gd jE ks]? with
   |none=>rw [hx] at HG;simp [execOp,ho,h2,h5,Instr.lookup,run_underlying t1,OF,aaL g1,t3 _ ks _ h6,HG,t2]
   |some x=>rw [hx] at HG;simp [execOp,ho,h2,h5,Instr.lookup,run_underlying t1,OF,aaL g1,t3 _ ks _ h6,HG]
  rcases hg.v8 _ _ h3 with g1|⟨es1,n1,Ti,n',new,jE,g0,g1,g2,g3,g4⟩
  ·exact run arr n _ g1 QQ
  ·simp only [Obj.map.injEq] at g0;obtain ⟨rfl,rfl⟩:=g0;have ala:rS s Ti.toList (es.map kv++jE):=by rw [g2];exact QQ.append g3
   rw [run Ti n' _ g1 ala];have hl:=QQ.length;have key:((Ti.toList[gd (es.map kv++jE) ks]?).map λx=>x.val).getD (Bs s.b (kc s.b))=((arr.toList[gd (es.map kv) ks]?).map λx=>x.val).getD (Bs s.b (kc s.b)):=by
    have hfa: ∀l:List (List MV),(gd l ks<l.length->gd (l++jE) ks=gd l ks)/\(gd l ks=l.length->gd (l++jE) ks=l.length+gd jE ks):=by
     intro l;induction l with
     |nil=>simp [gd]
     |cons q l ih=>
      simp only [aaS,gd,acb];cases eO q ks with
      |true=>simp
      |false=>simp only [cond_false];exact ⟨λhh=>by rw [ih.1 (by omega)],λhh=>by rw [ih.2 (by omega)];omega⟩
    rw [g2];rcases Nat.lt_or_ge (gd (es.map kv) ks) (es.map kv).length with dO|OU
    ·rw [(hfa _).1 dO,ab2 (by omega)]
    ·have jC:=Nat.le_antisymm (Dx (es.map kv) ks) OU;rw [(hfa _).2 jC,jC,hl,ab1 (by omega),show arr.toList.length+gd jE ks-arr.toList.length=gd jE ks by omega,List.getElem?_eq_none (l:=arr.toList) (by omega)];cases hx:new[gd jE ks]? with
     |none=>rfl
     |some x=>simp [g4 x (adB hx)]
   rw [key]
 ·unfold EV;cases s.b<;>trivial
theorem rT {es:List MV}{i:Nat}{v:MV}:tM es i v=match es[i]? with|some e=>es.set i (.ej [.agg (kv e),v])|none=>es:=rfl
theorem Lp {b:Bool}{sl:Slot}{v:Value} {K':MV->Option R}(hv:ah e v sl)(hK:T6 b sl K'=some r): ∃m,Q8 b m=true/\v=Bs b m/\K' m=some r:=by
 unfold T6 at hK;split at hK
 ·rename_i x;exact ⟨.b x,rfl,by rw [zK hv];rfl,hK⟩
 ·rename_i n;exact ⟨.i .i64 n,rfl,by rw [mg hv];rfl,hK⟩
 ·cases hK
theorem VL.map {es:Array MapEntry}{n g:Nat}(hh:w.heap[g]? =some (.map es n))(Ti:Array MapEntry) (n':Nat):VL g w {w with heap:=w.heap.setIfInBounds g (.map Ti n')}:=by
 refine ⟨by simp,λb hb=>by simp [afu hb],⟨rfl,rfl,rfl,λx=> ?_⟩⟩;unfold acJ;by_cases hx:x.block=g
 ·have dO:=bD hh;have e1:(w.heap.setIfInBounds g (.map Ti n'))[x.block]? =some (.map Ti n'):=by rw [hx];simp [dO]
  rw [e1,hx,hh]
 ·simp [afu hx]
theorem Dy {s:MS}{root:Nat}{es es2:List MV}{arr adV:Array MapEntry}{n n2:Nat} {K':St->Option R}(h:cc c Z e st a w)(h1:aw st.fr root= .box [.mp s es])(h3:w.heap[e.B root]? =some (.map arr n))(hz:(Z.bz root).In (e.B root))(h4:rQ s adV n2 es2)(hK:FP st root s es2 K'=some r): ∃w' b7,w'={w with heap:=w.heap.setIfInBounds (e.B root) (.map adV n2)}/\cc c Z e b7 a w'/\Trans Z e.φ w e.φ w'/\K' b7=some r:=by
 unfold FP wr at hK;cases hn:bL st.cJ root with
 |true=>simp [hn] at hK
 |false=>
  simp only [hn,cond_false,force_eq,oK] at hK;have HJ:=VL.map h3 adV n2;have hit:De s=false:=by have nv:=h.slot root;rw [h1] at nv;obtain ⟨ob,k1,k2⟩:=nv.2.obj;rw [h3] at k1;cases k1;obtain ⟨s2,ms2,k3,k4,_⟩:=k2;simp only [aaa,aJ.mp.injEq,and_true] at k3;rw [k3.1];exact k4
  refine ⟨_,_,rfl,?_,.chg _ HJ (Oj hz (by rw [<-h.defers.2.1,<-bU,hn];simp)),hK⟩;exact h.setObj h1 HJ (acP h3).1 ⟨s,es2,rfl,hit,h4⟩ rfl (λt=>by rw [cb]) (fP h.nodup)
theorem O4 {s:MS}{arr:Array MapEntry}{n:Nat}{es:List MV}{ks:List MV}(hm:rQ s arr n es)(hf:dR s.lay ks=true){v:Value}{m:MV}(hv:Q8 s.b m=true)(S2:v=Bs s.b m): (∀x,arr[cI es ks]? =some x->x.key=gn s.st ks/\nY es ks (kc s.b)=es/\ rQ s (arr.modify (cI es ks) λe=>{e with key:=gn s.st ks,val:=v}) n (tM es (cI es ks) m)/\ rQ s (arr.modify (cI es ks) λe=>{e with key:=gn s.st ks}) n es/\x.born=cI es ks)/\ (arr[cI es ks]? =none->cI es ks=es.length/\nY es ks (kc s.b)=es++[.ej [.agg ks,kc s.b]]/\ rQ s (arr.push {key:=gn s.st ks,val:=v,born:=n}) (n+1) (tM (nY es ks (kc s.b)) (cI es ks) m)):=by
 have tp:=hm.size;have hle:cI es ks<=es.length:=by rw [fa];have:=Dx (es.map kv) ks;simpa using this
 constructor
 ·intro x hx;have dO:cI es ks<es.length:=by have h1:=(Array.getElem?_eq_some_iff.1 hx).1;omega
  obtain ⟨m0,wI⟩: ∃m0,es[cI es ks]? =some m0:=⟨_,IS dO⟩
  obtain ⟨h1,q,v0,rfl,h2,h3,h4,h5⟩:=hm.ZF _ x m0 hx wI;have hq:q=ks:=by refine HZ (jE:=es.map kv) ?_;rw [<-fa,aa7,wI];rfl
  subst hq;have hb:BY (cI es q) es.length=false:=by
   cases hb:BY (cI es q) es.length with
   |false=>rfl
   |true=>have:=eJ hb;omega
  refine ⟨h3,by simp [nY,hb],⟨by simp [rT,wI,tp],by simp [rT,wI,hm.clock],λi y p hy hp=> ?_⟩,⟨by simp [tp],hm.clock,λi y p hy hp=> ?_⟩,h1⟩
  ·rw [rT,wI] at hp;simp only [abt] at hy;simp only [ad2] at hp;by_cases hi:cI es q=i
   ·subst hi;simp [hx] at hy;simp [dO] at hp;subst hy;subst hp;exact ⟨h1,q,m,rfl,h2,rfl,hv,S2⟩
   ·simp only [hi,if_false] at hy hp;exact hm.ZF i y p hy hp
  ·simp only [abt] at hy;by_cases hi:cI es q=i
   ·subst hi;simp [hx] at hy;rw [wI] at hp;cases hp;subst hy;exact ⟨h1,q,v0,rfl,h2,rfl,h4,h5⟩
   ·simp only [hi,if_false] at hy;exact hm.ZF i y p hy hp
 ·intro hx;have OU:cI es ks=es.length:=by
   have h1:arr.size<=cI es ks:=by simpa using hx
   omega
  have hb:BY (cI es ks) es.length=true:=by rw [OU];simp
  have Ur:nY es ks (kc s.b)=es++[.ej [.agg ks,kc s.b]]:=by simp [nY,hb]
  have QS:tM (nY es ks (kc s.b)) (cI es ks) m=es++[.ej [.agg ks,m]]:=by rw [Ur,rT,OU];simp [kv]
  refine ⟨OU,Ur,?_⟩;rw [QS];refine ⟨by simp [tp],by simp [hm.clock],λi y p hy hp=> ?_⟩;rcases Nat.lt_trichotomy i arr.size with hi|hi|hi
  ·rw [Array.getElem?_push_lt hi] at hy;rw [ab2 (by omega)] at hp;exact hm.ZF i y p (by rw [<-hy];simp [hi]) hp
  ·subst hi;simp at hy;rw [tp] at hp;simp at hp;subst hy;subst hp;exact ⟨by show n=_;rw [hm.clock,tp],ks,m,rfl,hf,rfl,hv,S2⟩
  ·have:(arr.push {key:=gn s.st ks,val:=v,born:=n}).size<=i:=by simp;omega
   rw [Array.getElem?_eq_none this] at hy;cases hy
theorem Tj {s:MS}{arr:Array MapEntry}{n:Nat}{es:List MV}{ks:List MV}{kt:TypeId}{d:TypeDesc}(hm:rQ s arr n es)(hf:dR s.lay ks=true)(t4:P.underlying kt=some d)(t5:(∀a b,dR s.lay a=true->dR s.lay b=true->abr d (gn s.st a) (gn s.st b)=some (eO b a))\/ (∀a b,dR s.lay a=true->dR s.lay b=true->abr d (gn s.st a) (gn s.st b)=none/\ ∀w:World,(aeI kt (gn s.st a) (gn s.st b)).run P w= .ok (eO b a) w)): (acE kt (gn s.st ks) arr.toList).run P w= .ok ((arr[cI es ks]?).map λx=>(cI es ks,x.val)) w:=by have:=H0 (P:=P) (w:=w) hf t4 t5 hm.jE;rw [<-fa] at this;simpa using this
theorem M3 {t:TypeId}{s:MS}{m k v:Operand}(ho:o.op= .mapUpdate t m k v)(kz:Th P t s)(h:cc c Z e st a w)(hK:Kk st s (aM c st m) (λr es=>OB s (aM c st k) λks=>T6 s.b (aM c st v) λv=>FP st r s (tM (nY es ks (kc s.b)) (cI es ks) v) λst=>bu c st o.dst (.sc .un) K)=some r): o.wp P a w (Out c Z K r e.φ w) Q:=by
 obtain ⟨hm,_⟩:=h.eval m;obtain ⟨hk,_⟩:=h.eval k;obtain ⟨hv,_⟩:=h.eval v;obtain ⟨root,es,arr,n,h1,h2,h3,h4,hz,hK⟩:=AR h hm hK;obtain ⟨ks,h5,h6,hK⟩:=E6 hk hK;obtain ⟨mv,h7,h8,hK⟩:=Lp hv hK;obtain ⟨kt,el,t1,t2,t3,d,t4,t5⟩:=kz.row;have HG:=Tj (P:=P) (w:=w) h4 h6 t4 t5;obtain ⟨g1,g2⟩:=O4 h4 h6 h7 h8;cases hx:arr[cI es ks]? with
 |some x=>obtain ⟨k1,k2,k3,_,_⟩:=g1 x hx;rw [k2] at hK;obtain ⟨w',b7,rfl,hs,ht,hK⟩:=Dy h h1 h3 hz k3 hK;refine Dm ?_ hs ht hK;simp [execOp,ho,h2,h5,Instr.mapUpdate,run_underlying t1,aaL h3,t3 _ ks _ h6,HG,hx,k1,Lo h6,aaX _ h3,OF]
 |none=>obtain ⟨k1,k2,k3⟩:=g2 hx;obtain ⟨w',b7,rfl,hs,ht,hK⟩:=Dy h h1 h3 hz k3 hK;refine Dm ?_ hs ht hK;simp [execOp,ho,h2,h5,Instr.mapUpdate,run_underlying t1,aaL h3,t3 _ ks _ h6,HG,hx,aaX _ h3,OF]
theorem F5 {t:TypeId}{s:MS}{m k:Operand}(ho:o.op= .mapEntry t m k)(kz:Th P t s)(h:cc c Z e st a w)(hK:Kk st s (aM c st m) (λr es=>OB s (aM c st k) λks=>FP st r s (nY es ks (kc s.b)) λst=>bu c st o.dst (.ej [EV s es ks,.sc (.p (.i .i64 (cI es ks)))]) K)=some r): o.wp P a w (λa' w'=>yN s w w'/\Out c Z K r e.φ w a' w') Q:=by
 obtain ⟨hm,_⟩:=h.eval m;obtain ⟨hk,_⟩:=h.eval k;obtain ⟨root,es,arr,n,h1,h2,h3,h4,hz,hK⟩:=AR h hm hK;obtain ⟨ks,h5,h6,hK⟩:=E6 hk hK;obtain ⟨kt,el,t1,t2,t3,d,t4,t5⟩:=kz.row;have HG:=Tj (P:=P) (w:=w) h4 h6 t4 t5;have VS:Q8 s.b (kc s.b)=true:=by cases s.b<;>rfl
 obtain ⟨g1,g2⟩:=O4 h4 h6 VS rfl;have hgl:=O3 (e:=e) (ks:=ks) h4;rw [<-fa] at hgl;have Xd:BJ (EV s es ks)=true:=by unfold EV;cases s.b<;>rfl
 have agW: ∀(w':World) (b7:St) (u:Value),yN s w w'->(execOp a.eval o).run P w= .ok (.value (.tuple #[u,goInt (cI es ks)])) w'->cc c Z e b7 a w'->Trans Z e.φ w e.φ w'-> ah e u (EV s es ks)->bu c b7 o.dst (.ej [EV s es ks,.sc (.p (.i .i64 (cI es ks)))]) K=some r->o.wp P a w (λa' w'=>yN s w w'/\Out c Z K r e.φ w a' w') Q:=by
  intro w' b7 u hg cy hs ht hu hK;unfold aeZ;rw [cy,adb];have wP:qS Z e w' b7 (.tuple #[u,goInt (cI es ks)]) (.ej [EV s es ks,.sc (.p (.i .i64 (cI es ks)))]):=by refine ⟨?_,trivial⟩;simp only [ah];exact ⟨_,rfl,u,[goInt (cI es ks)],rfl,hu,Xd,goInt (cI es ks),[],rfl,sU _ _,rfl,rfl⟩
  obtain ⟨e2,dV,k1,k2,k3⟩:=dM hs wP hK;exact ⟨hg,e2,dV,k1,by rw [k3];exact ht,k2⟩
 cases hx:arr[cI es ks]? with
 |some x=>
  obtain ⟨k1,k2,_,k4,k5⟩:=g1 x hx;rw [k2] at hK;obtain ⟨w',b7,rfl,hs,ht,hK⟩:=Dy h h1 h3 hz k4 hK;have qI:arr.modify (cI es ks) (λe=>{e with key:=gn s.st ks})=arr:=by
   apply adN;intro i;rw [abt];by_cases hi:cI es ks=i
   ·subst hi;simp only [if_true,hx,abk];rw [<-k1]
   ·simp [hi]
  refine agW _ _ x.val ?_ ?_ hs ht ?_ hK
  ·rw [qI];have:w.heap.setIfInBounds (e.B root) (.map arr n)=w.heap:=by
    apply adN;intro i;rw [Array.getElem?_setIfInBounds];by_cases hi:e.B root=i
    ·subst hi;rw [h3];simp [bD h3]
    ·simp [hi]
   rw [this];exact (eF.refl w).m s
  ·simp [execOp,ho,h2,h5,Instr.mapEntry,run_underlying t1,aaL h3,t3 _ ks _ h6,HG,hx,k1,Lo h6,aaX _ h3,OF,k5]
  ·have:arr.toList[cI es ks]? =some x:=by simpa using hx
   rw [this] at hgl;exact hgl
 |none=>
  obtain ⟨k1,k2,k3⟩:=g2 hx;have QS:tM (nY es ks (kc s.b)) (cI es ks) (kc s.b)=nY es ks (kc s.b):=by rw [k2,rT,k1];simp [kv]
  rw [QS] at k3;obtain ⟨w',b7,rfl,hs,ht,hK⟩:=Dy h h1 h3 hz k3 hK;refine agW _ _ (Bs s.b (kc s.b)) ?_ ?_ hs ht ?_ hK
  ·have HJ:=VL.map h3 (arr.push {key:=gn s.st ks,val:=Bs s.b (kc s.b),born:=n}) (n+1);refine ⟨by rw [HJ.size];exact acg _,λb ob hb=> ?_,HJ.rest⟩;by_cases Ro:b=e.B root
   ·subst Ro;rw [h3] at hb;cases hb;exact .inr ⟨arr,n,_,_,[{key:=gn s.st ks,val:=Bs s.b (kc s.b),born:=n}],[ks],rfl,(acP h3).1,by simp,⟨ks,[],rfl,h6,rfl,rfl⟩,by simp⟩
   ·exact .inl (by rw [HJ.other b Ro];exact hb)
  ·rw [hx] at HG;simp [execOp,ho,h2,h5,Instr.mapEntry,run_underlying t1,aaL h3,t3 _ ks _ h6,HG,aaX _ h3,OF,t2,k1];rw [h4.clock]
  ·have:arr.toList[cI es ks]? =none:=by simpa using hx
   rw [this] at hgl;exact hgl
theorem Ks {t:TypeId}{s:MS}{m i v:Operand}(ho:o.op= .entryStore t m i v)(h:cc c Z e st a w)(hK:Kk st s (aM c st m) (λr es=>match aM c st i with
  | .sc (.p (.i .i64 n))=>ca (decide (0<=n/\n.toNat<es.length)) (T6 s.b (aM c st v) λv=>FP st r s (tM es n.toNat v) λst=>bu c st o.dst (.sc .un) K)
  |_=>none)=some r):
 o.wp P a w (Out c Z K r e.φ w) Q:=by
 obtain ⟨hm,_⟩:=h.eval m;obtain ⟨hi,_⟩:=h.eval i;obtain ⟨hv,_⟩:=h.eval v;obtain ⟨root,es,arr,n,h1,h2,h3,h4,hz,hK⟩:=AR h hm hK;split at hK
 ·rename_i q hq;rw [hq] at hi;obtain ⟨hc,hK⟩:=eY hK;obtain ⟨QP,hc2⟩:=of_decide_eq_true hc;obtain ⟨mv,h7,h8,hK⟩:=Lp hv hK;have tp:=h4.size;obtain ⟨m0,wI⟩: ∃m0,es[q.toNat]? =some m0:=⟨_,IS hc2⟩
  have dO:q.toNat<arr.size:=by omega
  have hx:arr[q.toNat]? =some arr[q.toNat]:=by simp [dO]
  obtain ⟨j1,ks,v0,rfl,j2,j3,j4,j5⟩:=h4.ZF _ _ _ hx wI;have M4:rQ s (arr.modify q.toNat λe=>{e with val:=a.eval v}) n (tM es q.toNat mv):=by
   refine ⟨by simp [rT,wI,tp],by simp [rT,wI,h4.clock],λk y p hy hp=> ?_⟩;rw [rT,wI] at hp;simp only [abt] at hy;simp only [ad2] at hp;by_cases hi:q.toNat=k
   ·subst hi;rw [hx] at hy;simp only [if_true,abk,AT] at hy;simp [hc2] at hp;subst hy;subst hp;exact ⟨j1,ks,mv,rfl,j2,j3,h7,h8⟩
   ·simp only [hi,if_false] at hy hp;exact h4.ZF k y p hy hp
  have hfi:arr.findIdx? (λe=>(e.born:Int)==q)=some q.toNat:=by
   rw [Array.findIdx?_eq_some_iff_findIdx_eq];refine ⟨dO,?_⟩;rw [Array.findIdx_eq dO];refine ⟨by simp [j1];omega,λk hk=> ?_⟩;have Tk:k<arr.size:=by omega
   obtain ⟨m1,hm1⟩: ∃m1,es[k]? =some m1:=⟨_,IS (by omega)⟩
   obtain ⟨b1,_⟩:=h4.ZF k arr[k] m1 (by simp [Tk]) hm1;simp [b1];omega
  obtain ⟨w',b7,rfl,hs,ht,hK⟩:=Dy h h1 h3 hz M4 hK;refine Dm ?_ hs ht hK;have hiv:=mg hi;simp only [execOp,ho,h2,hiv,Instr.entryStore,adU,aaL h3,asInt,asIntOf,Sem.run_pure,OF];rw [hfi];simp [aaX _ h3,OF]
 ·cases hK
theorem aax {x:Operand}(ho:o.op= .assign x)(h:cc c Z e st a w)(hK:Hd c o st x (λs st=>bu c st o.dst s K)=some r):o.wp P a w (λa' w'=>eF w w'/\Out c Z K r e.φ w a' w') Q:=by
 have plain:bu c st o.dst (aM c st x) K=some r->o.wp P a w (λa' w'=>eF w w'/\Out c Z K r e.φ w a' w') Q:=by intro hK;obtain ⟨v,h1,h2⟩:=MR (P:=P) (.inr ho) h hK;unfold aeZ;rw [h1 w trivial,adb];exact ⟨.refl w,h2⟩
 unfold Hd at hK;split at hK
 ·rename_i t _ _;split at hK
  ·rename_i cs zL;cases hm:gM cs with
   |false=>simp only [hm,cond_false] at hK;exact plain hK
   |true=>
    simp only [hm,cond_true] at hK;cases hnp:bL st.cJ t||zu t with
    |true=>simp [hnp] at hK
    |false=>
     obtain ⟨hn,hpt⟩:=IT.1 hnp;simp only [hnp,cond_false,FQ] at hK;have nv:=h.slot t;rw [zL] at nv;have h1:=h.drop (ds:=[t]);have hg:=HA [t] st.fr h.nodup;have sS: ∀t' kh,aw (pf [t] st.fr) t'= .box kh->t'≠t/\aw st.fr t'= .box kh:=by
      intro t' kh ht;rw [hg] at ht;split at ht
      ·cases ht
      ·rename_i dS;refine ⟨λhe=>dS ?_,ht⟩;subst he;simp [bL]
     have wP:qS Z e w {st with fr:=pf [t] st.fr} (a.eval (.tmp t)) (.box cs):=by refine ⟨e.B t,nv.1.1 hpt,⟨Oj nv.2.cP (by rw [<-h.defers.2.1,<-bU,hn];simp),nv.2.obj,nv.2.free⟩,λt' kh ht=> ?_,λf o ho=>h.bf t cs f o zL ho⟩;obtain ⟨g1,g2⟩:=sS t' kh ht;exact h.bb t' t kh cs g2 zL g1
     exact Ua (w':=w) (.refl w) (by simp [execOp,ho]) h1 (.refl _ _ _) wP hK
  ·exact plain hK
 ·exact plain hK
end
end Dn
/-
  What goes through a string; a text of a row of bytes. Conditions: none.
-/
namespace Dn
open Go
section
variable {P:Program}{c:Ctx}{Z:bR}{e:Env}{st:St}{a:Act} {w w':World}{R:Type}{K:St->Option R}{r:R}{Q:Exit->Act->World->Prop}{o:Oper}
theorem Tl {t:Nat}{s:MS}(h:vX c t=some s):De s=false:=by
 unfold vX at h;split at h
 ·split at h
  ·rename_i I _;cases hi:De ⟨I.st,I.lay,_⟩ with
   |true=>rw [hi] at h;cases h
   |false=>rw [hi] at h;cases h;exact hi
  ·cases h
 ·cases h
theorem Xe {t:TypeId}{x:Operand}{I:TI}(ho:o.op= .range t x)(hI:c.tv t=some I)(hT:lV P c.ti)(h:cc c Z e st a w)(hK:Q0 I (aM c st x) (λs=>bu c st o.dst s K)=some r):o.wp P a w (Out c Z K r e.φ w) Q:=by
 obtain ⟨pO,hc⟩:=b6 hI;obtain ⟨hx,_⟩:=h.eval x;generalize aM c st x=s' at hx hK;unfold Q0 at hK;split at hK
 ·rename_i l;cases hS:I.VJ with
  |false=>simp [hS] at hK
  |true=>
   simp only [hS,cond_true] at hK;have hu:=TI.HN (hT t I pO) hS;obtain ⟨b,hb,rfl⟩:=FR hx;have cy:(execOp a.eval o).run P w= .ok (.value (.pointer (some ⟨w.heap.size,0,none⟩))) (w.alloc (.stringIter b 0)):=by simp [execOp,ho,hb,run_range_string w t b hu,World.iter,OF]
   have hg:eF w (w.alloc (.stringIter b 0)):=by
    refine ⟨by simp,λk hk=>rn w _ k hk,⟨rfl,rfl,rfl,λx=> ?_⟩⟩;by_cases hx:x.block=w.heap.size
    ·have e1:(w.alloc (.stringIter b 0)).heap[x.block]? =some (.stringIter b 0):=by rw [hx];exact ki w _
     have e2:w.heap[x.block]? =none:=by rw [hx];simp
     simp [acJ,e1,e2]
    ·exact acN _ _ _ hx
   refine fin cy (h.grow hg) (hg.trans h.cP _) ?_ hK;exact ⟨w.heap.size,by rw [Q9 rfl],⟨h.cP _ (acg _),⟨_,ki w _,rfl⟩,HI h⟩,(AP h).1,(AP h).2⟩
 ·cases hK
theorem VL.iter {s:ByteArray}{n g:Nat}(hh:w.heap[g]? =some (.stringIter s n)) (n':Nat):VL g w {w with heap:=w.heap.setIfInBounds g (.stringIter s n')}:=by
 refine ⟨by simp,λb hb=>by simp [afu hb],⟨rfl,rfl,rfl,λx=> ?_⟩⟩;unfold acJ;by_cases hx:x.block=g
 ·have dO:=bD hh;have e1:(w.heap.setIfInBounds g (.stringIter s n'))[x.block]? =some (.stringIter s n'):=by rw [hx];simp [dO]
  rw [e1,hx,hh]
 ·simp [afu hx]
theorem aay {x:Operand}(ho:o.op= .next x true)(h:cc c Z e st a w)(hK:itK st (aM c st x) (λs st=>bu c st o.dst s K)=some r):o.wp P a w (Out c Z K r e.φ w) Q:=by
 obtain ⟨hx,_⟩:=h.eval x;generalize aM c st x=s' at hx hK;unfold itK at hK;split at hK
 ·rename_i t;split at hK
  ·rename_i s es zL;cases hit:De s with
   |false=>simp [hit] at hK
   |true=>
    simp only [hit,cond_true] at hK;have nv:=h.slot t;rw [zL] at nv;obtain ⟨ob,h1,h2⟩:=nv.2.obj;cases ob with
    |cells arr T z=>exact absurd h2.2.zM (by simp [gM])
    |map arr n=>obtain ⟨s2,ms2,h3,h4,_⟩:=h2;simp only [aaa,aJ.mp.injEq,and_true] at h3;rw [h3.1,h4] at hit;cases hit
    |stringIter b pos=>
     have h3:_=[aJ.mp MS.it _]:=h2;simp only [aaa,aJ.mp.injEq,and_true] at h3;obtain ⟨rfl,rfl⟩:=h3;simp only [ah] at hx;cases M4:Z6 [.s b.data.toList,.i .i64 (pos:Int)] with
     |true=>
      rw [M4] at hK;simp only [bl] at hK;have dO:pos<b.size:=by simpa [Z6,BH,itS] using M4
      unfold wr at hK;cases hn:bL st.cJ t with
      |true=>simp [hn] at hK
      |false=>
       simp only [hn,cond_false,force_eq,oK] at hK;have hb:(⟨b.data.toList.toArray⟩:ByteArray)=b:=by cases b;simp
       have HJ:=VL.iter h1 (pos+(aeA b pos).2);have hs:=h.setObj (kh:=[.mp MS.it (QZ [.s b.data.toList,.i .i64 (pos:Int)])]) zL HJ (acP h1).1 (by show _=_;simp [QZ,itS,BH,hb]) rfl (λt=>by rw [cb]) (fP h.nodup);have cy:(execOp a.eval o).run P w= .ok (.value (.tuple #[.bool true,.int .i64 pos,.int .i32 (aeA b pos).1])) {w with heap:=w.heap.setIfInBounds (e.B t) (.stringIter b (pos+(aeA b pos).2))}:=by simp [execOp,ho,hx,Instr.next,getObj,setObj,Sem.run,h1,dO,OF,goInt]
       refine fin (s:= .ej [.sc (.p (.b true)),.sc (.p (.i .i64 (BH [.s b.data.toList,.i .i64 (pos:Int)]))),.sc (.p (.i .i32 (QY [.s b.data.toList,.i .i64 (pos:Int)])))]) cy hs (.chg _ HJ (Oj nv.2.cP (by rw [<-h.defers.2.1,<-bU,hn];simp))) ⟨?_,trivial⟩ hK;simp only [ah,BH,QY,itS,hb,Int.toNat_natCast];exact ⟨_,rfl,.bool true,_,rfl,zd _,rfl,goInt pos,_,rfl,sU _ _,rfl,_,[],rfl,sU _ _,rfl,rfl⟩
     |false=>
      rw [M4] at hK;simp only [bl] at hK;have dO: ¬pos<b.size:=by simpa [Z6,BH,itS] using M4
      have cy:(execOp a.eval o).run P w= .ok (.value (.tuple #[.bool false])) w:=by simp [execOp,ho,hx,Instr.next,getObj,setObj,Sem.run,h1,dO,OF,goInt]
      refine fin (s:= .ej [.sc (.p (.b false))]) cy h (.refl _ _ _) ⟨?_,trivial⟩ hK;simp only [ah];exact ⟨_,rfl,.bool false,_,rfl,zd _,rfl,rfl⟩
    |_=>exact h2.elim
  ·cases hK
 ·cases hK
theorem Lq {R:Type}{r:R}: ∀{xs:List MV} {K:List UInt8->Option R},MJ xs K=some r-> ∃ns:List Int,xs=ns.map (MV.i .u8)/\K (ns.map λn=>acx n.toNat)=some r:=by
 intro xs;induction xs with
 |nil=>intro K h;exact ⟨[],rfl,h⟩
 |cons m xs ih=>
  intro K h;simp only [MJ,byK] at h;cases m with
  |i k n=>
   simp only [gI] at h;by_cases hk:k= .u8
   ·subst hk;simp only [decide_true,cond_true] at h;obtain ⟨_,h1⟩:=eY h;obtain ⟨ns,hx,h2⟩:=ih h1;exact ⟨n::ns,by rw [hx];rfl,h2⟩
   ·simp [hk] at h
  |_=>simp [gI] at h
theorem Xf {y t:TypeId}{x:Operand}{Y I:TI}(ho:o.op= .convert y t x)(hY:c.tv y=some Y)(hI:c.tv t=some I)(hL:Y.AN=true)(hT:lV P c.ti)(h:cc c Z e st a w)(hK:Wi c st Y I (aM c st x) (λs=>bu c st o.dst s K)=some r):Rd P c Z K r e a w o (eF w):=by
 obtain ⟨hyi,_⟩:=b6 hY;obtain ⟨pO,_⟩:=b6 hI;obtain ⟨hx,_⟩:=h.eval x;generalize aM c st x=s' at hx hK;obtain ⟨hu,_⟩:=TI.n4 (hT y Y hyi) hL;unfold Wi at hK;cases hE:c.tv Y.elem with
 |none=>simp [hE] at hK
 |some E=>
  obtain ⟨tq,_⟩:=b6 hE;simp only [hE] at hK;cases W3:I.VJ&&T4 E with
  |false=>simp [W3] at hK
  |true=>
   simp only [W3,cond_true] at hK;simp only [sh] at W3;have hd:=TI.HN (hT t I pO) W3.1;obtain ⟨he,tp⟩:=Tb (hT _ E tq) W3.2;have go: ∀(ns:List Int),(∀w':World,eF w w'->(convert y t (a.eval x)).run P w'= .ok (.string (strOfNums ns)) w')->bu c st o.dst (.sc (.p (.s (ns.map λn=>acx n.toNat)))) K=some r-> Rd P c Z K r e a w o (eF w):=by intro ns cy hK;refine Rb (s:= .sc (.p (.s (ns.map λn=>acx n.toNat)))) (v:= .string (strOfNums ns)) (λw' hg=>by simp [execOp,ho,cy w' hg,OF]) h (.refl _ _ _) (.of ?_ trivial) hK;rw [<-strOfNums_data];exact WD _
   have alb:a.eval x= .slice none 0 0->bu c st o.dst (.sc (.p (.s []))) K=some r->Rd P c Z K r e a w o (eF w):=by intro hv hK;refine go [] (λw' hg=> ?_) hK;rw [hv,run_convert_bytes_nil w' y _ hu he 0 0 t hd];rfl
   split at hK
   ·rename_i xs;obtain ⟨ns,Xg,xG⟩:=Lq hK;refine go ns (λw' hg=> ?_) xG;clear hK;subst Xg;simp only [ah,aY] at hx;obtain ⟨_,hx⟩:=hx;generalize hv:[a.eval x]=vs at hx;cases hx;rename_i ad cap bx off Le f h1 h2 h3 h4 h5;simp only [aaa,and_true] at hv;rw [hv];have hlen:(ns.map (MV.i .u8)).length=ns.length:=aeB ..;have h5: ∀(i:Nat) (hi:i<ns.length),nu e.key e.φ (f i) (.i .u8 ns[i]):=λi hi=>by have:=h5 i (by rw [hlen];exact hi);rwa [List.getElem_map] at this
    rw [hlen] at h1 h2 h3 h4⊢;cases ns with
    |nil=>rw [run_convert_bytes_string w' y t _ _ _ _ hu he hd];cases ad<;>simp [Conv.bytesToString,loadCells,loadCellsFrom,OF,strOfNums]<;>rfl
    |cons n ns=>
     have h5': ∀(i:Nat) (hi:i<(n::ns).length),f i=[.int .u8 (n::ns)[i]]:=by intro i hi;have:=h5 i hi;generalize f i=q at this;cases this;rfl
     have alc:Le=1:=by rw [<-h3 0 (by simp),h5' 0 (by simp)];rfl
     subst alc;rw [h2 (by simp)];refine run_convert_bytes_arg w' y _ hu he bx off _ cap (n::ns) rfl (λi hi=> ?_) t hd;have h6:=h4 i 0 hi (by omega);rw [h5' i hi] at h6;simp only [Nat.mul_one,Nat.add_zero,acb,Nat.zero_lt_succ,List.getElem?_cons_zero] at h6;rw [hg.cell (h.pM _ _ _ h6),acv,IS hi];rfl
   ·refine alb ?_ hK;simpa [ah,aY] using hx
   ·rename_i f;cases hf:aT st.bn f with
    |none=>simp [hf] at hK
    |some ow=>
     simp only [hf] at hK;cases kz:BY ow.ty Y.elem with
     |false=>simp [kz] at hK
     |true=>
      simp only [kz,cond_true] at hK;have kz:=eJ kz;obtain ⟨ns,Xg,xG⟩:=Lq hK;clear hK;obtain ⟨hv,_⟩:=sX h hx hf;refine go ns (λw' hg=> ?_) xG;obtain ⟨J,cells,k1,k2,k3,k4,k5⟩:=(h.jA f ow hf).row;rw [kz,tq] at k1;cases k1;rw [tp] at k3 k4;rw [Xg] at k3 k4;have bM: ∀(ns:List Int) (cells:List Value),bB e.key e.φ 1 cells (ns.map (MV.i .u8))->cells=ns.map (afP .u8):=by
       intro ns;induction ns with
       |nil=>intro cells hc;exact hc
       |cons n ns ih=>intro cells hc;obtain ⟨v,q,rfl,_,hr,hc⟩:=hc;cases hr;rw [ih _ hc];rfl
      have hce:=bM _ _ k4;subst hce;rw [hv];rw [aeB] at k3;rcases k3.2 with ⟨q1,q2⟩|⟨g,cap,gJ,q1,_,q2,q3,q4,q5,q6⟩
      ·have:ns=[]:=List.eq_nil_of_length_eq_zero q2;subst this;rw [q1,run_convert_bytes_nil w' y _ hu he 0 0 t hd];rfl
      ·rw [q1];refine run_convert_bytes_arg w' y _ hu he g 0 _ cap ns rfl (λi hi=> ?_) t hd;refine hg.cell ?_;rw [aa9,cell_of q2];have hi2:(gJ.toList.take (ns.length *1))[i]? =some (.int .u8 (ns.getD i 0)):=by rw [q6,aa7,acv,IS hi];rfl
       rw [adO] at hi2;split at hi2
       ·simpa using hi2
       ·cases hi2
   ·cases hK
end
end Dn
/-
  Slices of new elements. Conditions: none.
-/
namespace Dn
open Go
section
variable {P:Program}{c:Ctx}{Z:bR} {e e':Env}{st:St}{a:Act} {w w':World}{R:Type}{K:St->Option R}{r:R}{Q:Exit->Act->World->Prop}{o:Oper}
theorem Xh {t:TypeId}{I:TI}(hI:c.tv t=some I)(hT:lV P c.ti): ∃i z,P.info? t=some i/\i.zero=some z/\aC e z.cells.toList I.zero:=by
 obtain ⟨pO,hc⟩:=b6 hI;obtain ⟨d,i,h1,h2,h3,h4⟩:=hT t I pO;suffices hz: ∃z,i.zero=some z/\aC e z.cells.toList I.zero by obtain ⟨z,h5,h6⟩:=hz;exact ⟨i,z,h2,h5,h6⟩
 cases d<;>simp only [tQ] at h4;case struct fs=>obtain ⟨_,_,_,_,_,_,cs,hz,hl,_⟩:=h4;exact ⟨_,hz,by simpa [ach] using mL hl⟩
 case tuple ts=>exact absurd hc h4.2.1
 case slice el=>obtain ⟨_,_,_,_,_,hz,hl,_⟩:=h4;exact ⟨_,hz,by rw [hl];exact ⟨[.slice none 0 0],[],rfl,rfl,rfl⟩⟩
 case array n el=>obtain ⟨_,_,_,_,_,_,_,hl,hz⟩:=h4;exact ⟨_,hz,by rw [hl];exact ⟨bM lp.zero,[],by simp [ach],rfl,rfl⟩⟩
 case bool=>obtain ⟨_,_,_,_,hl,hz⟩:=h4;exact ⟨_,hz,by rw [hl];exact ⟨[.bool false],[],rfl,⟨rfl,.b _⟩,rfl⟩⟩
 case int k=>obtain ⟨_,_,_,_,hl,hz⟩:=h4;exact ⟨_,hz,by rw [hl];exact ⟨[.int k 0],[],rfl,⟨rfl,.i _ _⟩,rfl⟩⟩
 case string=>obtain ⟨_,_,_,_,hl,b,hz,hb⟩:=h4;refine ⟨_,hz,by rw [hl];refine ⟨[.string b],[],rfl,⟨rfl,?_⟩,rfl⟩;rw [<-hb];exact .s b⟩
 all_goals
  obtain ⟨_,_,_,_,v,hz,hv,hl⟩:=h4;refine ⟨v,hz,?_⟩;have:v.cells.toList=[v]:=by cases v<;>simp_all [ach,Value.oneCell']
  rw [this];exact mL hl
theorem aC.agZ {cs:List aJ}: ∀{vs:List Value} {ms:List MV},aC e vs cs->zE cs=some ms->jB e.key e.φ vs ms:=by
 induction cs with
 |nil=>intro vs ms h hm;cases h;simp [zE] at hm;subst hm;exact .nil
 |cons l r ih=>
  intro vs ms h hm;obtain ⟨v,u,rfl,h1,h2⟩:=h;cases hr:zE r with
  |none=>cases l<;>simp [zE,hr] at hm
  |some q=>
   cases l<;>simp [zE,hr] at hm
   ·subst hm;exact .cons v _ u q h1.2 (ih h2 hr)
   ·subst hm;have h1:v=bM _:=h1;subst h1;exact .cons _ _ u q (.h _) (ih h2 hr)
   ·subst hm;have h1:v=[.slice none 0 0]:=h1;subst h1;exact .cons _ _ u q (.list none 0 [] 0 0 0 (λ_=>[]) (acg _) (λh=>absurd h (Nat.lt_irrefl _)) (λ_ h=>absurd h (adg _)) (λ_ _ h=>absurd h (adg _)) (λ_ h=>absurd h (adg _))) (ih h2 hr)
theorem Us {b:Bool}{ms:List MV}{x:MV}{vs:List Value}(h:jB e.key e.φ vs ms)(hx:vW b ms=some x):nu e.key e.φ vs x:=by
 cases b with
 |true=>cases ms<;>simp [vW] at hx<;>subst hx<;>exact .agg _ _ h
 |false=>
  cases ms with
  |nil=>simp [vW] at hx
  |cons m ms=>
   cases ms with
   |cons y ys=>simp [vW] at hx
   |nil=>
    simp [vW] at hx;subst hx;generalize BM:vs=QM at h;cases h with
    |cons v _ u _ h1 h2=>cases h2;simpa using h1
theorem Lr (z:Array Value)(hz:0<z.size): ∀n:Nat,(madeCells z (n *z.size)).toList=(aa1 n z.toList).flatten
 |0=>by simp [madeCells]
 |n+1=>by
  have ih:=Lr z hz n;unfold madeCells at ih⊢;rw [ab8,Array.toList_range] at ih⊢;rw [Nat.succ_mul,List.range_add,List.map_append,ih,List.replicate_succ',List.flatten_append];congr 1;simp only [List.flatten_cons,List.flatten_nil,aeG,List.map_map];apply ad6;intro k;rw [aa7];by_cases hk:k<z.size
  ·rw [adH hk];simp only [abk,Function.comp];rw [show (n *z.size+k)%z.size=k by rw [Nat.mul_comm,Nat.mul_add_mod,Nat.mod_eq_of_lt hk]];simp [hk]
  ·simp [hk,show z.size<=k by omega]
theorem BR {key:Nat->Nat} {φ:Ph}{size:Nat}{vs:List Value}{x:MV}(hl:vs.length=size)(h:nu key φ vs x): ∀n,bB key φ size (aa1 n vs).flatten (aa1 n x)
 |0=>rfl
 |n+1=>⟨vs,(aa1 n vs).flatten,by simp [List.replicate_succ],hl,h,BR hl h n⟩
theorem M5 {t:TypeId}{x y:Operand}{I E:TI}(ho:o.op= .makeSlice t x y)(hI:c.tv t=some I)(hL:I.AN=true)(hE:c.tv I.elem=some E)(hT:lV P c.ti)(h:cc c Z e st a w)(hK:V8 (o.dst.getD 0) st I E (aM c st x) (aM c st y) (λs st=>bu c st o.dst s K)=some r): o.wp P a w (λa' w'=>eF w w'/\Out c Z K r e.φ w a' w') Q:=by
 obtain ⟨pO,hc⟩:=b6 hI;obtain ⟨tq,wa⟩:=b6 hE;obtain ⟨hu,E2,FZ,_,jD⟩:=TI.n4 (hT t I pO) hL;rw [tq] at FZ;cases FZ;obtain ⟨hx,_⟩:=h.eval x;obtain ⟨hy,_⟩:=h.eval y;generalize aM c st x=sx at hx hK;generalize aM c st y=sy at hy hK;unfold V8 at hK;split at hK;rotate_left
 ·cases hK
 rename_i k1 n k2 m;cases hb:acy 1 E.bytes with
 |false=>simp [hb] at hK
 |true=>
 simp only [hb,cond_true] at hK;have hb:=abu hb;obtain ⟨hn,hK'⟩:=eY hK;clear hK;have hK:=hK';clear hK';have hn:=of_decide_eq_true hn;obtain ⟨h0,hnm,kV⟩:=hn;subst hnm;cases VP:zE E.zero with
 |none=>simp [VP] at hK
 |some zs=>
 simp only [VP] at hK;cases hre:vW E.st zs with
 |none=>simp [hre] at hK
 |some z0=>
 simp only [hre] at hK;obtain ⟨i,z,hi,hz,hlr⟩:=Xh (e:=e) hE hT;obtain ⟨i',z',hi',hs,Hh,hz',Xi⟩:=wS (hT _ E tq) wa;rw [hi] at hi';cases hi';rw [hz] at hz';cases hz';have iv:nu e.key e.φ z.cells.toList z0:=Us (hlr.agZ VP) hre;have ev1:a.eval x= .int k1 n:=mg hx;have ev2:a.eval y= .int k2 n:=mg hy;have hnb:n<=n *(E.bytes:Int):=by have:n *1<=n *(E.bytes:Int):=Int.mul_le_mul_of_nonneg_left (by omega) h0;omega
 have ag0:=run_make (P:=P) w t I.elem i z hu hi hz k1 k2 n n h0 (Int.le_refl _) (by rw [Hh,Int.mul_comm];omega) (by omega);have cy:(execOp a.eval o).run P w= .ok (.value (.slice (some ⟨w.heap.size,0,none⟩) n.toNat n.toNat)) (w.alloc (.cells (madeCells z.cells (n.toNat *i.size)) I.elem)):=by simp [execOp,ho,ev1,ev2,ag0]
 rw [hs,<-Xi] at cy;have hg:eF w (w.alloc (.cells (madeCells z.cells (n.toNat *z.cells.size)) I.elem)):= .alloc w _ _;have Te:(madeCells z.cells (n.toNat *z.cells.size)).toList=(aa1 n.toNat z.cells.toList).flatten:=Lr _ (by rw [Xi];exact jD) _;have pP:=BR (size:=E.size) (by rw [adI];exact Xi) iv n.toNat;rw [<-Te] at pP;have hlen:(aa1 n.toNat z0).length=n.toNat:=List.length_replicate;have tp:(madeCells z.cells (n.toNat *z.cells.size)).toList.length=n.toNat *E.size:=by rw [adI,size_madeCells,Xi]
 have FY: ∀off,e.φ w.heap.size off=none:=by
  intro off;cases hp:e.φ w.heap.size off with
  |none=>rfl
  |some u=>have:=World.block_lt_of_cell? w _ (h.pM _ _ _ hp);simp at this
 have Cq:=h.npf hK;have hK:=tu hK;have mM:dW c Z.nc e (w.alloc (.cells (madeCells z.cells (n.toNat *z.cells.size)) I.elem)) (.slice (some ⟨w.heap.size,0,none⟩) n.toNat n.toNat) ⟨I.elem,false,aa1 n.toNat z0⟩:=by
  refine ⟨E,_,tq,wa,⟨?_,.inr ⟨w.heap.size,n.toNat,_,?_,afM _,ki w _,?_,?_,?_,?_⟩⟩,pP,?_⟩
  ·simp [tp,hlen]
  ·simp [hlen]
  ·simp [hlen]
  ·simp [hlen,Go.maxLen];omega
  ·simp [size_madeCells,Xi,hlen]
  ·show List.take _ _=_;rw [List.take_of_length_le (by simp [tp,hlen])]
  ·intro bx lW;simp [IN] at lW;subst lW;refine ⟨h.cP _ (acg _),λoff u hu=>(by rw [FY] at hu;cases hu),λhc=>aeH hc⟩
 have sZ:=h.kR (f:=o.dst.getD 0) Cq mM hg.size (λb Ko _=>hg.v8 b Ko) (λb off u hu=>hg.cell (h.pM b off u hu)) (λb lW=>by simp [IN] at lW;exact .inl (by omega));exact Ua (s:= .sc (.own (o.dst.getD 0))) hg cy sZ (hg.trans h.cP _) (.of (wR rfl) trivial) hK
end
end Dn
/-
  Variables that are handed to functions. Conditions: none.
-/
namespace Dn
open Go
def Tn:List (Nat×Nat)->Nat->Nat
 |[],_=>0
 |(f,x)::r,g=>if f=g then x else Tn r g
def M6 (E:Nat->Value)(ps:List (Nat×Nat))(f:Nat):Value:=match Tn ps f with
 |0=> .slice none 0 0
 |g+1=>E g
structure M7 (ps:List (Nat×Nat)):Prop where
 fn: ∀f x y,(f,x)∈ps->(f,y)∈ps->x=y
 inj: ∀f f' g,(f,g+1)∈ps->(f',g+1)∈ps->f=f'
theorem M7.nil:M7 []:=⟨λ_ _ _ h=>by simp at h,λ_ _ _ h=>by simp at h⟩
theorem AS {ps:List (Nat×Nat)}(h:M7 ps){f x:Nat}(hm:(f,x)∈ps):Tn ps f=x:=by
 have hfn:=h.fn;clear h;induction ps with
 |nil=>simp at hm
 |cons p ps ih=>
  obtain ⟨a,b⟩:=p;unfold Tn;by_cases ha:a=f
  ·subst ha;rw [if_pos rfl];exact hfn a b x (by simp) hm
  ·rw [if_neg ha];rcases AI.1 hm with h1|h1
   ·simp only [aaD] at h1;exact absurd h1.1.symm ha
   ·exact ih h1 (λf x y h1 h2=>hfn f x y (by simp [h1]) (by simp [h2]))
theorem Rv {ps:List (Nat×Nat)}{f g:Nat}(h:nZ ps f g=true):(∀b,(f,b)∈ps->b=g/\g≠0)/\(∀x,(x,g)∈ps->x≠f->g=0):=by
 induction ps with
 |nil=>simp
 |cons p ps ih=>
  obtain ⟨x,y⟩:=p;simp only [nZ,sh,eH] at h;obtain ⟨h1,h2⟩:=h;obtain ⟨i1,i2⟩:=ih h2;refine ⟨?_,?_⟩
  ·intro b hb;rcases AI.1 hb with hb|hb
   ·cases hb;simp at h1;exact ⟨h1.1,h1.2⟩
   ·exact i1 b hb
  ·intro z hz dS;rcases AI.1 hz with hz|hz
   ·cases hz;simp [dS] at h1;exact h1
   ·exact i2 z hz dS
theorem M7.add {ps:List (Nat×Nat)}{f g:Nat}(h:M7 ps)(hp:nZ ps f g=true):M7 ((f,g)::ps):=by
 obtain ⟨p1,p2⟩:=Rv hp;refine ⟨λa x y hx hy=> ?_,λa b k hx hy=> ?_⟩
 ·rcases AI.1 hx with hx|hx<;>rcases AI.1 hy with hy|hy
  ·cases hx;cases hy;rfl
  ·cases hx;exact (p1 y hy).1.symm
  ·cases hy;exact (p1 x hx).1
  ·exact h.fn a x y hx hy
 ·rcases AI.1 hx with HM|HM<;>rcases AI.1 hy with hy1|hy1
  ·cases HM;cases hy1;rfl
  ·cases HM;by_cases hb:b=f
   ·exact hb.symm
   ·have:=p2 b hy1 hb;omega
  ·cases hy1;by_cases hb:a=f
   ·exact hb
   ·have:=p2 a HM hb;omega
  ·exact h.inj a b k HM hy1
inductive TC (st:St):List (Nat×Nat)->List LK->List aJ->List MV->List (Nat×Nat)->Prop
 |nil (ps):TC st ps [] [] [] ps
 |M8 {ps ks ls ms kM}:TC st ps ks ls ms kM->TC st ps (.k .l::ks) (.nil::ls) (.list []::ms) kM
 |hs {ps ks ls ms kM} (x:lp):TC st ps ks ls ms kM->TC st ps (.k .h::ks) (.hs x::ls) (.h x::ms) kM
 |p {ps ks ls ms kM} (x:Kd) (m:MV) (l':aJ):lq x m some=some l'->TC st ps ks ls ms kM->TC st ps (.k x::ks) (.p m::ls) (m::ms) kM
 |own {ps ks ls ms kM} (f ty:Nat) (eX:Bool) (g:Nat) (o:pH):aT st.bn g=some o->o.ty=ty->(o.eX=true->eX=true)->g∉st.cV->nZ ps f (g+1)=true-> TC st ((f,g+1)::ps) ks ls ms kM->TC st ps (.own f ty eX::ks) (.own g::ls) (.list o.xs::ms) kM
 |xV {ps ks ls ms kM} (f ty:Nat) (eX:Bool):nZ ps f 0=true->TC st ((f,0)::ps) ks ls ms kM->TC st ps (.own f ty eX::ks) (.nil::ls) (.list []::ms) kM
theorem H2 {R:Type}{k:Kd}{m:MV}{l:aJ}{K:aJ->Option R}(h:lq k m some=some l):lq k m K=K l:=by
 unfold lq gB gI gS gL gH gR at h⊢;cases k<;>cases m<;>simp at h⊢ <;>try (subst h;rfl)
 ·rename_i k k' n;by_cases hk:k'=k
  ·simp [hk] at h⊢;subst h;rfl
  ·simp [hk] at h
theorem AU {R:Type}{r:R}{k:Kd}{m:MV}{K:aJ->Option R}(h:lq k m K=some r): ∃l,lq k m some=some l/\K l=some r:=by
 unfold lq gB gI gS gL gH gR at h⊢;cases k<;>cases m<;>simp at h⊢ <;>try exact h
 ·rename_i k k' n;by_cases hk:k'=k
  ·simp [hk] at h⊢;exact h
  ·simp [hk] at h
theorem H3 {st:St}{ks:List LK}: ∀{R:Type} {r:R} {ps:List (Nat×Nat)} {ls:List aJ} {K':List MV->List (Nat×Nat)->Option R},mf st ps ks ls K'=some r-> ∃ms kM,TC st ps ks ls ms kM/\K' ms kM=some r:=by
 induction ks with
 |nil=>
  intro R r ps ls K' h;cases ls with
  |nil=>exact ⟨[],ps,.nil ps,h⟩
  |cons=>simp [mf] at h
 |cons k ks ih=>
  intro R r ps ls K' h;cases ls with
  |nil=>simp [mf] at h
  |cons l ls=>
   simp only [mf] at h;unfold MK at h;split at h
   ·obtain ⟨ms,kM,h1,h⟩:=ih h;exact ⟨_,_,.M8 h1,h⟩
   ·obtain ⟨ms,kM,h1,h⟩:=ih h;exact ⟨_,_,.hs _ h1,h⟩
   ·obtain ⟨l',h0,h⟩:=AU h;obtain ⟨ms,kM,h1,h⟩:=ih h;exact ⟨_,_,.p _ _ l' h0 h1,h⟩
   ·rename_i f ty eX g;cases ho:aT st.bn g with
    |none=>simp [ho] at h
    |some o=>
     simp only [ho] at h;cases hc:!BY o.ty ty||(o.eX&&!eX)||bL st.cV g||!nZ ps f (g+1) with
     |true=>simp [hc] at h
     |false=>
      simp only [hc,cond_false] at h;simp only [IT,abb] at hc;obtain ⟨⟨⟨h1,h2⟩,h3⟩,h4⟩:=hc;obtain ⟨ms,kM,h5,h⟩:=ih h;refine ⟨_,_,.own f ty eX g o ho (eJ h1) ?_ ?_ h4 h5,h⟩
      ·intro hz;rw [hz] at h2;simpa using h2
      ·rw [<-bU,h3];simp
   ·rename_i f ty eX;cases hc:nZ ps f 0 with
    |false=>simp [hc] at h
    |true=>simp only [hc,cond_true] at h;obtain ⟨ms,kM,h5,h⟩:=ih h;exact ⟨_,_,.xV f ty eX hc h5,h⟩
   ·simp at h
theorem TC.ps {st:St}{ps kM:List (Nat×Nat)}{ks:List LK}{ls:List aJ}{ms:List MV}(h:TC st ps ks ls ms kM):M7 ps->M7 kM/\ ∀p∈ps,p∈kM:=by
 induction h with
 |nil=>exact λh=>⟨h,λ_ h=>h⟩
 |M8 _ ih=>exact ih
 |hs _ _ ih=>exact ih
 |p _ _ _ _ _ ih=>exact ih
 |own f ty eX g o _ _ _ _ hp _ ih=>intro h;obtain ⟨h1,h2⟩:=ih (h.add hp);exact ⟨h1,λp hm=>h2 p (by simp [hm])⟩
 |xV f ty eX hp _ ih=>intro h;obtain ⟨h1,h2⟩:=ih (h.add hp);exact ⟨h1,λp hm=>h2 p (by simp [hm])⟩
def ag2 (st:St)(ps:List (Nat×Nat))(ks:List LK)(f:Nat)(o:pH):Prop:=LK.own f o.ty o.eX∈ks/\((∃g o3,(f,g+1)∈ps/\aT st.bn g=some o3/\o3.ty=o.ty/\o3.xs=o.xs/\(o3.eX=true->o.eX=true)/\g∉st.cV)\/((f,0)∈ps/\o.xs=[]))
theorem aaz {e:Env}{st:St}{psF:List (Nat×Nat)}(BO:M7 psF){ps kM:List (Nat×Nat)}{ks:List LK}{ls:List aJ}{ms:List MV}(h:TC st ps ks ls ms kM)(he:e.m=st.bn):(∀p∈kM,p∈psF)-> ∀{vs:List Value},aC e vs ls-> ∀(m0:List (Nat×pH)),∃cs m1,(∀{R:Type} (K:List aJ->List MV->St->Option R) (rest:List MV),dq ⟨[],[],[],m0⟩ ks (ms++rest) K=K cs rest ⟨[],[],[],m1⟩)/\ (∀e2:Env,e2.key=e.key->e2.φ=e.φ->(∀f,e2.E f=M6 e.E psF f)->aC e2 vs cs)/\(∀f o,aT m1 f=some o->aT m0 f=some o\/ag2 st psF ks f o):=by
 induction h with
 |nil=>intro _ vs hl m0;cases hl;exact ⟨[],m0,λK rest=>rfl,λe2 _ _ _=>rfl,λf o h=> .inl h⟩
 |M8 _ ih=>
  intro kC vs hl m0;obtain ⟨v,u,rfl,h1,h2⟩:=hl;obtain ⟨cs,m1,g1,g2,g3⟩:=ih kC h2 m0;have h1:v=[.slice none 0 0]:=h1;subst h1;refine ⟨.p (.list [])::cs,m1,λK rest=> ?_,λe2 q1 q2 q3=>⟨_,u,rfl,⟨rfl,.list none 0 [] 0 0 0 (λ_=>[]) (by simp) (by simp) (by simp) (by simp) (by simp)⟩,g2 e2 q1 q2 q3⟩,λf o h=> ?_⟩
  ·show dq _ _ _ _=_;simp only [dq,gC,aaS,mI,lq,gL];exact g1 _ rest
  ·rcases g3 f o h with h|⟨h,h'⟩
   ·exact .inl h
   ·exact .inr ⟨aas _ h,h'⟩
 |hs x _ ih=>
  intro kC vs hl m0;obtain ⟨v,u,rfl,h1,h2⟩:=hl;obtain ⟨cs,m1,g1,g2,g3⟩:=ih kC h2 m0;refine ⟨.hs x::cs,m1,λK rest=> ?_,λe2 q1 q2 q3=>⟨v,u,rfl,h1,g2 e2 q1 q2 q3⟩,λf o h=> ?_⟩
  ·simp only [dq,gC,aaS,mI,lq,gH];exact g1 _ rest
  ·rcases g3 f o h with h|⟨h,h'⟩
   ·exact .inl h
   ·exact .inr ⟨aas _ h,h'⟩
 |p x m l' h0 _ ih=>
  intro kC vs hl m0;obtain ⟨v,u,rfl,h1,h2⟩:=hl;obtain ⟨cs,m1,g1,g2,g3⟩:=ih kC h2 m0;refine ⟨l'::cs,m1,λK rest=> ?_,λe2 q1 q2 q3=>⟨v,u,rfl,?_,g2 e2 q1 q2 q3⟩,λf o h=> ?_⟩
  ·simp only [dq,gC,aaS,mI,H2 h0];exact g1 _ rest
  ·obtain ⟨l2,hs,hk⟩:=oY (e:=e2) (vs:=v) h0;cases hk;exact hs.rep (by rw [q1,q2];exact h1.2)
  ·rcases g3 f o h with h|⟨h,h'⟩
   ·exact .inl h
   ·exact .inr ⟨aas _ h,h'⟩
 |own f ty eX g o ho kz hfz hg hp ht ih=>
  intro kC vs hl m0;obtain ⟨v,u,rfl,h1,h2⟩:=hl;obtain ⟨cs,m1,g1,g2,g3⟩:=ih kC h2 (ck m0 f ⟨ty,eX,o.xs⟩);have zf:(f,g+1)∈psF:=kC _ (by
   have:=(ht.ps)
   clear this;exact (show∀{ps kM:List (Nat×Nat)} {ks:List LK} {ls:List aJ} {ms:List MV},TC st ps ks ls ms kM-> ∀p∈ps,p∈kM from by
    intro ps kM ks ls ms h;induction h with
    |nil=>exact λ_ h=>h
    |M8 _ ih=>exact ih
    |hs _ _ ih=>exact ih
    |p _ _ _ _ _ ih=>exact ih
    |own _ _ _ _ _ _ _ _ _ _ _ ih=>exact λp hm=>ih p (by simp [hm])
    |xV _ _ _ _ _ ih=>exact λp hm=>ih p (by simp [hm])) ht _ (by simp))
  obtain ⟨x,rfl,hx,hE⟩:=h1;have hE:=hE o (by rw [he];exact ho);refine ⟨.own f::cs,m1,λK rest=> ?_,λe2 q1 q2 q3=>⟨[x],u,rfl,⟨x,rfl,hx,λo2 _=> ?_⟩,g2 e2 q1 q2 q3⟩,λf2 o2 h=> ?_⟩
  ·simp only [dq,gC,aaS,mI,gL,pL];exact g1 _ rest
  ·rw [q3 f,M6,AS BO zf,hE]
  ·rcases g3 f2 o2 h with h|⟨h,h'⟩
   ·rw [bw] at h;by_cases gl:f2=f
    ·subst gl;simp only [if_true,AT] at h;subst h;exact .inr ⟨by simp,.inl ⟨g,o,zf,ho,kz,rfl,hfz,hg⟩⟩
    ·rw [if_neg gl] at h;exact .inl h
   ·exact .inr ⟨aas _ h,h'⟩
 |xV f ty eX hp ht ih=>
  intro kC vs hl m0;obtain ⟨v,u,rfl,h1,h2⟩:=hl;obtain ⟨cs,m1,g1,g2,g3⟩:=ih kC h2 (ck m0 f ⟨ty,eX,[]⟩);have zf:(f,0)∈psF:=kC _ ((show∀{ps kM:List (Nat×Nat)} {ks:List LK} {ls:List aJ} {ms:List MV},TC st ps ks ls ms kM-> ∀p∈ps,p∈kM from by
   intro ps kM ks ls ms h;induction h with
   |nil=>exact λ_ h=>h
   |M8 _ ih=>exact ih
   |hs _ _ ih=>exact ih
   |p _ _ _ _ _ ih=>exact ih
   |own _ _ _ _ _ _ _ _ _ _ _ ih=>exact λp hm=>ih p (by simp [hm])
   |xV _ _ _ _ _ ih=>exact λp hm=>ih p (by simp [hm])) ht _ (by simp))
  have h1:v=[.slice none 0 0]:=h1;subst h1;refine ⟨.own f::cs,m1,λK rest=> ?_,λe2 q1 q2 q3=>⟨_,u,rfl,⟨_,rfl,rfl,λo2 _=> ?_⟩,g2 e2 q1 q2 q3⟩,λf2 o2 h=> ?_⟩
  ·simp only [dq,gC,aaS,mI,gL,pL];exact g1 _ rest
  ·rw [q3 f,M6,AS BO zf]
  ·rcases g3 f2 o2 h with h|⟨h,h'⟩
   ·rw [bw] at h;by_cases gl:f2=f
    ·subst gl;simp only [if_true,AT] at h;subst h;exact .inr ⟨by simp,.inr ⟨zf,rfl⟩⟩
    ·rw [if_neg gl] at h;exact .inl h
   ·exact .inr ⟨aas _ h,h'⟩
theorem Xj {c:Ctx}{ks:List LK}(h:ke c ks=true): ∀f ty eX,LK.own f ty eX∈ks-> ∃I,c.ti ty=some I/\I.dp=[]:=by
 induction ks with
 |nil=>intro f ty eX hm;simp at hm
 |cons k ks ih=>
  intro f ty eX hm;cases k with
  |k x=>
   simp only [ke] at h;rcases AI.1 hm with hm|hm
   ·cases hm
   ·exact ih h f ty eX hm
  |own f' ty' alf=>
   simp only [ke] at h;cases hI:c.tv ty' with
   |none=>simp [hI] at h
   |some I=>
    simp only [hI] at h;rcases AI.1 hm with hm|hm
    ·cases hm;exact ⟨I,b6 hI⟩
    ·exact ih h f ty eX hm
section
variable {P:Program}{c:Ctx}{Z:bR} {Z':Nat->Prop} {e e':Env}{st b7:St}{a:Act} {w w':World}{R:Type}{K:St->Option R}{r:R}{Q:Exit->Act->World->Prop}{o:Oper}{root:Nat}{cs:List aJ}{ks:List LK}{ls:List MV}{ps:List (Nat×Nat)}
def gone (e:Env)(root:Nat)(ps:List (Nat×Nat))(b:Nat):Prop:=b=e.B root\/ ∃x g,(x,g+1)∈ps/\(e.E g).ownBlock=some b
theorem qU.wide {Z Z2:Nat->Prop} {φ:Ph}{bx:Nat}(h:qU c Z φ w bx ks ls)(hz: ∀b,Z b->Z2 b):qU c Z2 φ w bx ks ls:=by obtain ⟨cs,m,E,arr,T,h1,h2,h3,h4,h5,h6,h7⟩:=h;refine ⟨cs,m,E,arr,T,h1,h2,hz _ h3,h4,h5,λf o ho=>⟨?_,(h6 f o ho).2⟩,h7⟩;obtain ⟨I,cells,g1,g2,g3,g4,g5⟩:=(h6 f o ho).1.row;exact ⟨I,cells,g1,g2,g3,g4,λb hb=>⟨hz _ (g5 b hb).1,(g5 b hb).2⟩⟩
theorem O5 (h:cc c Z e st a w)(hf:aw st.fr root= .box cs)(hm:gM cs=false)(kz:ke c ks=true)(ht:TC st [] ks cs ls ps):qU c (gone e root ps) e.φ w (e.B root) ks ls:=by
 have hs:=h.slot root;rw [hf] at hs;obtain ⟨arr,T,eZ,sV⟩:=hs.2.cells hm;obtain ⟨BO,_⟩:=ht.ps .nil;obtain ⟨qC,m1,g1,g2,g3⟩:=aaz BO ht h.m (λp hp=>hp) sV [];have hl:=g2 ⟨c.key,e.φ,M6 e.E ps,λ_=>e.B root,m1⟩ h.key.symm rfl (λ_=>rfl);have hE: ∀{f g:Nat},(f,g+1)∈ps->M6 e.E ps f=e.E g:=λhm=>by rw [M6,AS BO hm]
 have hE0: ∀{f:Nat},(f,0)∈ps->M6 e.E ps f= .slice none 0 0:=λhm=>by rw [M6,AS BO hm]
 have zQ: ∀f o,aT m1 f=some o->ag2 st ps ks f o:=λf o ho=>(g3 f o ho).resolve_left (by simp [aT]);refine ⟨qC,m1,M6 e.E ps,arr,T,?_,eZ,.inl rfl,hs.2.free,hl,λf o ho=> ?_,λf f' o o' k ho Km hk Tk=> ?_⟩
 ·have:=g1 (λcs rest st=>gN rest (some (cs,st.bn))) [];rw [aeG] at this;exact this
 ·obtain ⟨hk,zv|⟨hp,hx⟩⟩:=zQ f o ho
  ·obtain ⟨g,o3,hp,Rg,ag4,W5,alg,Cq⟩:=zv;obtain ⟨I,cells,q1,q2,q3,q4,q5⟩:=(h.jA g o3 Rg).row;refine ⟨⟨I,cells,by rw [<-ag4];exact q1,q2,by rw [<-ag4,<-W5,hE hp];exact q3,by rw [<-W5];show bB c.key e.φ _ _ _;rw [<-h.key];exact q4,λb hb=>⟨.inr ⟨f,g,hp,by rw [<-hE hp];exact hb⟩,λoff u hu=> ?_,λhc=>hc.elim⟩⟩,?_⟩
   ·obtain ⟨k1,k2⟩:=(q5 b (by rw [<-hE hp];exact hb)).2.1 off u hu;exact ⟨alg k1,by rw [<-W5];exact k2⟩
   ·rw [hE hp];exact h.bf root cs g o3 hf Rg
  ·obtain ⟨I,hI,hIc⟩:=Xj kz f o.ty o.eX hk;refine ⟨⟨I,[],hI,hIc,⟨by rw [hx];simp,.inl ⟨by rw [hE0 hp],by rw [hx];rfl⟩⟩,by rw [hx];rfl,λb hb=> ?_⟩,?_⟩
   ·rw [hE0 hp] at hb;simp [IN] at hb
   ·rw [hE0 hp];simp [IN]
 ·obtain ⟨_,zv|⟨hp,_⟩⟩:=zQ f o ho
  ·obtain ⟨g,o3,hp,Rg,_⟩:=zv;obtain ⟨_,S5|⟨FV,_⟩⟩:=zQ f' o' Km
   ·obtain ⟨g',o3',FV,alh,_⟩:=S5;rw [hE hp] at hk;rw [hE FV] at Tk;have:=h.ff g g' o3 o3' k Rg alh hk Tk;subst this;exact BO.inj _ _ _ hp FV
   ·rw [hE0 FV] at Tk;simp [IN] at Tk
  ·rw [hE0 hp] at hk;simp [IN] at hk
theorem TC.bn (ht:TC st [] ks cs ls ps): ∀x g,(x,g+1)∈ps-> ∃o,aT st.bn g=some o/\g∉st.cV:=by
 have key: ∀{ps0 ps:List (Nat×Nat)} {ks:List LK} {cs:List aJ} {ls:List MV},TC st ps0 ks cs ls ps-> ∀x g,(x,g+1)∈ps->(x,g+1)∈ps0\/ ∃o,aT st.bn g=some o/\g∉st.cV:=by
  intro ps0 ps ks cs ls h;induction h with
  |nil=>exact λx g hm=> .inl hm
  |M8 _ ih=>exact ih
  |hs _ _ ih=>exact ih
  |p _ _ _ _ _ ih=>exact ih
  |own f ty eX g0 o ho _ _ hg _ _ ih=>
   intro x g hm;rcases ih x g hm with h|h
   ·rcases AI.1 h with h|h
    ·simp only [aaD,ab6] at h;obtain ⟨rfl,rfl⟩:=h;exact .inr ⟨o,ho,hg⟩
    ·exact .inl h
   ·exact .inr h
  |xV f ty eX _ _ ih=>
   intro x g hm;rcases ih x g hm with h|h
   ·rcases AI.1 h with h|h
    ·simp at h
    ·exact .inl h
   ·exact .inr h
 intro x g hm;exact (key ht x g hm).resolve_left (by simp)
def tT (gs:List Nat)(m:List (Nat×pH)):List (Nat×pH):=m.filter λp=>!bL gs p.1
theorem Xk (gs:List Nat)(m:List (Nat×pH))(K:List (Nat×pH)->Option R):OC gs m K=K (tT gs m):=by
 induction m generalizing K with
 |nil=>rfl
 |cons p m ih=>obtain ⟨k,o⟩:=p;simp only [OC,tT,aea];cases bL gs k<;>simp [ih,tT]
theorem Rw (gs:List Nat)(m:List (Nat×pH))(f:Nat):aT (tT gs m) f=if bL gs f then none else aT m f:=by
 induction m with
 |nil=>simp [tT,aT]
 |cons p m ih=>
  obtain ⟨k,o⟩:=p;simp only [tT,aea] at ih⊢;cases hk:bL gs k with
  |true=>
   simp only [aeL,aaR,if_false,ih,aT,eH];by_cases hkf:k=f
   ·subst hkf;simp [hk]
   ·simp [hkf]
  |false=>
   simp only [Bool.not_false,if_true,aT,eH];by_cases hkf:k=f
   ·subst hkf;simp [hk]
   ·simp only [hkf,decide_false,cond_false];exact ih
def wU (fs:List Nat)(r:Fr):Fr:=fs.foldl (λr f=>mw f r) r
def H4 (fs:List Nat)(s:Slot):Slot:=fs.foldl (λs f=>BK f s) s
theorem aaA (fs:List Nat)(r:Fr)(K:Fr->Option R):Z7 fs r K=K (wU fs r):=by
 induction fs generalizing r with
 |nil=>rfl
 |cons f fs ih=>simp only [Z7,Ww];exact ih _
theorem Rx (fs:List Nat)(r:Fr)(t:Nat):aw (wU fs r) t=H4 fs (aw r t):=by
 induction fs generalizing r with
 |nil=>rfl
 |cons f fs ih=>show aw (wU fs (mw f r)) t=H4 fs (BK f (aw r t));rw [ih,iQ]
theorem Ry (fs:List Nat)(r:Fr):aV (wU fs r)=aV r:=by
 induction fs generalizing r with
 |nil=>rfl
 |cons f fs ih=>show aV (wU fs (mw f r))=_;rw [ih];simp [aV,mw]
theorem ah.ag6 {v:Value}{s:Slot}(fs:List Nat)(h:ah e v s):ah e v (H4 fs s):=by
 induction fs generalizing s with
 |nil=>exact h
 |cons f fs ih=>exact ih (h.kill f)
theorem H5 {S:Nat->Prop}(f:Nat){l:aJ}(h:kw S l):kw (λg=>S g/\g≠f) (Oi f l):=by intro g hg;refine ⟨?_,HC f l g hg⟩;cases l<;>simp [Oi] at hg;rename_i g';cases hb:BY g' f<;>simp [hb] at hg;subst hg;exact h _ rfl
theorem Xl {S T:Nat->Prop}(f:Nat){s:Slot}(h:gQ S T s):gQ (λg=>S g/\g≠f) T (BK f s):=by
 cases s with
 |sc l=>exact H5 f h
 |ag cs=>intro l hl;obtain ⟨x,hx,rfl⟩:=aba.1 hl;exact H5 f (h x hx)
 |ep g i o b cs=>
  simp only [BK];cases hb:BY g f
  ·simp only [cond_false,gQ];refine ⟨h,λe=> ?_⟩;subst e;simp [eH] at hb
  ·simp only [cond_true,gQ];intro g' hg';cases hg'
 |box cs=>trivial
 |_=>exact h
theorem aaB {S T:Nat->Prop}(fs:List Nat){s:Slot}(h:gQ S T s):gQ (λg=>S g/\g∉fs) T (H4 fs s):=by
 induction fs generalizing S s with
 |nil=>
  have:(λg=>S g/\g∉([]:List Nat))=S:=by funext g;simp
  rw [this];exact h
 |cons f fs ih=>
  have h2:=ih (Xl f h);have:(λg=>(S g/\g≠f)/\g∉fs)=(λg=>S g/\g∉f::fs):=by funext g;simp [and_assoc]
  rw [<-this];exact h2
def Xm (fs:List Nat)(cs:List aJ):List aJ:=fs.foldl (λcs f=>cs.map (Oi f)) cs
theorem Xn (fs:List Nat)(cs:List aJ):H4 fs (.box cs)= .box (Xm fs cs):=by
 induction fs generalizing cs with
 |nil=>rfl
 |cons f fs ih=>exact ih _
theorem F6 (fs:List Nat){s:Slot}{ds:List aJ}(h:H4 fs s= .box ds): ∃cs,s= .box cs/\ds=Xm fs cs:=by
 induction fs generalizing s with
 |nil=>exact ⟨ds,h,rfl⟩
 |cons f fs ih=>
  obtain ⟨cs,h1,h2⟩:=ih (s:=BK f s) h;cases s<;>simp only [BK] at h1<;>first|(cases h1;done)|skip
  ·rename_i GP;simp only [Slot.box.injEq] at h1;exact ⟨GP,rfl,by rw [h2,<-h1];rfl⟩
  ·rename_i g i o b c0;cases hb:BY g f<;>simp [hb] at h1
theorem Xo {fs:List Nat}{o:Obj}{cs:List aJ}(h:kT e o cs):kT e o (Xm fs cs):=by
 induction fs generalizing cs with
 |nil=>exact h
 |cons f fs ih=>exact ih (h.map (λ_ _=>aY.kill f) (λ_ _=>rfl))
theorem aaC {S:Nat->Prop}(fs:List Nat){cs:List aJ}(h: ∀l∈cs,kw S l): ∀l∈Xm fs cs,kw (λg=>S g/\g∉fs) l:=by
 induction fs generalizing S cs with
 |nil=>
  have:(λg=>S g/\g∉([]:List Nat))=S:=by funext g;simp
  rw [this];exact h
 |cons f fs ih=>
  have h2:=ih (S:=λg=>S g/\g≠f) (cs:=cs.map (Oi f)) (λl hl=>by obtain ⟨x,hx,rfl⟩:=aba.1 hl;exact H5 f (h x hx));have:(λg=>(S g/\g≠f)/\g∉fs)=(λg=>S g/\g∉f::fs):=by funext g;simp [and_assoc]
  rw [<-this];exact h2
theorem Ut (fs:List Nat)(cs:List aJ):mH (Xm fs cs)=mH cs:=by
 induction fs generalizing cs with
 |nil=>rfl
 |cons f fs ih=>exact (ih _).trans (Ra f cs)
theorem Rz {fs:List Nat}{m:List (Nat×pH)}(h:OD fs m=false): ∀f∈fs,aT m f=none:=by
 induction fs with
 |nil=>simp
 |cons f fs ih=>
  intro g hg;unfold OD at h;cases ho:aT m f with
  |some o=>simp [ho] at h
  |none=>
   simp only [ho] at h;rcases AI.1 hg with rfl|hg
   ·exact ho
   ·exact ih h g hg
theorem RB {l k:List Nat}(h:meets l k=false): ∀f∈l,f∉k:=by
 induction l with
 |nil=>simp
 |cons x l ih=>
  intro g hg;unfold meets at h;cases hx:bL k x with
  |true=>simp [hx] at h
  |false=>
   simp only [hx,cond_false] at h;rcases AI.1 hg with rfl|hg
   ·intro hm;rw [(bU k g).2 hm] at hx;cases hx
   ·exact ih h g hg
theorem O6 {ps:List (Nat×Nat)}{g:Nat}:g∈lT ps↔ ∃x,(x,g+1)∈ps:=by
 induction ps with
 |nil=>simp [lT]
 |cons p ps ih=>
  obtain ⟨x,y⟩:=p;cases y with
  |zero=>
   simp only [lT,ih];constructor
   ·rintro ⟨z,hz⟩;exact ⟨z,by simp [hz]⟩
   ·rintro ⟨z,hz⟩;rcases AI.1 hz with hz|hz
    ·simp at hz
    ·exact ⟨z,hz⟩
  |succ y=>
   simp only [lT,AI,ih];constructor
   ·rintro (rfl|⟨z,hz⟩)
    ·exact ⟨x,by simp⟩
    ·exact ⟨z,by simp [hz]⟩
   ·rintro ⟨z,hz⟩;rcases hz with hz|hz
    ·simp only [aaD,ab6] at hz;exact .inl hz.2
    ·exact .inr ⟨z,hz⟩
theorem mO {ks:List LK}: ∀{R:Type} {r:R} {st:St} {ms:List MV} {K':List aJ->List MV->St->Option R},dq st ks ms K'=some r-> ∃cs rest b7,(∀{R':Type} (K2:List aJ->List MV->St->Option R'),dq st ks ms K2=K2 cs rest b7)/\K' cs rest b7=some r:=by
 induction ks with
 |nil=>intro R r st ms K' h;exact ⟨[],ms,st,λ_=>rfl,h⟩
 |cons k ks ih=>
  intro R r st ms K' h;cases ms with
  |nil=>simp [dq,gC] at h
  |cons m ms=>
   simp only [dq,gC] at h;cases k with
   |k x=>simp only [mI] at h;obtain ⟨l,h0,h⟩:=AU h;obtain ⟨cs,rest,b7,h1,h⟩:=ih h;refine ⟨l::cs,rest,b7,λK2=> ?_,h⟩;simp only [dq,gC,mI,H2 h0];exact h1 _
   |own f ty eX=>
    unfold mI gL at h;cases m<;>simp only at h<;>try (cases h;done)
    rename_i xs;obtain ⟨p,q,fr,n⟩:=st;simp only [pL] at h;obtain ⟨cs,rest,b7,h1,h⟩:=ih h;refine ⟨.own f::cs,rest,b7,λK2=> ?_,h⟩;simp only [dq,gC,mI,gL,pL];exact h1 _
theorem Uu (m n:List (Nat×pH))(f:Nat):aT (m++n) f=match aT m f with|some o=>some o|none=>aT n f:=by
 induction m with
 |nil=>rfl
 |cons p m ih=>obtain ⟨k,o⟩:=p;simp only [aaS,aT,eH];by_cases h:k=f<;>simp [h,ih]
theorem M9 {ks:List LK}: ∀{st:St} {ms:List MV} {cs:List aJ} {rest:List MV} {b7:St},(∀{R':Type} (K2:List aJ->List MV->St->Option R'),dq st ks ms K2=K2 cs rest b7)-> ∀f o,aT b7.bn f=some o->aT st.bn f=some o\/f∈cE ks:=by
 induction ks with
 |nil=>intro st ms cs rest b7 h f o ho;have:=h (λa b c=>some c);simp only [dq,AT] at this;subst this;exact .inl ho
 |cons k ks ih=>
  intro st ms cs rest b7 h f o ho;have h0:=h (λa b c=>some (a,b,c));obtain ⟨qC,aoP,dV,h1,h2⟩:=mO h0;clear h1;cases ms with
  |nil=>simp [dq,gC] at h0
  |cons m ms=>
   cases k with
   |k x=>simp only [dq,gC,mI] at h0;obtain ⟨l,h3,h4⟩:=AU h0;obtain ⟨xH,Xp,qD,h5,h6⟩:=mO h4;simp only [AT,aaD] at h6;obtain ⟨_,_,rfl⟩:=h6;exact ih h5 f o ho
   |own f' ty eX=>
    simp only [dq,gC] at h0;unfold mI gL at h0;cases m<;>simp only at h0<;>try (cases h0;done)
    rename_i xs;obtain ⟨p,q,fr,n⟩:=st;simp only [pL] at h0;obtain ⟨xH,Xp,qD,h5,h6⟩:=mO h0;simp only [AT,aaD] at h6;obtain ⟨_,_,rfl⟩:=h6;rcases ih h5 f o ho with h7|h7
    ·have h7:aT (ck n f' ⟨ty,eX,xs⟩) f=some o:=h7;rw [bw] at h7;by_cases gl:f=f'
     ·subst gl;exact .inr (by simp [cE])
     ·rw [if_neg gl] at h7;exact .inl h7
    ·exact .inr (by simp [cE,h7])
end
end Dn
/-
  Calls that are handed a variable. Conditions: none.
-/
namespace Dn
open Go
theorem H6 {ks:List LK}: ∀{st:St} {ms:List MV} {cs:List aJ} {rest:List MV} {b7:St},(∀{R':Type} (K2:List aJ->List MV->St->Option R'),dq st ks ms K2=K2 cs rest b7)-> ∀l∈cs,kw (λf=>f∈cE ks) l:=by
 induction ks with
 |nil=>intro st ms cs rest b7 h l hl;have:=h (λa b c=>some a);simp only [dq,AT] at this;subst this;simp at hl
 |cons k ks ih=>
  intro st ms cs rest b7 h l hl;have h0:=h (λa b c=>some (a,b,c));cases ms with
  |nil=>simp [dq,gC] at h0
  |cons m ms=>
   cases k with
   |k x=>
    simp only [dq,gC,mI] at h0;obtain ⟨l0,h3,h4⟩:=AU h0;obtain ⟨xH,Xp,qD,h5,h6⟩:=mO h4;simp only [AT,aaD] at h6;obtain ⟨rfl,_,_⟩:=h6;rcases AI.1 hl with rfl|hl
    ·obtain ⟨l2,hs,hk⟩:=oY (e:=⟨λn=>n,λ_ _=>none,λ_=>undef,λ_=>0,[]⟩) (vs:=[]) h3;cases hk;exact HB hs.VM
    ·exact ih h5 l hl
   |own f' ty eX=>
    simp only [dq,gC] at h0;unfold mI gL at h0;cases m<;>simp only at h0<;>try (cases h0;done)
    rename_i xs;obtain ⟨p,q,fr,n⟩:=st;simp only [pL] at h0;obtain ⟨xH,Xp,qD,h5,h6⟩:=mO h0;simp only [AT,aaD] at h6;obtain ⟨rfl,_,_⟩:=h6;rcases AI.1 hl with rfl|hl
    ·intro f hf;cases hf;simp [cE]
    ·intro f hf;have:=ih h5 l hl f hf;simp [cE,this]
section
variable {P:Program}{c:Ctx}{Z:bR} {Z':Nat->Prop} {e e':Env}{st b7:St}{a:Act} {w w':World}{R:Type}{K:St->Option R}{r:R}{Q:Exit->Act->World->Prop}{o:Oper}{root:Nat}{cs:List aJ}{ks:List LK}{ls outs:List MV}{ps:List (Nat×Nat)} {φ':Ph}
theorem O7 {fr:Fr}(fs:List Nat){s:Slot}(h:cS fr s):cS fr (H4 fs s):=by
 induction fs generalizing s with
 |nil=>exact h
 |cons f fs ih=>
  refine ih ?_;cases s with
  |ep g i o b cs=>simp only [BK];cases BY g f<;>trivial
  |ptr=>exact h
  |hp=>exact h
  |zC=>exact h
  |_=>trivial
theorem RC (fs:List Nat){s:Slot}(h:di s=true):di (H4 fs s)=true:=by
 induction fs generalizing s with
 |nil=>exact h
 |cons f fs ih=>refine ih (s:=BK f s) ?_;rw [E3];exact h
theorem Na (h:cc c Z e st a w)(hf:aw st.fr root= .box cs)(hr:bL st.cJ root=false)(ht:TC st [] ks cs ls ps): ∀b,gone e root ps b->Z.In b:=by
 have hs:=h.slot root;rw [hf] at hs;intro b hb;rcases hb with rfl|⟨x,g,hp,hb⟩
 ·exact Oj hs.2.cP (by rw [<-h.defers.2.1,<-bU,hr];simp)
 ·obtain ⟨o,ho,hg⟩:=ht.bn x g hp;obtain ⟨I,cells,_,_,_,_,h5⟩:=(h.jA g o ho).row;exact Oj (h5 b hb).1 (by rw [<-h.defers.2.2.1];exact hg)
theorem Xq (h:cc c Z e st a w)(hf:aw st.fr root= .box cs)(hm:gM cs=false)(hr:bL st.cJ root=false)(ht:TC st [] ks cs ls ps)(hZ: ∀b,Z' b↔w.heap.size<=b\/gone e root ps b)(F3:Trans Z' e.φ w φ' w')(hi:Du φ' w')(hc:qU c Z' φ' w' (e.B root) ks outs)(hK:Wj st root ks ps outs K=some r): ∃e' b7,cc c Z e' b7 a w'/\e'.φ=φ'/\K b7=some r:=by
 unfold Wj at hK;obtain ⟨qC,rest,Ht,g1,hK⟩:=mO hK;cases rest with
 |cons=>simp [gN] at hK
 |nil=>
 simp only [gN,Xk] at hK;cases wV:OD (cE ks) (tT (lT ps) st.bn)||meets (cE ks) st.cV with
 |true=>simp [wV] at hK
 |false=>
 simp only [wV,cond_false,aaA,oK,zG] at hK;obtain ⟨adX,Xr⟩:=IT.1 wV;have adX:=Rz adX;have Xr:=RB Xr;obtain ⟨xH,m3,E,arr,T,H7,eZ,hzb,vj,sV,mM,gl⟩:=hc;have jC:xH=qC/\m3=Ht.bn:=by unfold W7 at H7;rw [g1] at H7;simp only [gN,AT,aaD] at H7;exact ⟨H7.1.symm,H7.2.symm⟩
 obtain ⟨rfl,rfl⟩:=jC;have fT:=H6 g1;have kC: ∀f o,aT Ht.bn f=some o->f∈cE ks:=λf o ho=>(M9 g1 f o ho).resolve_left (by simp [aT]);have hs:=h.slot root;rw [hf] at hs;have zf: ∀b,Z' b->Z.In b:=by
  intro b hb;rcases (hZ b).1 hb with hb|hb
  ·exact h.cP b hb
  ·exact Na h hf hr ht b hb
 have acn: ∀t kh,aw st.fr t= .box kh->t≠root-> ¬Z' (e.B t):=by
  intro t kh htb dS hz;rcases (hZ _).1 hz with hz|hz|⟨x,g,hp,hz⟩
  ·have:=E4 h htb;omega
  ·exact h.bb t root kh cs htb hf dS hz
  ·obtain ⟨o,ho,_⟩:=ht.bn x g hp;exact h.bf t kh g o htb ho hz
 have hold: ∀f o,aT (tT (lT ps) st.bn) f=some o->aT st.bn f=some o/\f∉lT ps:=by
  intro f o ho;rw [Rw] at ho;cases hn:bL (lT ps) f with
  |true=>simp [hn] at ho
  |false=>simp only [hn,aaR,if_false] at ho;exact ⟨ho,λhm=>by rw [(bU _ _).2 hm] at hn;cases hn⟩
 have To: ∀f o b,aT (tT (lT ps) st.bn) f=some o->(e.E f).ownBlock=some b-> ¬Z' b:=by
  intro f o b ho hb hz;obtain ⟨Km,hnf⟩:=hold f o ho;rcases (hZ _).1 hz with hz|hz|⟨x,g,hp,hz⟩
  ·have:=E5 h Km hb;omega
  ·exact h.bf root cs f o hf Km (by rw [hb,hz])
  ·obtain ⟨o2,cU,_⟩:=ht.bn x g hp;have:=h.ff f g o o2 b Km cU hb hz;subst this;exact hnf (O6.2 ⟨x,hp⟩)
 let E2:Nat->Value:=λf=>if bL (cE ks) f=true then E f else e.E f
 have FZ: ∀f,f∈cE ks->E2 f=E f:=λf hf=>by show (if _ then _ else _)=_;rw [if_pos ((bU _ _).2 hf)]
 have hE3: ∀f,f∉cE ks->E2 f=e.E f:=λf hf=>by show (if _ then _ else _)=_;rw [if_neg (λhq=>hf ((bU _ _).1 hq))]
 have tS: ∀f o,aT (Ht.bn++tT (lT ps) st.bn) f=some o->(f∈cE ks/\aT Ht.bn f=some o)\/(f∉cE ks/\aT (tT (lT ps) st.bn) f=some o):=by
  intro f o ho;rw [Uu] at ho;cases hq:aT Ht.bn f with
  |some o2=>simp only [hq,AT] at ho;exact .inl ⟨kC f o2 hq,by rw [ho]⟩
  |none=>simp only [hq] at ho;refine .inr ⟨λhm=> ?_,ho⟩;rw [adX f hm] at ho;cases ho
 let e2:Env:=⟨e.key,φ',E2,e.B,Ht.bn++tT (lT ps) st.bn⟩
 have xF:n9 (λg=>True/\g∉cE ks) (λ_=>True) e e2:=by
  refine ⟨rfl,F3.ph,λ_ _=>rfl,λf o' Km hS=> ?_⟩;rcases tS f o' Km with ⟨h1,_⟩|⟨h1,h2⟩
  ·exact absurd h1 hS.2
  ·exact ⟨o',by rw [h.m];exact (hold f o' h2).1,hE3 f h1,rfl⟩
 have ag8:aC e2 arr.toList xH:=by
  have alj:n9 (λf=>f∈cE ks) (λ_=>True) ⟨c.key,φ',E,λ_=>e.B root,Ht.bn⟩ ⟨c.key,φ',E2,λ_=>e.B root,Ht.bn++tT (lT ps) st.bn⟩:=by
   refine ⟨rfl,.refl _,λ_ _=>rfl,λf o' Km hS=> ?_⟩;rcases tS f o' Km with ⟨h1,h2⟩|⟨h1,_⟩
   ·exact ⟨o',h2,FZ f h1,rfl⟩
   ·exact absurd hS h1
  have h1:=sV.on alj fT;have alk:n9 (λ_=>True) (λ_=>False) ⟨c.key,φ',E2,λ_=>e.B root,Ht.bn++tT (lT ps) st.bn⟩ e2:=⟨h.key,.refl _,λ_ h=>h.elim,λf o ho _=>⟨o,ho,rfl,rfl⟩⟩
  exact h1.on alk (λ_ _ _ _=>trivial)
 have hm3:gM xH=false:=ag8.zM;have VT: ∀t,aw (dg (wU (cE ks) st.fr) root (.box xH)) t=if t=root then .box xH else H4 (cE ks) (aw st.fr t):=λt=>by rw [cb,Rx]
 have Nb: ∀t ds,aw (dg (wU (cE ks) st.fr) root (.box xH)) t= .box ds-> ∃ds0,aw st.fr t= .box ds0:=by
  intro t ds hb;rw [VT] at hb;by_cases F3:t=root
  ·exact ⟨cs,by rw [F3];exact hf⟩
  ·rw [if_neg F3] at hb;obtain ⟨d0,h1,_⟩:=F6 _ hb;exact ⟨d0,h1⟩
 refine ⟨e2,⟨st.cJ,st.cV,dg (wU (cE ks) st.fr) root (.box xH),Ht.bn++tT (lT ps) st.bn⟩,⟨h.defers,h.size,rfl,h.key,?_,?_,?_,?_,?_,?_,?_,hi,λb hb=>h.cP b (aco F3.size hb)⟩,rfl,hK⟩
 ·show (aV (dg (wU (cE ks) st.fr) root (.box xH))).Nodup;refine fP ?_;rw [Ry];exact h.nodup
 ·intro t;show cz Z e2 w' t _ (aw (dg (wU (cE ks) st.fr) root (.box xH)) t);rw [VT];by_cases Nc:t=root
  ·subst Nc;rw [if_pos rfl];exact ⟨hs.1.mH (by rw [Dj hm,Dj hm3]),hs.2.cP,⟨_,eZ,rfl,ag8⟩,vj⟩
  ·rw [if_neg Nc];have jn:=h.slot t;have hnb:=acn t;generalize aw st.fr t=s at jn hnb;by_cases HR: ∃ds,s= .box ds
   ·obtain ⟨ds,rfl⟩:=HR;rw [Xn];have hz:=hnb ds rfl Nc;obtain ⟨o2,h1,h2⟩:=jn.2.obj;refine ⟨jn.1.mH (Ut _ _),jn.2.cP,⟨o2,by show w'.heap[e.B t]? =_;rw [F3.heap _ hz (bD h1)];exact h1,?_⟩,λoff=>by show φ' (e.B t) off=none;rw [F3.free _ off hz];exact jn.2.free off⟩;exact (Xo h2).on xF (aaC _ (λl _ f _=>trivial))
   ·have alm:ah e (a.tmps.getD t undef) s:=by cases s<;>simp only [cz] at jn<;>first|exact jn|exact absurd ⟨_,rfl⟩ HR
    have h2:=(alm.ag6 (cE ks)).on xF (aaB _ (eP s));have ag9: ∀ds,H4 (cE ks) s≠ .box ds:=λds hq=>by obtain ⟨d0,h1,_⟩:=F6 _ hq;exact HR ⟨d0,h1⟩
    generalize H4 (cE ks) s=s2 at h2 ag9;cases s2<;>first|exact h2|exact absurd rfl (ag9 _)
 ·intro t;show cS (dg (wU (cE ks) st.fr) root (.box xH)) (aw (dg (wU (cE ks) st.fr) root (.box xH)) t);have hbk: ∀q,di (aw st.fr q)=true->di (aw (dg (wU (cE ks) st.fr) root (.box xH)) q)=true:=by
   intro q hq;rw [VT];by_cases hqr:q=root
   ·rw [if_pos hqr];rfl
   ·rw [if_neg hqr];exact RC _ hq
  rw [VT];by_cases Nc:t=root
  ·rw [if_pos Nc];trivial
  ·rw [if_neg Nc];refine O7 _ ?_;have rR:=h.root t;generalize aw st.fr t=s at rR;cases s with
   |ptr q o=>exact hbk q rR
   |hp q o i=>exact hbk q rR
   |zC q=>exact hbk q rR
   |_=>trivial
 ·intro f o ho;rcases tS f o ho with ⟨h1,h2⟩|⟨h1,h2⟩
  ·have hfm:=(mM f o h2).1;have Cq:f∉Z.cV:=by rw [<-h.defers.2.2.1];exact Xr f h1
   refine dW.to ?_ Cq;obtain ⟨I,cells,q1,q2,q3,q4,q5⟩:=hfm.row;refine ⟨I,cells,q1,q2,?_,?_,λb hb=> ?_⟩
   ·show w'.ownsRow 0 o.ty I.size (E2 f) o.xs.length cells;rw [FZ f h1];exact q3
   ·show bB e.key φ' I.size cells o.xs;rw [h.key];exact q4
   ·have hb:(E2 f).ownBlock=some b:=hb;rw [FZ f h1] at hb;exact ⟨zf b (q5 b hb).1,(q5 b hb).2.1,λhc=>hc.elim⟩
  ·obtain ⟨Km,hnf⟩:=hold f o h2;obtain ⟨I,cells,q1,q2,q3,q4,q5⟩:=(h.jA f o Km).row;refine ⟨I,cells,q1,q2,?_,q4.mono F3.ph,?_⟩
   ·show w'.ownsRow 0 o.ty I.size (E2 f) o.xs.length cells;rw [hE3 f h1];refine ⟨q3.1,?_⟩;rcases q3.2 with h6|⟨g,cap,gJ,k1,k2,k3,k4⟩
    ·exact .inl h6
    ·refine .inr ⟨g,cap,gJ,k1,k2,?_,k4⟩;rw [F3.heap g (To f o g h2 (by rw [k1];rfl)) (bD k3)];exact k3
   ·intro bx hb;have hb:(E2 f).ownBlock=some bx:=hb;rw [hE3 f h1] at hb;refine ⟨(q5 bx hb).1,λoff u hu=>(q5 bx hb).2.1 off u ?_,λk1 k2 j hj=>F3.ph.Dh ((q5 bx hb).2.2 k1 k2 j hj) hj⟩;have hu:φ' bx off=some u:=hu;rw [F3.free _ off (To f o bx h2 hb)] at hu;exact hu
 ·intro t t' c1 c2 h1 h2 dS;obtain ⟨d1,k1⟩:=Nb t c1 h1;obtain ⟨d2,k2⟩:=Nb t' c2 h2;exact h.bb t t' d1 d2 k1 k2 dS
 ·intro t c1 f o h1 h2;show (E2 f).ownBlock≠some (e.B t);rcases tS f o h2 with ⟨k1,k2⟩|⟨k1,k2⟩
  ·rw [FZ f k1];by_cases Nc:t=root
   ·rw [Nc];exact (mM f o k2).2
   ·obtain ⟨d1,k3⟩:=Nb t c1 h1;intro hq;obtain ⟨I,cells,_,_,_,_,q5⟩:=(mM f o k2).1.row;exact acn t d1 k3 Nc (q5 _ hq).1
  ·rw [hE3 f k1];obtain ⟨d1,k3⟩:=Nb t c1 h1;exact h.bf t d1 f o k3 (hold f o k2).1
 ·intro f f' o o' k h1 h2 h3 h4;have h3:(E2 f).ownBlock=some k:=h3;have h4:(E2 f').ownBlock=some k:=h4;rcases tS f o h1 with ⟨k1,k2⟩|⟨k1,k2⟩<;>rcases tS f' o' h2 with ⟨k3,k4⟩|⟨k3,k4⟩
  ·rw [FZ f k1] at h3;rw [FZ f' k3] at h4;exact gl f f' o o' k k2 k4 h3 h4
  ·rw [FZ f k1] at h3;rw [hE3 f' k3] at h4;obtain ⟨I,cells,_,_,_,_,q5⟩:=(mM f o k2).1.row;exact absurd (q5 _ h3).1 (To f' o' k k4 h4)
  ·rw [hE3 f k1] at h3;rw [FZ f' k3] at h4;obtain ⟨I,cells,_,_,_,_,q5⟩:=(mM f' o' k4).1.row;exact absurd (q5 _ h4).1 (To f o k k2 h3)
  ·rw [hE3 f k1] at h3;rw [hE3 f' k3] at h4;exact h.ff f f' o o' k (hold f o k2).1 (hold f' o' k4).1 h3 h4
end
end Dn
/-
  The operation of a call that is handed a variable. Conditions: none.
-/
namespace Dn
open Go
section
variable {P:Program}{c:Ctx}{Z:bR} {Z':Nat->Prop} {e e':Env}{st b7:St}{a:Act} {w w':World}{R:Type}{K:St->Option R}{r:R}{Q:Exit->Act->World->Prop}{o:Oper}
theorem cX.length {key:Nat->Nat} {φ:Ph}{ms:List MV}: ∀{vs:List Value},cX key φ vs ms->vs.length=ms.length:=by
 induction ms with
 |nil=>intro vs h;cases h;rfl
 |cons m ms ih=>intro vs h;obtain ⟨v,u,rfl,_,h2⟩:=h;simp [ih h2]
theorem O8 {cl:Call}{g:List MV->Option MV}{pos:Nat}{ks:List LK}{oI:Option TI}{gv:Bool}(hS:Sound P c)(hg1:gv=true-> ∀ms x,g ms=some x-> ∃f:Nat,c.g (c.key f) ms=some x/\c.iL (c.key f)=true/\c.sig (c.key f)=some (pos,ks)/\(execOp a.eval o).run P w=(callFunc f (cl.args.map a.eval)).run P w)(h:cc c Z e st a w)(hK:SW c gv g pos ks st (kq c st cl.args.toList) oI (λs st=>bu c st o.dst s K)=some r): gv=true/\o.wp P a w (λa' w'=>Out c Z K r e.φ w a' w') Q:=by
 unfold SW at hK;obtain ⟨vs,BM⟩: ∃vs,vs=cl.args.toList.map a.eval:=⟨_,rfl⟩
 have hlen:vs.length=(kq c st cl.args.toList).length:=by rw [BM];simp [jW]
 have iv: ∀(i:Nat) (v:Value) (s:Slot),vs[i]? =some v->(kq c st cl.args.toList)[i]? =some s->ah e v s:=by rw [BM];exact cX.map h
 generalize kq c st cl.args.toList=ss at hK hlen iv;split at hK
 ·rename_i root off jD;have aq4:pos<ss.length:=(aaT.1 jD).1;obtain ⟨v,hv⟩: ∃v,vs[pos]? =some v:=⟨vs[pos]'(by omega),IS (by omega)⟩
  have hvp:v= .pointer (some ⟨e.B root,off,none⟩):=iv pos v _ hv jD;have Cv:vs=vs.take pos++v::vs.drop (pos+1):=by
   conv=>lhs;rw [<-adw pos vs]
   rw [List.drop_eq_getElem_cons (by omega)];have:=aaT.1 hv;obtain ⟨_,S2⟩:=this;rw [S2]
  obtain ⟨e1,cR,m1,h1,x1,E1,r1,oc⟩:=sW h ⟨λ_=>vs.take pos,rfl,by simp only [aee];omega,λi u s hu hs=>by
   rw [adO] at hu hs;split at hu
   ·rename_i hi;rw [if_pos hi] at hs;exact iv i u s hu hs
   ·cases hu⟩ hK
  obtain ⟨e2,dV,m2,h2,x2,aak,r2,xG⟩:=sW h1 ⟨λ_=>vs.drop (pos+1),rfl,by simp only [List.length_drop];omega,λi u s hu hs=>by rw [List.getElem?_drop] at hu hs;exact (iv _ u s hu hs).on x1.on (eP s)⟩ oc;split at xG
  ·rename_i cs hf;cases wV:gM cs||bL dV.cJ root||!ke c ks||!gv with
   |true=>simp [wV] at xG
   |false=>
   simp only [wV,cond_false] at xG;simp only [IT,abb] at wV;obtain ⟨⟨⟨hm,hr⟩,kz⟩,hg⟩:=wV;obtain ⟨ls,ps,ht,OX⟩:=H3 xG;simp only [zG] at OX;obtain ⟨x,hx,ZJ⟩:=rq OX;unfold gW at ZJ;split at ZJ;rotate_left
   ·simp at ZJ
   rename_i r0 outs;have hB:e2.B root=e.B root:=(x2.on.B root trivial).trans (x1.on.B root trivial);let Z2:Nat->Prop:=λb=>w.heap.size<=b\/gone e2 root ps b;have QN:m1.length=pos:=by rw [<-r1.length,aee];omega
   have aha:e2.key=c.key:=h2.key;obtain ⟨f,hx,hg0,Nd,cy⟩:=hg1 hg _ _ hx;have kL:jr c Z2 e2.φ w (c.key f) vs (m1++ .cell (.func off ls)::m2):=by
    simp only [jr,hg0,if_true];refine .inr (.inr ⟨pos,ks,off,ls,e2.B root,Nd,by rw [hv,hvp,hB],by rw [ab1 (by omega),QN];simp,?_,(O5 h2 hf hm kz ht).wide λb hb=> .inr hb⟩);rw [List.set_append_right _ _ (by omega),QN,Nat.sub_self,List.set_cons_zero,Cv];refine cX.append ?_ ⟨v,vs.drop (pos+1),rfl,?_,?_⟩
    ·have:=r1.mono x2.on.φ;rw [h1.key] at this;exact this
    ·rw [hvp];exact ⟨rfl,.rp (e.B root) off [] [] .nil (by simp)⟩
    ·rw [<-aha];exact r2
   have HX:=hS f _ _ hx e2.φ w Z2 vs (λb hb=> .inl hb) kL h2.pM;refine ⟨hg,?_⟩;have EQ:vs.toArray=cl.args.map a.eval:=by rw [BM,<-ab8,abM]
   refine Dv ?_ HX ?_
   ·rw [EQ];exact cy
   ·rintro v' w' ⟨φ',t1,t2,zg,pos',Ls,bx,Wn,BQ,ZG,hc⟩;rw [Nd] at BQ;simp only [AT,aaD] at BQ;obtain ⟨rfl,rfl⟩:=BQ;rw [hv,hvp] at ZG;simp only [AT,afO,Addr.mk.injEq] at ZG;have lW:bx=e2.B root:=by rw [<-ZG.1,hB]
    subst lW;obtain ⟨e3,qD,h3,hφ3,hK5⟩:=Xq h2 hf hm hr ht (λb=>Iff.rfl) t1 t2 hc ZJ;have F3:Trans Z e.φ w φ' w':=by
     have t0:Trans Z e2.φ w φ' w':=by have zf: ∀b,Z2 b->Z.In b:=λb hb=>hb.elim (h2.cP b) (Na h2 hf hr ht b);exact ⟨t1.ph,λb hb=>t1.heap b (λhz=>hb (zf b hz)),λb o hb=>t1.free b o (λhz=>hb (zf b hz)),t1.size,t1.rest⟩
     exact (x1.tr.trans x2.tr).trans t0
    cases oI with
    |none=>simp only at hK5;obtain ⟨e4,Xs,q1,q2,q3⟩:=dM (v:=v') (s:= .sc .un) h3 (.of (by simp [ah]) trivial) hK5;exact ⟨e4,Xs,q1,by rw [q3,hφ3];exact F3,q2⟩
    |some I=>simp only at hK5;obtain ⟨s,g1,g2,RD⟩:=xT (e:=e3) (st:=qD) h3.key (by rw [hφ3];exact zg) hK5;obtain ⟨e4,Xs,q1,q2,q3⟩:=dM h3 (.of g1 g2) RD;exact ⟨e4,Xs,q1,by rw [q3,hφ3];exact F3,q2⟩
  ·simp at xG
 ·simp at hK
theorem aaE {cl:Call}{f pos:Nat}{ks:List LK}{oI:Option TI}(hS:Sound P c)(Nd:c.sig (c.key f)=some (pos,ks))(ho:o.op= .call cl)(sY:cl.callee= .value (.func f))(h:cc c Z e st a w)(hK:ab7 c (c.key f) pos ks st (kq c st cl.args.toList) oI (λs st=>bu c st o.dst s K)=some r): c.iL (c.key f)=true/\o.wp P a w (λa' w'=>Out c Z K r e.φ w a' w') Q:=O8 hS (λhg ms x hx=>⟨f,hx,hg,Nd,by simp [execOp,ho,resolve,sY,Act.eval,ab9,invoke]⟩) h hK
theorem RE: ∀{l m:List LK},Wk l m=true->l=m
 |[],[],_=>rfl
 | .k k1::r,.k k2::q,h=>by simp only [Wk,sh] at h;rw [RE h.2];have h1:=h.1;cases k1<;>cases k2<;>simp [kdB,kB] at h1<;>first|rfl|(subst h1;rfl)
 | .own f t z::r,.own f' t' z'::q,h=>by simp only [Wk,sh,eH,decide_eq_true_eq,beq_iff_eq] at h;obtain ⟨rfl,rfl,rfl,h⟩:=h;rw [RE h]
 |[],_::_,h=>by simp [Wk] at h
 | .k _::_,[],h=>by simp [Wk] at h
 | .k _::_,.own _ _ _::_,h=>by simp [Wk] at h
 | .own _ _ _::_,[],h=>by simp [Wk] at h
 | .own _ _ _::_,.k _::_,h=>by simp [Wk] at h
theorem Xt {pos:Nat}{ks:List LK}{l:List Nat}(h:OE c pos ks l=true): ∀k∈l,c.sig k=some (pos,ks)/\c.iL k=true:=by
 induction l with
 |nil=>simp
 |cons x l ih=>
  simp only [OE,sh] at h;obtain ⟨h1,h2,h3⟩:=h;intro k hk;rcases AI.1 hk with rfl|hk
  ·refine ⟨?_,h2⟩;cases hs:c.sig k with
   |none=>rw [hs] at h1;cases h1
   |some sg=>rw [hs] at h1;simp only [sh] at h1;obtain ⟨p,q⟩:=sg;have e1:p=pos:=eJ h1.1;have e2:q=ks:=RE h1.2;rw [e1,e2]
  ·exact ih h3 k hk
theorem adY {R:Type}{r:R}{l:List Nat}{k:Nat}{K:Nat->Option R}(h:T2 l k K=some r):k∈l/\K k=some r:=by
 induction l with
 |nil=>simp [T2] at h
 |cons p l ih=>
  cases l with
  |nil=>
   unfold T2 at h;cases hb:BY k p with
   |false=>rw [hb] at h;cases h
   |true=>rw [hb] at h;have:=eJ hb;subst this;exact ⟨by simp,h⟩
  |cons q l=>
   unfold T2 at h;cases hb:BY k p with
   |false=>rw [hb] at h;obtain ⟨h1,h2⟩:=ih h;exact ⟨aas _ h1,h2⟩
   |true=>rw [hb] at h;have:=eJ hb;subst this;exact ⟨by simp,h⟩
theorem aaF {cl:Call}{x:Operand}{T7:List Nat}{oI:Option TI}(hS:Sound P c)(ho:o.op= .call cl)(sY:cl.callee= .value x)(h:cc c Z e st a w)(hK:Wl c T7 st (aM c st x) (kq c st cl.args.toList) oI (λs st=>bu c st o.dst s K)=some r): o.wp P a w (λa' w'=>Out c Z K r e.φ w a' w') Q:=by
 obtain ⟨hx,_⟩:=h.eval x;generalize aM c st x=s at hx hK;unfold Wl at hK;split at hK
 ·rename_i m k0 ahc;simp only [ah,aY] at hx;cases hs0:c.sig k0 with
  |none=>simp [hs0] at hK
  |some sg=>
  obtain ⟨pos,ks⟩:=sg;simp only [hs0] at hK;cases HR:OE c pos ks (k0::ahc) with
  |false=>simp [HR] at hK
  |true=>
  simp only [HR,cond_true] at hK;unfold QJ at hK;split at hK
  ·rename_i f dm;cases dm with
   |cons=>simp [gN] at hK
   |nil=>
   simp only [gN] at hK;obtain ⟨f',cap,hv,wb,Cr,oX⟩: ∃(f':Nat) (cap:Array Value),a.eval x= .func (.func f') #[] cap/\e.key f'=f/\jB e.key e.φ cap.toList []/\ ∀m∈([]:List MV),m.one=true:=by obtain ⟨_,hx⟩:=hx;generalize BM:[a.eval x]=vs at hx;cases hx;rename_i f' cap h1 h2 h3;exact ⟨f',cap,by simpa using BM,h1,h2,h3⟩
   have ahe:cap= #[]:=by generalize hl:cap.toList=l at Cr;cases Cr;exact aa8.1 hl
   subst ahe;have Ln:c.key f'=f:=by rw [<-h.key];exact wb
   exact (O8 hS (λ_ ms y hy=>by obtain ⟨hm,hy⟩:=adY hy;obtain ⟨h1,h2⟩:=Xt HR f hm;refine ⟨f',by rw [Ln];exact hy,by rw [Ln];exact h2,by rw [Ln];exact h1,?_⟩;simp [execOp,ho,resolve,sY,hv,ab9,invoke]) h hK).2
  ·simp at hK
 ·simp at hK
end
end Dn
/-
  Every operation. Conditions: none.
-/
namespace Dn
open Go
section
variable {P:Program}{c:Ctx} {Z Z':bR} {e e':Env}{st:St}{a:Act} {w w':World}{R:Type}{K:St->Option R}{r:R}{Q:Exit->Act->World->Prop}{o:Oper}
structure Good (P:Program) (c:Ctx):Prop where
 ti:lV P c.ti
 eq:MU P c.ti
 fn:Sound P c
 fk: ∀t k,c.fk t=some k->P.underlying t=some (.float k)
 mt:xU P c
def Uv (c:Ctx)(o:Oper):Option MS:=match Wp o with|some t=>vX c t|none=>none
def gD (c:Ctx)(o:Oper) (w w':World):Prop:=match Uv c o with|some s=>yN s w w'|none=>eF w w'
theorem eF.trans' {w w' AO:World}(h:eF w w') (h':eF w' AO):eF w AO:=⟨aco h.size h'.size,λb hb=>(h'.v8 b (Nat.lt_of_lt_of_le hb h.size)).trans (h.v8 b hb),h.rest.trans h'.rest⟩
theorem eF.for {w w':World}(h:eF w w'):gD c o w w':=by
 unfold gD;split
 ·exact h.m _
 ·exact h
theorem gD.trans {w w' AO:World}(h:gD c o w w') (h':gD c o w' AO):gD c o w AO:=by
 unfold gD at *;split at h
 ·rename_i s hs;simp only [hs] at h'⊢;exact yN.trans h h'
 ·rename_i hs;simp only [hs] at h'⊢;exact eF.trans' h h'
inductive qV (P:Program) (c:Ctx) (Z:bR) {R:Type} (K:St->Option R) (r:R) (e:Env) (a:Act) (w:World) (o:Oper) (Q:Exit->Act->World->Prop):Prop
 |rd:(mK c o=false/\nt c o=false)->Rd P c Z K r e a w o (λ_=>True)->qV P c Z K r e a w o Q
 |ld:(mK c o=true/\nt c o=false)->Du e.φ w->Rd P c Z K r e a w o (λw'=>(still c o=false->gD c o w w')/\Du e.φ w')->qV P c Z K r e a w o Q
 |gr:(qQ o=false\/nt c o=true)->o.wp P a w (λa' w'=>eF w w'/\Out c Z K r e.φ w a' w') Q->qV P c Z K r e a w o Q
 |cl (f:Nat):(qQ o=false/\Br c o=!c.iL (c.key f))->o.wp P a w (λa' w'=>(c.iL (c.key f)=false->eF w w')/\Out c Z K r e.φ w a' w') Q->qV P c Z K r e a w o Q
 |an:(qQ o=false/\Br c o=false)->o.wp P a w (Out c Z K r e.φ w) Q->qV P c Z K r e a w o Q
 |me (t:Nat) (s:MS):Z8 o=some t->vX c t=some s->(qQ o=false/\Br c o=false)->o.wp P a w (λa' w'=>yN s w w'/\Out c Z K r e.φ w a' w') Q->qV P c Z K r e a w o Q
theorem RF (hG:Good P c)(h:cc c Z e st a w)(hK:opK c o st (λs st=>bu c st o.dst s K)=some r):qV P c Z K r e a w o Q:=by
 have hT:=hG.ti;unfold opK at hK;split at hK
 ·rename_i ho;exact .rd ⟨by simp [mK,qP, *],by simp [nt, *]⟩ (MR (.inl ho) h hK)
 ·rename_i x ho;cases hm:nt c o with
  |true=>exact .gr (.inr hm) (aax ho h hK)
  |false=>
   refine .rd ⟨by simp [mK,qP, *],hm⟩ (MR (.inr ho) h ?_);unfold Hd at hK;unfold nt at hm;rw [ho] at hm;split at hK
   ·rename_i t q hq;rw [hq] at hm;simp at hm
   ·exact hK
 ·rename_i t ho;cases hs:vX c t with
  |none=>simp [hs] at hK
  |some s=>simp only [hs] at hK;exact .an (by simp [qQ,Br, *]) (Ru ho (Tl hs) h hK)
 ·rename_i t m k ho;unfold ab4 at hK;cases hs:vX c t with
  |none=>simp [hs] at hK
  |some s=>simp only [hs] at hK;obtain ⟨v,h1,h2⟩:=Uq ho (hG.mt t s hs) h hK;refine .ld ⟨by simp [mK,qP,ho],by simp [nt,ho]⟩ h.pM ⟨v,λw' hw=>h1 w' ?_,h2⟩;have:=hw.1 (by simp [still,ho]);simpa [gD,Uv,Wp,ho,hs] using this
 ·rename_i t m k v ho;unfold ab5 at hK;cases hs:vX c t with
  |none=>simp [hs] at hK
  |some s=>simp only [hs] at hK;exact .an (by simp [qQ,Br, *]) (M3 ho (hG.mt t s hs) h hK)
 ·rename_i t m k ho;unfold Wh at hK;cases hs:vX c t with
  |none=>simp [hs] at hK
  |some s=>simp only [hs] at hK;exact .me t s (by simp [Z8,ho]) hs (by simp [qQ,Br, *]) (F5 ho (hG.mt t s hs) h hK)
 ·rename_i t m i v ho;unfold agj at hK;cases hs:vX c t with
  |none=>simp [hs] at hK
  |some s=>simp only [hs] at hK;exact .an (by simp [qQ,Br, *]) (Ks (t:=t) ho h hK)
 ·rename_i ho;exact .rd ⟨by simp [mK,qP, *],by simp [nt, *]⟩ (ON ho h hK)
 ·rename_i ho;exact .rd ⟨by simp [mK,qP, *],by simp [nt, *]⟩ (aab ho h hK)
 ·rename_i t ho;cases hI:c.tv t with
  |none=>simp [hI] at hK
  |some I=>simp only [hI] at hK;exact .gr (.inl (by simp [qQ, *])) (WI ho hI hT h hK)
 ·rename_i t x ho;cases hI:c.tv t with
  |none=>simp [hI] at hK
  |some I=>simp only [hI] at hK;exact .gr (.inl (by simp [qQ, *])) (adC ho h hK)
 ·rename_i t parts ho;cases hI:c.tv t with
  |none=>simp [hI] at hK
  |some I=>simp only [hI] at hK;exact .rd ⟨by simp [mK,qP, *],by simp [nt, *]⟩ (WW ho hI hT h hK)
 ·rename_i t n parts ho;cases hI:c.tv t with
  |none=>simp [hI] at hK
  |some I=>
   simp only [hI] at hK;cases hL:I.AN with
   |false=>simp [hL] at hK
   |true=>
    simp only [hL,cond_true] at hK;cases hE:c.tv I.elem with
    |none=>simp [hE] at hK
    |some E=>
     simp only [hE] at hK;cases kV:acy (n *E.size) 16777216 with
     |false=>simp [kV] at hK
     |true=>simp only [kV,cond_true] at hK;exact .gr (.inl (by simp [qQ, *])) (Kq ho hI hL hE hT h kV hK)
 ·rename_i t x y ho;cases hI:c.tv t with
  |none=>simp [hI] at hK
  |some I=>
   simp only [hI] at hK;cases hL:I.AN with
   |false=>simp [hL] at hK
   |true=>
    simp only [hL,cond_true] at hK;cases hE:c.tv I.elem with
    |none=>simp [hE] at hK
    |some E=>simp only [hE] at hK;exact .gr (.inl (by simp [qQ, *])) (M5 ho hI hL hE hT h hK)
 ·rename_i t x ho;cases hI:c.tv t with
  |none=>simp [hI] at hK
  |some I=>
   simp only [hI] at hK;cases hs:still c o with
   |true=>
    simp only [hs,cond_true] at hK;split at hK
    ·rename_i cs off Kn;obtain ⟨v,h1,h2⟩:=WH ho hI hT h Kn hK;exact .ld ⟨by simp [mK,qP, *],by simp [nt, *]⟩ h.pM ⟨v,λw' hw=>h1 w' hw.2,h2⟩
    ·simp at hK
   |false=>simp only [hs,cond_false] at hK;obtain ⟨v,h1,h2⟩:=aaf ho hI hT h hK;refine .ld ⟨by simp [mK,qP, *],by simp [nt, *]⟩ h.pM ⟨v,λw' hw=>h1 w' ?_,h2⟩;have:=hw.1 hs;simpa [gD,Uv,Wp,ho] using this
 ·rename_i t x y ho;cases hI:c.tv t with
  |none=>simp [hI] at hK
  |some I=>simp only [hI] at hK;exact .an (by simp [qQ,Br, *]) (WT ho hI hT h hK)
 ·rename_i op t x y t' ho;exact .rd ⟨by simp [mK,qP, *],by simp [nt, *]⟩ (WE ho h hG.eq hK)
 ·rename_i ho;exact .rd ⟨by simp [mK,qP, *],by simp [nt, *]⟩ (aac ho h hK)
 ·rename_i s t x ho;cases hL:isLT c s with
  |true=>
   simp only [hL,cond_true] at hK;cases hY:c.tv s with
   |none=>simp [hY] at hK
   |some Y=>
    cases hI:c.tv t with
    |none=>simp [hY,hI] at hK
    |some I=>
     simp only [hY,hI] at hK;obtain ⟨v,h1,h2⟩:=Xf ho hY hI (by simpa [isLT,hY] using hL) hT h hK;refine .ld ⟨by simp [mK,qP,ho,hL],by simp [nt,ho]⟩ h.pM ⟨v,λw' hw=>h1 w' ?_,h2⟩;have hs:still c o=false:=by simp [still,ho]
     have:=hw.1 hs;simpa [gD,Uv,Wp,ho] using this
  |false=>
   simp only [hL,cond_false] at hK;cases hS:c.ti s with
   |none=>simp [hS] at hK
   |some S=>
    simp only [hS] at hK;cases hI:c.tv t with
    |none=>simp [hI] at hK
    |some I=>simp only [hI] at hK;obtain ⟨d,i,h1,_⟩:=hT s S hS;exact .rd ⟨by simp [mK,qP,ho,hL],by simp [nt,ho]⟩ (Rc ho (b6 hI).1 hT ⟨d,h1⟩ (hG.fk t) h hK)
 ·rename_i t x ho;cases hI:c.tv t with
  |none=>simp [hI] at hK
  |some I=>simp only [hI] at hK;exact .an (by simp [qQ,Br, *]) (Xe ho hI hT h hK)
 ·rename_i x ho;exact .an (by simp [qQ,Br, *]) (aay ho h hK)
 ·rename_i f first dm ho
  split at hK
  ·rename_i hf;have hf:first= #[]:=by apply aa8.1;simpa using hf
   subst hf;exact .rd ⟨by simp [mK,qP, *],by simp [nt, *]⟩ (OY ho h hK)
  ·simp at hK
 ·rename_i t x lo hi ho;cases hI:c.tv t with
  |none=>simp [hI] at hK
  |some I=>simp only [hI] at hK;exact .rd ⟨by simp [mK,qP, *],by simp [nt, *]⟩ (WO ho hI hT h hK)
 ·rename_i t x y z ho;cases hI:c.tv t with
  |none=>simp [hI] at hK
  |some I=>simp only [hI] at hK;exact .rd ⟨by simp [mK,qP, *],by simp [nt, *]⟩ (aan ho hI hT h hK)
 ·rename_i t x f ho;cases hI:c.tv t with
  |none=>simp [hI] at hK
  |some I=>simp only [hI] at hK;exact .rd ⟨by simp [mK,qP, *],by simp [nt, *]⟩ (Uc ho hI hT h hK)
 ·rename_i t x f ho;cases hI:c.tv t with
  |none=>simp [hI] at hK
  |some I=>simp only [hI] at hK;exact .rd ⟨by simp [mK,qP, *],by simp [nt, *]⟩ (adE ho hI hT h hK)
 ·rename_i t x y ho;cases hI:c.tv t with
  |none=>simp [hI] at hK
  |some I=>
   simp only [hI] at hK;cases hE:c.tv I.elem with
   |none=>simp [hE] at hK
   |some E=>simp only [hE] at hK;exact .rd ⟨by simp [mK,qP, *],by simp [nt, *]⟩ (adG ho hI hE hT h hK)
 ·rename_i t x y ho;cases hI:c.tv t with
  |none=>simp [hI] at hK
  |some I=>simp only [hI] at hK;exact .rd ⟨by simp [mK,qP, *],by simp [nt, *]⟩ (agv ho (b6 hI).1 hT h hK)
 ·rename_i ho;exact .rd ⟨by simp [mK,qP, *],by simp [nt, *]⟩ (adA ho h hK)
 ·rename_i cl ho;split at hK
  ·rename_i f sY;cases hsg:c.sig (c.key f) with
   |some sg=>obtain ⟨pos,ks⟩:=sg;simp only [hsg] at hK;obtain ⟨hg,hw⟩:=aaE hG.fn hsg ho sY h hK;exact .an (by simp [qQ,Br,ho,sY,hg]) hw
   |none=>
   simp only [hsg] at hK;cases hI:c.ti o.type with
   |none=>simp [hI] at hK
   |some I=>simp only [hI] at hK;exact .cl f (by simp [qQ,Br, *]) (aat hG.fn ho sY h hK)
  ·rename_i x _ sY;cases hdy:c.dyn with
   |cons k0 T7=>simp only [hdy] at hK;exact .an (by simp [qQ,Br,ho,sY,hdy]) (aaF hG.fn ho sY h hK)
   |nil=>
   simp only [hdy] at hK;cases hI:c.ti o.type with
   |none=>simp [hI] at hK
   |some I=>simp only [hI] at hK;exact .gr (.inl (by simp [qQ, *])) (adR hG.fn ho sY h hK)
  ·rename_i sY;split at hK
   ·rename_i t Om;cases hI:c.tv t with
    |none=>simp [hI] at hK
    |some I=>simp only [hI] at hK;exact .rd ⟨by simp [mK,qP, *],by simp [nt, *]⟩ (adF ho sY Om hI hT h hK)
   ·simp at hK
  ·rename_i sY;split at hK
   ·rename_i s x t t' Kn Om;cases hI:c.tv t with
    |none=>simp [hI] at hK
    |some I=>
     simp only [hI] at hK;cases hL:I.AN with
     |false=>simp [hL] at hK
     |true=>
      simp only [hL,cond_true] at hK;cases hE:c.tv I.elem with
      |none=>simp [hE] at hK
      |some E=>
       simp only [hE] at hK;obtain ⟨so,xo,kL,rfl,rfl⟩: ∃so xo,cl.args.toList=[so,xo]/\aM c st so=s/\aM c st xo=x:=by
        rw [jW] at Kn;match hl:cl.args.toList,Kn with
        |[so,xo],Kn=>simp at Kn;exact ⟨so,xo,rfl,Kn.1,Kn.2⟩
        |[],Kn=>simp at Kn
        |[_],Kn=>simp at Kn
        |_::_::_::_,Kn=>simp at Kn
       exact .an (by simp [qQ,Br,sY,ho]) (Ul ho sY kL Om hI hL hE hT h hK)
   ·simp at hK
  ·rename_i sY;rw [jW] at hK;split at hK
   ·rename_i m jC;cases hl:cl.args.toList with
    |nil=>rw [hl] at jC;simp at jC
    |cons x xs=>
     rw [hl] at jC;simp only [aaZ,aaa,adK] at jC;obtain ⟨he,rfl⟩:=jC;unfold Z4 at hK;split at hK
     ·rename_i u v;have hx:=xO (by have:=(h.eval x).1;rw [he] at this;exact this);have Uf:cl.args= #[x]:=by rw [<-aa8,hl]
      refine .rd ⟨by simp [mK,qP, *],by simp [nt, *]⟩ (jV h ?_ (HF (.float .f64 u) rfl) trivial hK);have hb: ∀ts ty,Builtin.real_ ts ty #[.complex .f64 u v]=pure (.float .f64 u):=λ_ _=>rfl;simp [execOp,ho,resolve,sY,invoke,builtin,hb,Uf,hx]
     ·cases hK
   ·cases hK
  ·rename_i sY;rw [jW] at hK;split at hK
   ·rename_i m jC;cases hl:cl.args.toList with
    |nil=>rw [hl] at jC;simp at jC
    |cons x xs=>
     rw [hl] at jC;simp only [aaZ,aaa,adK] at jC;obtain ⟨he,rfl⟩:=jC;unfold Z4 at hK;split at hK
     ·rename_i u v;have hx:=xO (by have:=(h.eval x).1;rw [he] at this;exact this);have Uf:cl.args= #[x]:=by rw [<-aa8,hl]
      refine .rd ⟨by simp [mK,qP, *],by simp [nt, *]⟩ (jV h ?_ (HF (.float .f64 v) rfl) trivial hK);have hb: ∀ts ty,Builtin.imag_ ts ty #[.complex .f64 u v]=pure (.float .f64 v):=λ_ _=>rfl;simp [execOp,ho,resolve,sY,invoke,builtin,hb,Uf,hx]
     ·cases hK
   ·cases hK
  ·rename_i sY;rw [jW] at hK;split at hK
   ·rename_i u v jC;match hl:cl.args.toList,jC with
    |[x,y],jC=>
     simp only [aaZ,List.map_nil,aaa,and_true] at jC;have hx:=xO (by have:=(h.eval x).1;rw [jC.1] at this;exact this);have hy:=xO (by have:=(h.eval y).1;rw [jC.2] at this;exact this);have Uf:cl.args= #[x,y]:=by rw [<-aa8,hl]
     refine .rd ⟨by simp [mK,qP, *],by simp [nt, *]⟩ (jV h ?_ (HF (.complex .f64 u v) rfl) trivial hK);have hb: ∀ts ty,Builtin.complex_ ts ty #[.float .f64 u,.float .f64 v]=pure (.complex .f64 u v):=λ_ _=>rfl;simp [execOp,ho,resolve,sY,invoke,builtin,hb,Uf,hx,hy]
    |[],jC=>simp at jC
    |[_],jC=>simp at jC
    |_::_::_::_,jC=>simp at jC
   ·cases hK
  ·rename_i sY;cases hm:QW false (kq c st cl.args.toList) with
   |none=>simp [hm] at hK
   |some m=>simp only [hm] at hK;exact .rd ⟨by simp [mK,qP, *],by simp [nt, *]⟩ (Lk (mx:=false) ho sY h hm hK)
  ·rename_i sY;cases hm:QW true (kq c st cl.args.toList) with
   |none=>simp [hm] at hK
   |some m=>simp only [hm] at hK;exact .rd ⟨by simp [mK,qP, *],by simp [nt, *]⟩ (Lk (mx:=true) ho sY h hm hK)
  ·simp at hK
 ·simp at hK
theorem qV.wp (h:qV P c Z K r e a w o Q):o.wp P a w (Out c Z K r e.φ w) Q:=by
 cases h with
 |rd _ h=>exact h.wp trivial
 |ld _ hi h=>exact h.wp ⟨λ_=>(eF.refl w).for,hi⟩
 |me _ _ _ _ _ h=>exact acp (λa w h=>h.2) h
 |gr _ h=>exact acp (λa w h=>h.2) h
 |cl f _ h=>exact acp (λa w h=>h.2) h
 |an _ h=>exact h
theorem qV.alp (h:qV P c Z K r e a w o Q)(hr:qQ o=true)(hv:nt c o=false):Rd P c Z K r e a w o (λw'=>mK c o=true->(still c o=false->gD c o w w')/\Du e.φ w'):=by
 cases h with
 |rd hl h=>obtain ⟨v,h1,h2⟩:=h;exact ⟨v,λw' _=>h1 w' trivial,h2⟩
 |ld hl _ h=>obtain ⟨v,h1,h2⟩:=h;exact ⟨v,λw' hg=>h1 w' (hg hl.1),h2⟩
 |gr hn h=>rw [hr,hv] at hn;simp at hn
 |me _ _ _ _ hn h=>rw [hr] at hn;cases hn.1
 |cl f hn h=>rw [hr] at hn;cases hn.1
 |an hn h=>rw [hr] at hn;cases hn.1
theorem qV.alq (h:qV P c Z K r e a w o Q)(hr:qQ o=true\/Br c o=true):o.wp P a w (λa' w'=>eF w w'/\Out c Z K r e.φ w a' w') Q:=by
 have rd: ∀G:World->Prop,G w->Rd P c Z K r e a w o G->o.wp P a w (λa' w'=>eF w w'/\Out c Z K r e.φ w a' w') Q:=by rintro G hG ⟨v,h1,h2⟩;unfold aeZ;rw [h1 w hG,adb];exact ⟨.refl w,h2⟩
 cases h with
 |rd hl h=>exact rd _ trivial h
 |ld _ hi h=>exact rd _ ⟨λ_=>(eF.refl w).for,hi⟩ h
 |me _ _ _ _ hn h=>
  rcases hr with hr|hr
  ·rw [hr] at hn;cases hn.1
  ·rw [hr] at hn;cases hn.2
 |gr hn h=>exact h
 |cl f hn h=>
  rcases hr with hr|hr
  ·rw [hr] at hn;cases hn.1
  ·rw [hn.2] at hr;exact acp (λa w h=>⟨h.1 (by simpa using hr),h.2⟩) h
 |an hn h=>
  rcases hr with hr|hr
  ·rw [hr] at hn;cases hn.1
  ·rw [hr] at hn;cases hn.2
theorem ahf (hG:Good P c)(h:cc c Z e st a w)(hK:opK c o st (λs st=>bu c st o.dst s K)=some r){oi:Oper}(hr:BI oi o=true):o.wp P a w (λa' w'=>gD c oi w w'/\Out c Z K r e.φ w a' w') Q:=by
 unfold BI at hr;split at hr
 ·rename_i t t' h1 h2;have ht:=eJ hr;subst ht;have Ur: ∃m k,o.op= .mapEntry t m k:=by
   unfold Z8 at h2;split at h2
   ·rename_i u m k ho;cases h2;exact ⟨m,k,ho⟩
   ·cases h2
  obtain ⟨m,k,ho⟩:=Ur;unfold opK at hK;simp only [ho] at hK;unfold Wh at hK;cases hs:vX c t with
  |none=>simp [hs] at hK
  |some s=>simp only [hs] at hK;refine acp (λa w h=>⟨?_,h.2⟩) (F5 ho (hG.mt t s hs) h hK);simpa [gD,Uv,h1,hs] using h.1
 ·cases hr
end
end Dn
/-
  Guards; operations one behind the other. Conditions: none.
-/
namespace Dn
open Go
section
variable {P:Program}{c:Ctx} {Z Z':bR} {e e':Env}{st:St}{a:Act} {w w':World}{R:Type}{K:St->Option R}{r:R}{Q:Exit->Act->World->Prop}{o:Oper}
theorem cc.frame {qR:Fr}(h:cc c Z e st a w)(hf: ∀t,aw qR t=aw st.fr t)(hn:(aV qR).Nodup):cc c Z e {st with fr:=qR} a w:=by
 have hr: ∀s,cS st.fr s->cS qR s:=by intro s hs;cases s<;>simp only [cS,hf] at hs⊢ <;>exact hs
 exact ⟨h.defers,h.size,h.m,h.key,hn,λt=>by show cz Z e w t _ (aw qR t);rw [hf];exact h.slot t,λt=>by show cS qR (aw qR t);rw [hf];exact hr _ (h.root t),h.jA,λt t' cs kh h1 h2=>h.bb t t' cs kh (by rw [<-hf];exact h1) (by rw [<-hf];exact h2),λt cs f o h1=>h.bf t cs f o (by rw [<-hf];exact h1),h.ff,h.pM,h.cP⟩
theorem cc.reset {t:Nat}{s:Slot}(h:cc c Z e st a w)(hs:aw st.fr t=s):cc c Z e {st with fr:=dg st.fr t s} a w:=by
 refine h.frame (λt'=> ?_) (fP h.nodup);rw [cb];by_cases ht:t'=t
 ·subst ht;simp [hs]
 ·simp [ht]
theorem O9 {ops:Array Oper} {K':Bool->St->Option R}(h:cc c Z e st a w)(hK:Q1 ops.toList o st K'=some r): ∃b7 go,cc c Z e b7 a w/\K' go b7=some r/\aeW o (yielded ops a.tmps)=go:=by
 unfold Q1 at hK;unfold aeW;cases hg:o.guard with
 |none=>simp only [hg] at hK;exact ⟨st,true,h,hK,rfl⟩
 |some jw=>
  obtain ⟨j,want⟩:=jw;simp only [hg] at hK;cases hp:ops.toList[j]? with
  |none=>simp [hp] at hK
  |some p=>
   simp only [hp] at hK;have FV:ops[j]? =some p:=by simpa using hp
   cases hd:p.dst with
   |none=>simp [hd] at hK
   |some t=>
    simp only [hd] at hK;have nv:=h.slot t;split at hK
    ·rename_i v hv;rw [hv] at nv;have GQ:a.tmps.getD t undef= .bool v:=zK nv;have hy:yielded ops a.tmps j=some v:=by
      unfold yielded;have:a.tmps[t]? =some (.bool v):=by
       rw [abv] at GQ;cases ht:a.tmps[t]? with
       |none=>rw [ht] at GQ;simp [undef] at GQ
       |some u=>rw [ht] at GQ;simpa using GQ
      simp [FV,hd,this]
     simp only [hy];cases v<;>simp only [oK] at hK
     ·exact ⟨_,_,h.reset hv,hK,by cases want<;>rfl⟩
     ·exact ⟨_,_,h.reset hv,hK,by cases want<;>rfl⟩
    ·rename_i hv;rw [hv] at nv;simp only [cz,ah] at nv;have hy:yielded ops a.tmps j=none:=by
      unfold yielded;rw [abv] at nv;cases ht:a.tmps[t]? with
      |none=>simp [FV,hd,ht]
      |some u=>rw [ht] at nv;simp at nv;subst nv;simp [FV,hd,ht,undef]
     simp only [hy];exact ⟨st,false,h,hK,by cases want<;>rfl⟩
    ·simp at hK
theorem Nf {ops:Array Oper}{i:Nat}(hG:Good P c)(hi:ops[i]? =some o)(h:cc c Z e st a w)(hK:SX c ops.toList o st K=some r): wpOp P ops Q i (Out c Z K r e.φ w) a w:=by
 unfold SX at hK;obtain ⟨b7,go,h',hK,hw⟩:=O9 h hK;unfold wpOp;simp only [hi];rw [hw];cases go with
 |true=>simp only [cond_true] at hK;simp only [if_true];exact .inl (RF hG h' hK).wp
 |false=>simp only [cond_false] at hK;simp only [aaR,if_false];obtain ⟨e2,dV,h1,h2,h3⟩:=dM (v:=undef) (s:= .skip) h' ⟨rfl,trivial⟩ hK;exact ⟨e2,dV,h1,by rw [h3];exact .refl _ _ _,h2⟩
theorem Ng {ops:Array Oper}{is:List Nat}(hG:Good P c): ∀{os:List Oper} {e:Env} {st:St} {a:Act} {w:World},is.map (ops[·]?)=os.map some->cc c Z e st a w->Ch c ops.toList os st K=some r-> ∀{φ0:Ph} {w0:World},Trans Z φ0 w0 e.φ w->(∀a' w',Out c Z K r φ0 w0 a' w'->Q .normal a' w')->wpOps P ops Q is a w:=by
 induction is with
 |nil=>
  intro os e st a w hm h hK φ0 w0 ht hQ;cases os with
  |nil=>exact hQ a w ⟨e,st,h,ht,hK⟩
  |cons=>simp at hm
 |cons i is ih=>
  intro os e st a w hm h hK φ0 w0 ht hQ;cases os with
  |nil=>simp at hm
  |cons o os=>simp only [aaZ,aaa] at hm;simp only [Ch] at hK;rw [wpOps_cons];refine wpOp_mono ?_ (Nf hG hm.1 h hK);rintro a' w' ⟨e2,dV,h1,h2,h3⟩;exact ih hm.2 h1 h3 (ht.trans h2) hQ
end
end Dn
/-
  Parts of a state. Conditions: none.
-/
namespace Dn
open Go
section
variable {P:Program}{c:Ctx}{Z Zi:bR} {e e':Env}{st b7:St}{a:Act} {w w':World}{R:Type}{K:St->Option R}{r:R}{Q:Exit->Act->World->Prop}{o:Oper}
theorem Uw {fs:List Nat}: ∀{e:Env} {st:St},cc c Z e st a w->(∀f∈fs,∀o,aT st.bn f=some o->f∉Z.cV\/o.eX=true)-> ∃φ' m',sR e.φ φ'/\(∀b off,¬Z.In b->φ' b off=e.φ b off)/\cc c Z {e with φ:=φ',m:=m'} {st with bn:=m'} a w/\ (∀f,aT m' f=(aT st.bn f).map λo=>if f∈fs then ⟨o.ty,true,o.xs⟩ else o)/\ (∀f∈fs,∀o I cells,aT st.bn f=some o->c.ti o.ty=some I->w.ownsRow 0 o.ty I.size (e.E f) o.xs.length cells-> ∀bx,(e.E f).ownBlock=some bx-> ∀j,j<cells.length->φ' bx j=cells[j]?):=by
 induction fs with
 |nil=>
  intro e st h _;refine ⟨e.φ,st.bn,.refl _,λ_ _ _=>rfl,?_,λf=>by cases aT st.bn f<;>simp,λf hf=>by simp at hf⟩;have hm:e.m=st.bn:=h.m;have he:({e with φ:=e.φ,m:=st.bn}:Env)=e:=by cases e;simp at hm⊢;exact hm.symm
  rw [he];exact h
 |cons g gs ih=>
  intro e st h hp;cases hg:aT st.bn g with
  |none=>
   obtain ⟨φ',m',h1,h2,h3,h4,h5⟩:=ih h (λf hf=>hp f (by simp [hf]));refine ⟨φ',m',h1,h2,h3,λf=> ?_,λf hf o I cells ho=> ?_⟩
   ·rw [h4];by_cases Oo:f=g
    ·subst Oo;rw [hg];rfl
    ·simp [Oo]
   ·rcases AI.1 hf with rfl|hf
    ·rw [hg] at ho;cases ho
    ·exact h5 f hf o I cells ho
  |some og=>
   obtain ⟨φ1,k1,k2,k3,_,k5⟩:=freeze h hg (hp g (by simp) og hg);obtain ⟨φ',m',h1,h2,h3,h4,h5⟩:=ih k3 (by
    intro f hf o ho;have ho:aT (ck st.bn g ⟨og.ty,true,og.xs⟩) f=some o:=ho;rw [bw] at ho;by_cases Oo:f=g
    ·rw [if_pos Oo] at ho;cases ho;exact .inr rfl
    ·rw [if_neg Oo] at ho;exact hp f (by simp [hf]) o ho)
   refine ⟨φ',m',k1.trans h1,λb off hb=>(h2 b off hb).trans (k2 b off hb),h3,λf=> ?_,λf hf o I cells ho hI fT bx hb j hj=> ?_⟩
   ·rw [h4];show Option.map _ (aT (ck st.bn g ⟨og.ty,true,og.xs⟩) f)=_;rw [bw];by_cases Oo:f=g
    ·subst Oo;simp [hg]
    ·simp [Oo]
   ·by_cases Oo:f=g
    ·subst Oo;rw [hg] at ho;cases ho;exact h1.Dh (k5 I cells hI fT bx hb j hj) hj
    ·rcases AI.1 hf with rfl|hf
     ·exact absurd rfl Oo
     ·refine h5 f hf o I cells ?_ hI fT bx hb j hj;show aT (ck st.bn g ⟨og.ty,true,og.xs⟩) f=_;rw [bw,if_neg Oo];exact ho
end
end Dn
/-
  What a piece of code begins with, and what stays as it was behind it. Conditions: none.
-/
namespace Dn
open Go
theorem vp {l k:List Nat}(h:meets l k=false): ∀x∈l,x∉k:=by
 induction l with
 |nil=>simp
 |cons y l ih=>
  simp only [meets] at h;cases hm:bL k y with
  |true=>simp [hm] at h
  |false=>
   simp only [hm,cond_false] at h;intro x hx;rcases AI.1 hx with rfl|hx
   ·rw [<-bU,hm];simp
   ·exact ih h x hx
theorem H8 {ks:List Nat}{r:Fr}: ∀t∈aV (pK ks r),t∈ks:=by
 induction r with
 |nil=>simp [aV,pK]
 |cons p r ih=>
  obtain ⟨k,x⟩:=p;simp only [pK];cases hb:bL ks k&&!dQ x with
  |false=>simpa using ih
  |true=>
   simp only [sh] at hb;intro t ht;simp only [cond_true,aV,aaZ,AI] at ht;rcases ht with rfl|ht
   ·exact (bU _ _).1 hb.1
   ·exact ih t ht
theorem Lt {qs:List Nat}{r:Fr}:aV (Q6 qs r)=aV r:=by simp [aV,Q6]
theorem F7 {ks fs qs:List Nat}{m:List (Nat×pH)}{f:Nat}: aT (tO ks fs qs m) f=if f∈ks then (aT m f).map λo=>if f∈fs/\f∉qs then ⟨o.ty,true,o.xs⟩ else o else none:=by
 induction m with
 |nil=>simp [tO,aT]
 |cons p m ih=>
  obtain ⟨k,o⟩:=p;simp only [tO];by_cases hk:k=f
  ·subst hk;cases hm:bL ks k with
   |false=>
    have:k∉ks:=by rw [<-bU,hm];simp
    simp only [cond_false,ih,this,if_false]
   |true=>
    have:k∈ks:=(bU _ _).1 hm;simp only [cond_true,this,if_true,aT,eH,decide_true];cases hc:bL fs k&&!bL qs k with
    |true=>
     simp only [sh,aai] at hc;have h1:=(bU _ _).1 hc.1;have h2:k∉qs:=by rw [<-bU,hc.2];simp
     simp [aT,eH,h1,h2]
    |false=>
     have: ¬(k∈fs/\k∉qs):=by
      rintro ⟨h1,h2⟩;rw [<-bU] at h1;have h2:bL qs k=false:=by cases hq:bL qs k with|false=>rfl|true=>exact absurd ((bU _ _).1 hq) h2
      simp [h1,h2] at hc
     simp [aT,eH,this]
  ·cases hm:bL ks k with
   |false=>simp only [cond_false,ih,aT,eH,hk,decide_false]
   |true=>simp only [cond_true,aT,eH,hk,decide_false,cond_false];cases bL fs k&&!bL qs k<;>simp only [cond_true,cond_false,aT,eH,hk,decide_false]<;>exact ih
theorem vq (m n:List (Nat×pH))(f:Nat):aT (m++n) f=(match aT m f with|some o=>some o|none=>aT n f):=by
 induction m with
 |nil=>simp [aT]
 |cons p m ih=>obtain ⟨k,o⟩:=p;simp only [aaS,aT,eH];by_cases hk:k=f<;>simp [hk,ih]
def pR:Slot->List aJ
 | .sc l=>[l]
 | .ag cs=>cs
 | .box cs=>cs
 |_=>[]
section
variable {P:Program}{c:Ctx}{Z Zb Zi:bR} {e e':Env}{st b7 B:St} {a a':Act} {w w':World}{R:Type}{K:St->Option R}{r:R}{Q:Exit->Act->World->Prop}{o:Oper}{hn:pJ}
structure kN (c:Ctx) (Zb Zi:bR) (e:Env) (B:St) (hn:pJ) (a:Act) (w:World):Prop where
 vm:cc c Zb e B a w
 sub: ∀b,Zi.In b->Zb.In b
 new: ∀b,w.heap.size<=b->Zi.In b
 cJ: ∀t∈Zb.cJ,t∈Zi.cJ
 T: ∀t∈Zi.cJ,a.tmps.getD t undef=Zi.T t
 keys: ∀t∈aV B.fr,t∈Zi.cJ
 box: ∀t cs,aw B.fr t= .box cs-> ¬Zi.In (e.B t)
 jA: ∀f o b,aT B.bn f=some o->(e.E f).ownBlock=some b-> ¬Zi.In b
 Xu: ∀t∈dU hn.all,t∉Zb.cJ/\t∉Zi.cJ
 Ux: ∀f∈cB hn.all,f∉Zb.cV/\aT B.bn f=none
 ptr: ∀t,dQ (aw B.fr t)=false
 VU: ∀t f,aJ.own f∈pR (aw B.fr t)->f∉cB hn.all
theorem kN.later {φ':Ph}(h:kN c Zb Zi e B hn a w)(ht:Trans Zi.In e.φ w φ' w')(hi:Du φ' w')(hd:a'.defers=[])(hs:a'.tmps.size=c.n)(hT: ∀t∈Zi.cJ,a'.tmps.getD t undef=Zi.T t): kN c Zb Zi {e with φ:=φ'} B hn a' w':=by
 have h1:=h.vm.called (Z':=Zi.In) h.sub h.box h.jA ht hi;refine ⟨?_,h.sub,λb hb=>h.new b (aco ht.size hb),h.cJ,hT,h.keys,h.box,h.jA,h.Xu,h.Ux,h.ptr,h.VU⟩;have qI: ∀t∈Zi.cJ,a'.tmps.getD t undef=a.tmps.getD t undef:=λt ht=>(hT t ht).trans (h.T t ht).symm;refine ⟨⟨hd,h1.defers.2.1,h1.defers.2.2.1,λt ht=>(qI t (h.cJ t ht)).trans (h1.defers.2.2.2 t ht)⟩,hs,h1.m,h1.key,h1.nodup,?_,h1.root,h1.jA,h1.bb,h1.bf,h1.ff,h1.pM,h1.cP⟩;intro t;by_cases hk:t∈aV B.fr
 ·rw [qI t (h.keys t hk)];exact h1.slot t
 ·rw [tm _ _ hk];simp [cz,ah]
theorem Uy {K2:St->St->Option R}(h:cc c Z e st a w)(hK:Q2 c hn st K2=some r): ∃Zi e1 e2 cR dV,cc c Zi e1 cR a w/\Trans Z.In e.φ w e1.φ w/\e2.φ=e1.φ/\e2.key=e1.key/\kN c Z Zi e2 (vY st dV) hn a w/\kN c Zi Zi e2 dV hn a w/\(∀b,Zi.In b->Z.In b)/\fC c hn.all=true/\K2 cR dV=some r:=by
 obtain ⟨p,q,fr,m⟩:=st;unfold Q2 at hK;simp only [zG,Z9,ads,Wy] at hK;cases Oq:!fC c hn.all||meets (dU hn.all) p||meets (cB hn.all) q||meets (dU hn.all) hn.cJ||meets (cB hn.all) hn.cV with
 |true=>simp [Oq] at hK
 |false=>
  simp only [Oq,cond_false] at hK;simp only [IT,abb] at Oq;obtain ⟨⟨⟨⟨m0,m1⟩,m2⟩,m3⟩,m4⟩:=Oq;have m1:=vp m1;have m2:=vp m2;have m3:=vp m3;have m4:=vp m4;have RG:p=Z.cJ/\q=Z.cV:=⟨h.defers.2.1,h.defers.2.2.1⟩
  let mp:=tO hn.cV hn.eX q m;let mo:=tO (cB hn.all) hn.eX q m;let rp:=Q6 hn.cV (pK hn.cJ fr);let ro:=pK (dU hn.all) fr;let fs:=hn.cV.filter λf=>match aT mp f with|some o=>o.eX|none=>false
  have Cw: ∀f o,aT mp f=some o->f∈hn.cV/\ ∃o0,aT m f=some o0/\o0.ty=o.ty/\o0.xs=o.xs/\(o0.eX=true->o.eX=true)/\(f∈q->o=o0):=by
   intro f o ho;have ho:aT (tO hn.cV hn.eX q m) f=some o:=ho;rw [F7] at ho;split at ho
   ·rename_i hf;refine ⟨hf,?_⟩;cases h0:aT m f with
    |none=>rw [h0] at ho;cases ho
    |some o0=>
     rw [h0] at ho;simp only [abk,AT] at ho;refine ⟨o0,rfl,?_⟩;split at ho
     ·rename_i hc;subst ho;exact ⟨rfl,rfl,λ_=>rfl,λhq=>absurd hq hc.2⟩
     ·subst ho;exact ⟨rfl,rfl,id,λ_=>rfl⟩
   ·cases ho
  have hmo: ∀f o,aT mo f=some o->f∈cB hn.all/\ ∃o0,aT m f=some o0/\o0.ty=o.ty/\o0.xs=o.xs/\(o0.eX=true->o.eX=true):=by
   intro f o ho;have ho:aT (tO (cB hn.all) hn.eX q m) f=some o:=ho;rw [F7] at ho;split at ho
   ·rename_i hf;refine ⟨hf,?_⟩;cases h0:aT m f with
    |none=>rw [h0] at ho;cases ho
    |some o0=>
     rw [h0] at ho;simp only [abk,AT] at ho;refine ⟨o0,rfl,?_⟩;split at ho
     ·subst ho;exact ⟨rfl,rfl,λ_=>rfl⟩
     ·subst ho;exact ⟨rfl,rfl,id⟩
   ·cases ho
  obtain ⟨φ',m',f1,f2,f3,f4,f5⟩:=Uw (fs:=fs) h (by
   intro f hf o ho;simp only [fs,acm] at hf;obtain ⟨M0,Dc⟩:=hf;by_cases hq:f∈Z.cV
   ·right;cases Kt:aT mp f with
    |none=>simp [Kt] at Dc
    |some o1=>simp only [Kt] at Dc;obtain ⟨_,o0,g1,_,_,_,g5⟩:=Cw f o1 Kt;have ho:aT m f=some o:=ho;rw [g1] at ho;cases ho;have:=g5 (by rw [RG.2];exact hq);rw [<-this];exact Dc
   ·exact .inl hq)
  let Zi:bR:=⟨λb=>Z.In b/\(∀t cs,aw rp t= .box cs->e.B t≠b)/\(∀f o,aT mp f=some o->(e.E f).ownBlock≠some b),hn.cJ++p,hn.cV++q,λt=>a.tmps.getD t undef,False,λ_=>True⟩
  have tp: ∀b,w.heap.size<=b->Zi.In b:=by
   intro b hb;refine ⟨f3.cP b hb,λt cs ht=> ?_,λf o ho Ko=> ?_⟩
   ·have ZL:aw rp t=Kg hn.cV (aw (pK hn.cJ fr) t):=Lf _ _ _;rw [ZL,Cm _ _ h.nodup] at ht;split at ht
    ·have: ∃GP,aw fr t= .box GP:=by generalize aw fr t=s at ht;cases s<;>simp only [Kg] at ht<;>first|(cases ht;done)|exact ⟨_,rfl⟩
     obtain ⟨GP,h0⟩:=this;have:=E4 (st:=⟨p,q,fr,m⟩) h h0;omega
    ·simp [Kg,Q5] at ht
   ·obtain ⟨_,o0,g1,_⟩:=Cw f o ho;have:=E5 (st:=⟨p,q,fr,m⟩) h g1 Ko;omega
  have aaG: ∀t,aw rp t=if bL hn.cJ t&&!dQ (aw fr t) then Kg hn.cV (aw fr t) else .sc .un:=by intro t;have ZL:aw rp t=Kg hn.cV (aw (pK hn.cJ fr) t):=Lf _ _ _;rw [ZL,Cm _ _ h.nodup];split<;>rfl
  have adZ: ∀t,aw ro t=if bL (dU hn.all) t&&!dQ (aw fr t) then aw fr t else .sc .un:=λt=>Cm _ _ h.nodup t
  have ad0: ∀t∈aV rp,t∈hn.cJ:=by intro t ht;have ht:t∈aV (Q6 hn.cV (pK hn.cJ fr)):=ht;rw [Lt] at ht;exact H8 t ht
  have H9: ∀t cs,aw rp t= .box cs->t∈hn.cJ/\ ∃GP,aw fr t= .box GP:=by
   intro t cs ht;rw [aaG] at ht;split at ht
   ·rename_i hc;simp only [sh] at hc;refine ⟨(bU _ _).1 hc.1,?_⟩;generalize aw fr t=s at ht;cases s<;>simp only [Kg] at ht<;>first|(cases ht;done)|exact ⟨_,rfl⟩
   ·cases ht
  have als: ∀f o,aT mp f=some o->o.eX=true->f∈fs:=by intro f o ho hz;simp only [fs,acm];exact ⟨(Cw f o ho).1,by simp only [ho];exact hz⟩
  have HE: ∀f o0,aT m f=some o0->aT m' f=some (if f∈fs then ⟨o0.ty,true,o0.xs⟩ else o0):=by intro f o0 h0;rw [f4];show Option.map _ (aT m f)=_;rw [h0];rfl
  have acq: ∀f o,aT (mp++mo) f=some o-> ∃o1,aT m' f=some o1/\o1.ty=o.ty/\o1.xs=o.xs/\(o1.eX=true->o.eX=true):=by
   intro f o ho;rw [vq] at ho;cases Kt:aT mp f with
   |some o1=>
    simp only [Kt,AT] at ho;subst ho;obtain ⟨_,o0,g1,g2,g3,g4,_⟩:=Cw f o1 Kt;refine ⟨_,HE f o0 g1,?_⟩;split
    ·rename_i Xv;refine ⟨g2,g3,λ_=> ?_⟩;simp only [fs,acm,Kt] at Xv;exact Xv.2
    ·exact ⟨g2,g3,g4⟩
   |none=>
    simp only [Kt] at ho;obtain ⟨g0,o0,g1,g2,g3,g4⟩:=hmo f o ho;refine ⟨_,HE f o0 g1,?_⟩;have:f∉fs:=by intro Xv;simp only [fs,acm] at Xv;exact m4 f g0 Xv.1
    rw [if_neg this];exact ⟨g2,g3,g4⟩
  have ahg: ∀f o,aT mp f=some o-> ∃o1,aT m' f=some o1/\o1.ty=o.ty/\o1.xs=o.xs/\(o1.eX=true->o.eX=true):=by intro f o ho;exact acq f o (by rw [vq,ho])
  have aau: ∀f o I cells b,aT mp f=some o->o.eX=true->c.ti o.ty=some I->w.ownsRow 0 o.ty I.size (e.E f) o.xs.length cells->(e.E f).ownBlock=some b-> ∀j,j<cells.length->φ' b j=cells[j]? :=by intro f o I cells b ho hz hI fT hb j hj;obtain ⟨_,o0,g1,g2,g3,_⟩:=Cw f o ho;exact f5 f (als f o ho hz) o0 I cells g1 (by rw [g2];exact hI) (by rw [g2,g3];exact fT) b hb j hj
  have ahh:(hn.cJ++p)=Zi.cJ/\(hn.cV++q)=Zi.cV/\ ∀t∈Zi.cJ,a.tmps.getD t undef=Zi.T t:=⟨rfl,rfl,λ_ _=>rfl⟩
  have hkd:(aV rp).Nodup:=by have:aV rp=aV (pK hn.cJ fr):=Lt;rw [this];exact (xM _ _).nodup h.nodup
  have Xw: ∀t,aw rp t= .sc .un\/(dQ (aw fr t)=false/\(aw rp t=aw fr t\/ ∃qs,aw rp t=Kg qs (aw fr t))):=by
   intro t;rw [aaG];cases hc:bL hn.cJ t&&!dQ (aw fr t) with
   |false=>exact .inl (by simp)
   |true=>simp only [sh,aai] at hc;exact .inr ⟨hc.2,.inr ⟨hn.cV,by simp⟩⟩
  have acr: ∀(Zb:bR) (pb qb:List Nat),pb=Zb.cJ->qb=Zb.cV->(∀t∈Zb.cJ,a.tmps.getD t undef=Zb.T t)->(∀t∈Z.cJ,t∈Zb.cJ)->(∀t cs,aw rp t= .box cs->(t∈Zb.cJ/\Zb.Pr (e.B t))\/Zb.In (e.B t))-> (∀f o b,aT mp f=some o->(e.E f).ownBlock=some b->(f∈Zb.cV/\Zb.Pr b)\/Zb.In b)->(∀b,w.heap.size<=b->Zb.In b)->cc c Zb {e with φ:=φ',m:=mp} ⟨pb,qb,rp,mp⟩ a w:=by intro Zb pb qb h1 h2 h3 hpp h4 h5 h6;exact f3.sub (b7:=⟨pb,qb,rp,mp⟩) hpp ⟨h1,h2,h3⟩ hkd Xw ahg h4 h5 (λf o I cells b ho _ hz hI fT hb j hj=>aau f o I cells b ho hz hI fT hb j hj) h6
  have aaH: ∀t f,aJ.own f∈pR (aw rp t)->f∉cB hn.all:=by
   intro t f hf;have:f∈hn.cV:=by
    rw [aaG] at hf;split at hf
    ·generalize aw fr t=s at hf;cases s<;>simp only [Kg,pR,AI,aba,List.not_mem_nil,or_false] at hf
     ·exact Q7 hn.cV _ f hf.symm
     ·obtain ⟨l,_,hl⟩:=hf;exact Q7 hn.cV l f hl
     ·obtain ⟨l,_,hl⟩:=hf;exact Q7 hn.cV l f hl
    ·simp [pR] at hf
   exact λho=>m4 f ho this
  have WU: ∀t,dQ (aw rp t)=false:=by
   intro t;rw [aaG];split
   ·rename_i hc;simp only [sh,aai] at hc;generalize aw fr t=s at hc;cases s<;>simp [dQ] at hc<;>rfl
   ·rfl
  have acs: ∀b,Zi.In b->Z.In b:=λb hb=>hb.1;refine ⟨Zi,{e with φ:=φ',m:=mp++mo},{e with φ:=φ',m:=mp},⟨hn.cJ++p,hn.cV++q,rp++ro,mp++mo⟩,⟨hn.cJ++p,hn.cV++q,rp,mp⟩,?_,⟨f1,λ_ _ _=>rfl,f2,acg _,.refl _⟩,rfl,rfl,?_,?_,acs,m0,hK⟩
  ·have hkk: ∀t,aw (rp++ro) t=aw rp t\/(t∈dU hn.all/\aw rp t= .sc .un/\aw (rp++ro) t=aw ro t):=by
    intro t;rw [zH];by_cases hk:t∈aV rp
    ·simp [hk]
    ·simp only [hk,if_false];have h0:=tm rp t hk;by_cases On:t∈dU hn.all
     ·exact .inr ⟨On,h0,trivial⟩
     ·left;rw [h0,adZ];have:bL (dU hn.all) t=false:=by cases hq:bL (dU hn.all) t with|false=>rfl|true=>exact absurd ((bU _ _).1 hq) On
      simp [this]
   refine f3.sub (b7:=⟨hn.cJ++p,hn.cV++q,rp++ro,mp++mo⟩) (λt ht=>aah _ (by rw [RG.1];exact ht)) ahh ?_ ?_ acq ?_ ?_ ?_ tp
   ·show (aV (rp++ro)).Nodup;have:aV (rp++ro)=aV rp++aV ro:=by simp [aV]
    rw [this];refine List.nodup_append.2 ⟨hkd,(xM _ _).nodup h.nodup,?_⟩;intro x hx y hy ZK;subst ZK;exact m3 x (H8 x hy) (ad0 x hx)
   ·intro t;show aw (rp++ro) t=_\/(_/\(aw (rp++ro) t=_\/ ∃qs,aw (rp++ro) t=_));rcases hkk t with hk|⟨Xx,On,hk⟩
    ·rw [hk];exact Xw t
    ·rw [hk,adZ];cases hc:bL (dU hn.all) t&&!dQ (aw fr t) with
     |false=>exact .inl (by simp)
     |true=>simp only [sh,aai] at hc;exact .inr ⟨hc.2,.inl (by simp)⟩
   ·intro t cs ht;have ht:aw (rp++ro) t= .box cs:=ht;rcases hkk t with hk|⟨Xx,On,hk⟩
    ·rw [hk] at ht;exact .inl ⟨No _ (H9 t cs ht).1,trivial⟩
    ·rw [hk,adZ] at ht;split at ht
     ·right;refine ⟨?_,?_,?_⟩
      ·have hs:=h.slot t;have Dl:aw (St.fr ⟨p,q,fr,m⟩) t= .box cs:=ht;rw [Dl] at hs;refine Oj hs.2.cP ?_;rw [<-RG.1];exact m1 t Xx
      ·intro t2 qC tU tP;obtain ⟨g1,GP,g2⟩:=H9 t2 qC tU;exact h.bb t2 t GP cs g2 ht (by intro he;subst he;exact m3 t2 Xx g1) tP
      ·intro f o ho tP;obtain ⟨_,o0,g1,_⟩:=Cw f o ho;exact h.bf t cs f o0 ht g1 tP
     ·cases ht
   ·intro f o b ho hb;have ho:aT (mp++mo) f=some o:=ho;rw [vq] at ho;cases Kt:aT mp f with
    |some o1=>exact .inl ⟨No _ (Cw f o1 Kt).1,trivial⟩
    |none=>
     right;simp only [Kt] at ho;obtain ⟨g0,o0,g1,_⟩:=hmo f o ho;obtain ⟨I,cells,_,_,_,_,g5⟩:=(h.jA f o0 g1).row;refine ⟨Oj (g5 b hb).1 (by rw [<-RG.2];exact m2 f g0),?_,?_⟩
     ·intro t cs ht tP;obtain ⟨_,GP,k2⟩:=H9 t cs ht;exact h.bf t GP f o0 k2 g1 (by rw [tP];exact hb)
     ·intro f2 o2 cU tP;obtain ⟨k0,o20,k1,_⟩:=Cw f2 o2 cU;have:=h.ff f f2 o0 o20 b g1 k1 hb tP;subst this;exact m4 f g0 k0
   ·intro f o I cells b ho hp hz hI fT hb j hj;have ho:aT (mp++mo) f=some o:=ho;rw [vq] at ho;cases Kt:aT mp f with
    |some o1=>simp only [Kt,AT] at ho;subst ho;exact aau f o1 I cells b Kt hz hI fT hb j hj
    |none=>
     simp only [Kt] at ho;obtain ⟨g0,_⟩:=hmo f o ho;exfalso;rcases abj.1 hp with hp|hp
     ·exact m4 f g0 hp
     ·exact m2 f g0 hp
  ·refine ⟨acr Z p q RG.1 RG.2 h.defers.2.2.2 (λ_ h=>h) ?_ ?_ f3.cP,acs,tp,λt ht=>aah _ (by rw [RG.1];exact ht),λ_ _=>rfl,λt ht=>No _ (ad0 t ht),?_,?_,?_,?_,WU,aaH⟩
   ·intro t cs ht;obtain ⟨_,GP,g2⟩:=H9 t cs ht;have hs:=h.slot t;have g2':aw (St.fr ⟨p,q,fr,m⟩) t= .box GP:=g2;rw [g2'] at hs;exact hs.2.cP
   ·intro f o b ho hb;obtain ⟨_,o0,g1,_⟩:=Cw f o ho;obtain ⟨I,cells,_,_,_,_,g5⟩:=(h.jA f o0 g1).row;exact (g5 b hb).1
   ·intro t cs ht hz;exact hz.2.1 t cs ht rfl
   ·intro f o b ho hb hz;exact hz.2.2 f o ho hb
   ·intro t ht;exact ⟨by rw [<-RG.1];exact m1 t ht,by show t∉hn.cJ++p;simp only [abj,not_or];exact ⟨m3 t ht,m1 t ht⟩⟩
   ·intro f hf;refine ⟨by rw [<-RG.2];exact m2 f hf,?_⟩;cases Kt:aT mp f with
    |none=>first|exact Kt|rfl
    |some o1=>exact absurd (Cw f o1 Kt).1 (m4 f hf)
  ·refine ⟨acr Zi _ _ rfl rfl (λ_ _=>rfl) (λt ht=>aah _ (by rw [RG.1];exact ht)) ?_ ?_ tp,λb hb=>hb,tp,λt ht=>ht,λ_ _=>rfl,λt ht=>No _ (ad0 t ht),?_,?_,?_,?_,WU,aaH⟩
   ·intro t cs ht;exact .inl ⟨No _ (H9 t cs ht).1,trivial⟩
   ·intro f o b ho hb;exact .inl ⟨No _ (Cw f o ho).1,trivial⟩
   ·intro t cs ht hz;exact hz.2.1 t cs ht rfl
   ·intro f o b ho hb hz;exact hz.2.2 f o ho hb
   ·intro t ht;have:t∉hn.cJ++p:=by simp only [abj,not_or];exact ⟨m3 t ht,m1 t ht⟩
    exact ⟨this,this⟩
   ·intro f hf;refine ⟨by show f∉hn.cV++q;simp only [abj,not_or];exact ⟨m4 f hf,m2 f hf⟩,?_⟩;cases Kt:aT mp f with
    |none=>first|exact Kt|rfl
    |some o1=>exact absurd (Cw f o1 Kt).1 (m4 f hf)
theorem zS {K2:St->St->Option R}(h:cc c Z e st a w)(hK:Ci c hn st K2=some r): ∃Zi e1 e2 cR dV,cc c Zi e1 cR a w/\Trans Z.In e.φ w e1.φ w/\e2.φ=e1.φ/\e2.key=e1.key/\kN c Z Zi e2 (vY st dV) hn a w/\kN c Zi Zi e2 dV hn a w/\(∀b,Zi.In b->Z.In b)/\fC c hn.all=true/\K2 cR dV=some r:=by unfold Ci at hK;obtain ⟨Zi,e1,e2,cR,dV,h1,t1,hφ,hk,j1,j2,kC,kz,hK⟩:=Uy h hK;obtain ⟨fr,g1,g2⟩:=HY h (O1 h.nodup) h1 hK;exact ⟨Zi,e1,e2,_,dV,g1,t1,hφ,hk,j1,j2,kC,kz,g2⟩
end
end Dn
/-
  What a piece of code hands on. Conditions: none.
-/
namespace Dn
open Go
section
variable {P:Program}{c:Ctx}{Z Zb Zi:bR} {e e' e3:Env}{st b7 qD B:St} {a a':Act} {w w':World}{R:Type}{K:St->Option R}{r:R}{Q:Exit->Act->World->Prop}{o:Oper}{hn:pJ}
structure Ev (S:Nat->Prop) (e e':Env):Prop where
 key:e'.key=e.key
 φ:e'.φ=e.φ
 jA: ∀f o,aT e'.m f=some o->S f->(∃o0,aT e.m f=some o0)/\e'.E f=e.E f
theorem Ev.refl (S:Nat->Prop)(e:Env):Ev S e e:=⟨rfl,rfl,λf o h _=>⟨⟨o,h⟩,rfl⟩⟩
theorem Ev.trans {S:Nat->Prop} {e e' e'':Env}(h:Ev S e e') (h':Ev S e' e''):Ev S e e'':=⟨h'.key.trans h.key,h'.φ.trans h.φ,λf o ho hs=>by obtain ⟨⟨o1,g1⟩,g2⟩:=h'.jA f o ho hs;obtain ⟨g3,g4⟩:=h.jA f o1 g1 hs;exact ⟨g3,g2.trans g4⟩⟩
theorem Ev.alu {S S':Nat->Prop} {e e':Env}(h:Ev S e e')(hs: ∀f,S' f->S f):Ev S' e e':=⟨h.key,h.φ,λf o ho hf=>h.jA f o ho (hs f hf)⟩
theorem aY.ev {S:Nat->Prop}(h:Ev S e e'){vs:List Value}{l:aJ}(hl: ∀f,l= .own f->S f)(hr:aY e vs l):aY e' vs l:=by
 cases l with
 |own f=>obtain ⟨v,rfl,hv,hf⟩:=hr;refine ⟨v,rfl,hv,λo' Km=> ?_⟩;obtain ⟨⟨o,ho⟩,hE⟩:=h.jA f o' Km (hl f rfl);rw [hE];exact hf o ho
 |p m=>exact ⟨hr.1,by rw [h.key,h.φ];exact hr.2⟩
 |_=>exact hr
theorem aC.ev {S:Nat->Prop}(h:Ev S e e'){cs:List aJ}: ∀{vs:List Value},(∀f,aJ.own f∈cs->S f)->aC e vs cs->aC e' vs cs:=by
 induction cs with
 |nil=>intro vs _ hr;exact hr
 |cons l r ih=>intro vs hl hr;obtain ⟨v,u,rfl,h1,h2⟩:=hr;exact ⟨v,u,rfl,h1.ev h (λf hf=>hl f (by simp [hf])),ih (λf hf=>hl f (by simp [hf])) h2⟩
theorem kT.ev {S:Nat->Prop}(h:Ev S e e'){ob:Obj}{cs:List aJ}(hl: ∀f,aJ.own f∈cs->S f)(hr:kT e ob cs):kT e' ob cs:=by
 cases ob with
 |cells arr T z=>exact ⟨hr.1,hr.2.ev h hl⟩
 |map es clock=>exact hr
 |stringIter x pos=>exact hr
 |_=>exact hr.elim
theorem ah.ev {S:Nat->Prop}(h:Ev S e e'){v:Value}{s:Slot}(hp:dQ s=false)(hl: ∀f,aJ.own f∈pR s->S f)(hr:ah e v s):ah e' v s:=by
 have Xd:n9 (λ_=>False) (λ_=>False) e e':=⟨h.key,by rw [h.φ];exact .refl _,λ_ hf=>hf.elim,λ_ _ _ hf=>hf.elim⟩
 cases s with
 |sc l=>
  cases l<;>first|exact hr|skip
  ·exact aY.ev (l:= .p _) h (λf hf=>by cases hf) hr
  ·rename_i f;exact aY.ev (l:= .own f) h (λf hf=>hl f (by simp [pR,hf])) hr
 |ag cs=>simp only [ah] at hr⊢;obtain ⟨arr,h1,h2⟩:=hr;exact ⟨arr,h1,h2.ev h (λf hf=>hl f hf)⟩
 |ptr=>simp [dQ] at hp
 |zC=>simp [dQ] at hp
 |rp=>simp [dQ] at hp
 |hp=>simp [dQ] at hp
 |ep=>simp [dQ] at hp
 |_=>exact hr.on Xd (by simp [gQ])
theorem wW {fr:Fr}{s:Slot}(h:dQ s=false):cS fr s:=by cases s<;>simp [dQ] at h<;>trivial
theorem cc.aaI {t:Nat}{s:Slot}(h:cc c Z e st a w)(hp: ∀t,dQ (aw st.fr t)=false)(hs:dQ s=false)(hb:di s=false)(hr:ah e (a.tmps.getD t undef) s): cc c Z e {st with fr:=dg st.fr t s} a w:=by
 have hg: ∀t',aw (dg st.fr t s) t'=if t'=t then s else aw st.fr t':=λt'=>cb _ _ _ _
 have sS: ∀t' cs,aw (dg st.fr t s) t'= .box cs->t'≠t/\aw st.fr t'= .box cs:=by
  intro t' cs ht;rw [hg] at ht;by_cases wc:t'=t
  ·rw [if_pos wc] at ht;subst ht;simp [di] at hb
  ·rw [if_neg wc] at ht;exact ⟨wc,ht⟩
 refine ⟨h.defers,h.size,h.m,h.key,fP h.nodup,?_,?_,h.jA,?_,?_,h.ff,h.pM,h.cP⟩
 ·intro t';show cz Z e w t' _ (aw (dg st.fr t s) t');rw [hg];by_cases wc:t'=t
  ·subst wc;simp only [if_true];cases s<;>first|exact hr|(simp [di] at hb)
  ·simp only [wc,if_false];exact h.slot t'
 ·intro t';show cS _ (aw (dg st.fr t s) t');rw [hg];by_cases wc:t'=t
  ·simp only [wc,if_true];exact wW hs
  ·simp only [wc,if_false];exact wW (hp t')
 ·intro t1 t2 c1 c2 h1 h2 dS;exact h.bb t1 t2 c1 c2 (sS t1 c1 h1).2 (sS t2 c2 h2).2 dS
 ·intro t1 c1 f o h1 h2;exact h.bf t1 c1 f o (sS t1 c1 h1).2 h2
theorem cc.ad1 {t bx:Nat}{cs:List aJ}(h:cc c Z e st a w)(hp: ∀t,dQ (aw st.fr t)=false)(hv:tied Z t (a.tmps.getD t undef) cs bx)(Ds:vf (Z.bz t) e w bx cs)(h1: ∀t' kh,aw st.fr t'= .box kh->t'≠t->e.B t'≠bx)(h2: ∀f o,aT st.bn f=some o->(e.E f).ownBlock≠some bx): cc c Z (e.Dk t bx) {st with fr:=dg st.fr t (.box cs)} a w:=by
 have xF:n9 (λ_=>True) (λ_=>False) e (e.Dk t bx):=⟨rfl,.refl _,λr hr=>hr.elim,λf o ho _=>⟨o,ho,rfl,rfl⟩⟩
 have hg: ∀t',aw (dg st.fr t (.box cs)) t'=if t'=t then .box cs else aw st.fr t':=λt'=>cb _ _ _ _
 refine ⟨h.defers,h.size,h.m,h.key,fP h.nodup,?_,?_,λf o ho=>(h.jA f o ho).env rfl rfl,?_,?_,h.ff,h.pM,h.cP⟩
 ·intro t';show cz Z _ w t' _ (aw (dg st.fr t (.box cs)) t');rw [hg];by_cases wc:t'=t
  ·subst wc;simp only [if_true,cz,Env.Dk];exact ⟨hv,Ds.env rfl rfl rfl rfl⟩
  ·simp only [wc,if_false];have hs:=h.slot t';have FV:=hp t';generalize aw st.fr t'=s at hs FV;cases s<;>simp only [cz] at hs⊢ <;>first|(simp [dQ] at FV;done)|exact hs.on xF (by simp [gQ,kw])|skip
   simp only [Env.Dk,wc,if_false];exact ⟨hs.1,hs.2.env rfl rfl rfl rfl⟩
 ·intro t';show cS _ (aw (dg st.fr t (.box cs)) t');rw [hg];by_cases wc:t'=t
  ·simp only [wc,if_true];trivial
  ·simp only [wc,if_false];exact wW (hp t')
 ·intro t1 t2 c1 c2 g1 g2 dS;have g1:aw (dg st.fr t (.box cs)) t1= .box c1:=g1;have g2:aw (dg st.fr t (.box cs)) t2= .box c2:=g2;rw [hg] at g1 g2;simp only [Env.Dk];by_cases k1:t1=t
  ·by_cases k2:t2=t
   ·exact absurd (k1.trans k2.symm) dS
   ·rw [if_neg k2] at g2;simp only [k1,k2,if_true,if_false];exact λhe=>h1 t2 c2 g2 k2 he.symm
  ·rw [if_neg k1] at g1;by_cases k2:t2=t
   ·simp only [k1,k2,if_true,if_false];exact h1 t1 c1 g1 k1
   ·rw [if_neg k2] at g2;simp only [k1,k2,if_false];exact h.bb t1 t2 c1 c2 g1 g2 dS
 ·intro t1 c1 f o g1 g2;have g1:aw (dg st.fr t (.box cs)) t1= .box c1:=g1;rw [hg] at g1;simp only [Env.Dk];by_cases k1:t1=t
  ·simp only [k1,if_true];exact h2 f o g2
  ·rw [if_neg k1] at g1;simp only [k1,if_false];exact h.bf t1 c1 f o g1 g2
def Env.Nh (e:Env)(f:Nat)(v:Value)(fo:pH):Env:={e with E:=λg=>if g=f then v else e.E g,m:=ck e.m f fo}
theorem cc.Xy {f:Nat}{v:Value}{fo:pH}(h:cc c Z e st a w)(hp: ∀t,dQ (aw st.fr t)=false)(Cq:f∉Z.cV)(mM:dW c Z.nc e w v fo)(hb: ∀b,v.ownBlock=some b->(∀t cs,aw st.fr t= .box cs->e.B t≠b)/\(∀g o,g≠f->aT st.bn g=some o->(e.E g).ownBlock≠some b))(Kn:Ev (λg=> ∃t,aJ.own g∈pR (aw st.fr t)) e (e.Nh f v fo)):cc c Z (e.Nh f v fo) {st with bn:=ck st.bn f fo} a w:=by
 refine ⟨h.defers,h.size,by show ck e.m f _=ck st.bn f _;rw [h.m],h.key,h.nodup,?_,h.root,?_,h.bb,?_,?_,h.pM,h.cP⟩
 ·intro t;have hs:=h.slot t;have hl: ∀f,aJ.own f∈pR (aw st.fr t)-> ∃t,aJ.own f∈pR (aw st.fr t):=λf hf=>⟨t,hf⟩
  have hpt:=hp t;show cz Z _ w t _ (aw st.fr t);generalize aw st.fr t=s at hs hpt hl;by_cases HR: ∃cs,s= .box cs
  ·obtain ⟨cs,rfl⟩:=HR;simp only [cz] at hs⊢;obtain ⟨o2,h1,h2⟩:=hs.2.obj;exact ⟨hs.1,hs.2.cP,⟨o2,h1,h2.ev Kn hl⟩,hs.2.free⟩
  ·have BQ:ah e (a.tmps.getD t undef) s:=by cases s<;>simp only [cz] at hs<;>first|exact hs|exact absurd ⟨_,rfl⟩ HR
   have h2:=BQ.ev Kn hpt hl;cases s<;>first|exact h2|exact absurd ⟨_,rfl⟩ HR
 ·intro f2 o2 cU;have cU:aT (ck st.bn f fo) f2=some o2:=cU;rw [bw] at cU;show dW c (Z.fz f2) _ w (if f2=f then v else e.E f2) o2;by_cases gl:f2=f
  ·rw [if_pos gl];rw [if_pos gl] at cU;cases cU;rw [gl];exact (mM.to Cq).env rfl rfl
  ·rw [if_neg gl];rw [if_neg gl] at cU;exact (h.jA f2 o2 cU).env rfl rfl
 ·intro t c1 f2 o2 h1 h2;have h2:aT (ck st.bn f fo) f2=some o2:=h2;rw [bw] at h2;show (if f2=f then v else e.E f2).ownBlock≠some (e.B t);by_cases gl:f2=f
  ·rw [if_pos gl];intro hh;exact (hb _ hh).1 t c1 h1 rfl
  ·rw [if_neg gl] at h2⊢;exact h.bf t c1 f2 o2 h1 h2
 ·intro f1 f2 o1 o2 k h1 h2 h3 h4;have h1:aT (ck st.bn f fo) f1=some o1:=h1;have h2:aT (ck st.bn f fo) f2=some o2:=h2;have h3:(if f1=f then v else e.E f1).ownBlock=some k:=h3;have h4:(if f2=f then v else e.E f2).ownBlock=some k:=h4;rw [bw] at h1 h2;by_cases k1:f1=f
  ·by_cases k2:f2=f
   ·rw [k1,k2]
   ·rw [if_pos k1] at h3;rw [if_neg k2] at h4 h2;exact absurd h4 ((hb k h3).2 f2 o2 k2 h2)
  ·rw [if_neg k1] at h3 h1;by_cases k2:f2=f
   ·rw [if_pos k2] at h4;exact absurd h3 ((hb k h4).2 f1 o1 k1 h1)
   ·rw [if_neg k2] at h4 h2;exact h.ff f1 f2 o1 o2 k h1 h2 h3 h4
inductive TK (st:St) (ps:List (Nat×Nat)):LK->aJ->MV->List (Nat×Nat)->Prop
 |M8:TK st ps (.k .l) .nil (.list []) ps
 |hs (x:lp):TK st ps (.k .h) (.hs x) (.h x) ps
 |p (x:Kd) (m:MV):TK st ps (.k x) (.p m) m ps
 |own (f ty:Nat) (eX:Bool) (g:Nat) (o:pH):aT st.bn g=some o->o.ty=ty->(o.eX=true->eX=true)->g∉st.cV->nZ ps f (g+1)=true->TK st ps (.own f ty eX) (.own g) (.list o.xs) ((f,g+1)::ps)
 |xV (f ty:Nat) (eX:Bool):nZ ps f 0=true->TK st ps (.own f ty eX) .nil (.list []) ((f,0)::ps)
theorem RH {k:Kd}{m:MV} {K':aJ->Option R}(h:lq k m K'=some r): ∃l,K' l=some r:=by obtain ⟨l,_,h⟩:=oY (e:=⟨λn=>n,λ_ _=>none,λ_=>undef,λ_=>0,[]⟩) (vs:=[]) h;exact ⟨l,h⟩
theorem Pa {ps:List (Nat×Nat)}{k:LK}{l:aJ} {K':MV->List (Nat×Nat)->Option R}(h:MK st ps k l K'=some r): ∃m kM,TK st ps k l m kM/\K' m kM=some r:=by
 unfold MK at h;split at h
 ·exact ⟨_,_,.M8,h⟩
 ·exact ⟨_,_,.hs _,h⟩
 ·obtain ⟨_,h⟩:=RH h;exact ⟨_,_,.p _ _,h⟩
 ·rename_i f ty eX g;cases ho:aT st.bn g with
  |none=>simp [ho] at h
  |some o=>
   simp only [ho] at h;cases hc:!BY o.ty ty||(o.eX&&!eX)||bL st.cV g||!nZ ps f (g+1) with
   |true=>simp [hc] at h
   |false=>
    simp only [hc,cond_false] at h;simp only [IT,abb] at hc;obtain ⟨⟨⟨h1,h2⟩,h3⟩,h4⟩:=hc;refine ⟨_,_,.own f ty eX g o ho (eJ h1) ?_ ?_ h4,h⟩
    ·intro hz;rw [hz] at h2;simpa using h2
    ·rw [<-bU,h3];simp
 ·rename_i f ty eX;cases hc:nZ ps f 0 with
  |false=>simp [hc] at h
  |true=>simp only [hc,cond_true] at h;exact ⟨_,_,.xV f ty eX hc,h⟩
 ·simp at h
theorem F8 {ps:List (Nat×Nat)}{f g:Nat}(h:nZ ps f g=true):(∀b,(f,b)∈ps->b=g/\g≠0)/\(∀x,(x,g)∈ps->x≠f->g=0):=by
 induction ps with
 |nil=>simp
 |cons p ps ih=>
  obtain ⟨x,y⟩:=p;simp only [nZ,sh,eH] at h;obtain ⟨h1,h2⟩:=h;obtain ⟨i1,i2⟩:=ih h2;refine ⟨?_,?_⟩
  ·intro b hb;rcases AI.1 hb with hb|hb
   ·cases hb;simp at h1;exact ⟨h1.1,h1.2⟩
   ·exact i1 b hb
  ·intro z hz dS;rcases AI.1 hz with hz|hz
   ·cases hz;simp [dS] at h1;exact h1
   ·exact i2 z hz dS
structure Inv (c:Ctx) (Zb Zi:bR) (e3:Env) (qD:St) (F:List Nat) (ps:List (Nat×Nat)) (e:Env) (st:St) (a:Act) (w:World):Prop where
 vm:cc c Zb e st a w
 φ:e.φ=e3.φ
 box: ∀t cs,aw st.fr t= .box cs-> ¬Zi.In (e.B t)\/(e.B t=e3.B t/\ ∃xH,aw qD.fr t= .box xH)
 jA: ∀f o b,aT st.bn f=some o->(e.E f).ownBlock=some b-> ¬Zi.In b\/ ∃g,(f,g+1)∈ps
 pair: ∀f g,(f,g+1)∈ps->e.E f=e3.E g/\ ∃o3,aT qD.bn g=some o3
 has: ∀f x,(f,x)∈ps-> ∃o,aT st.bn f=some o
 own: ∀f∈F,∀o,aT st.bn f=some o-> ∃x,(f,x)∈ps
 ptr: ∀t,dQ (aw st.fr t)=false
 VU: ∀t f,aJ.own f∈pR (aw st.fr t)->f∉F\/ ∃x,(f,x)∈ps
theorem Uz {F:List Nat}{ps kM:List (Nat×Nat)}{k:LK}{l:aJ}{m:MV}{vs:List Value} {K':aJ->St->Option R}(hi:Inv c Zb Zi e3 qD F ps e st a w)(h3:cc c Zi e3 qD a w)(kC: ∀b,Zi.In b->Zb.In b)(hF: ∀f∈cE [k],f∈F/\f∉Zb.cV)(hl:aY e3 vs l)(ht:TK qD ps k l m kM)(hK:mI st k m K'=some r)(kz: ∀f ty eX,k= .own f ty eX-> ∃I,c.ti ty=some I/\I.dp=[]): ∃e' b7 l',K' l' b7=some r/\Inv c Zb Zi e3 qD F kM e' b7 a w/\aY e' vs l'/\b7.fr=st.fr/\Ev (λf=>f∉F\/ ∃x,(f,x)∈ps) e e'/\(∀p∈ps,p∈kM)/\(∀f,l'= .own f-> ∃x,(f,x)∈kM)/\e'.B=e.B/\l'≠ .un:=by
 have hkφ: ∀{vs m},nu e3.key e3.φ vs m->nu e.key e.φ vs m:=by intro vs m h;rw [hi.φ,hi.vm.key,<-h3.key];exact h
 have simple: ∀{x:Kd} {m:MV},nu e3.key e3.φ vs m->(lq x m λl=>K' l st)=some r-> ∃e' b7 l',K' l' b7=some r/\Inv c Zb Zi e3 qD F ps e' b7 a w/\aY e' vs l'/\b7.fr=st.fr/\Ev (λf=>f∉F\/ ∃x,(f,x)∈ps) e e'/\(∀p∈ps,p∈ps)/\(∀f,l'= .own f-> ∃x,(f,x)∈ps)/\e'.B=e.B/\l'≠ .un:=by
  intro x m hr hK;obtain ⟨l',EZ,hK⟩:=oY (e:=e) (vs:=vs) hK;refine ⟨e,st,l',hK,hi,EZ.rep (hkφ hr),rfl,.refl _ _,λp hp=>hp,λf hf=> ?_,rfl,λhu=> ?_⟩
  ·have:=EZ.VM;rw [hf] at this;simp [vd] at this
  ·have:=EZ.VM;rw [hu] at this;simp [vd] at this
 cases ht with
 |M8=>have hl:vs=[.slice none 0 0]:=hl;subst hl;exact simple (x:= .l) (.list none 0 [] 0 0 0 (λ_=>[]) (by simp) (by simp) (by simp) (by simp) (by simp)) hK
 |hs x=>have hl:vs=bM x:=hl;subst hl;exact simple (x:= .h) (.h x) hK
 |p x m=>exact simple hl.2 hK
 |own f ty eX g o3 ho ahi hfz hg hpo=>
  obtain ⟨v,rfl,hv,hE⟩:=hl;have hE:=hE o3 (by rw [h3.m];exact ho);obtain ⟨hfF,hfp⟩:=hF f (by simp [cE]);obtain ⟨p1,p2⟩:=F8 hpo;simp only [mI,gL,pL] at hK;have hgz:g∉Zi.cV:=by rw [<-h3.defers.2.2.1];exact hg
  obtain ⟨I,cells,q1,q2,q3,q4,q5⟩:=(h3.jA g o3 ho).row;have zf: ∀b,v.ownBlock=some b->Zi.In b:=λb hb=>Oj (q5 b (by rw [<-hE];exact hb)).1 hgz;have mM:dW c Zb.nc e w v ⟨ty,eX,o3.xs⟩:=by refine ⟨I,cells,by rw [<-ahi];exact q1,q2,by rw [<-ahi,hE];exact q3,by rw [hi.φ,hi.vm.key,<-h3.key];exact q4,λbx hb=>⟨kC _ (zf bx hb),λoff u hu=> ?_,λhc=>hc.elim⟩⟩;rw [hi.φ] at hu;obtain ⟨k1,k2⟩:=(q5 bx (by rw [<-hE];exact hb)).2.1 off u hu;exact ⟨hfz k1,k2⟩
  have hold: ∀x,(f,x)∈ps->e.E f=v:=by intro x hx;have:=(p1 x hx).1;subst this;rw [(hi.pair f g hx).1,hE]
  have Xz: ∀S:Nat->Prop,(S f-> ∃x,(f,x)∈ps)->Ev S e (e.Nh f v ⟨ty,eX,o3.xs⟩):=by
   intro S hS;refine ⟨rfl,rfl,λf2 o2 cU hs=> ?_⟩;have cU:aT (ck e.m f ⟨ty,eX,o3.xs⟩) f2=some o2:=cU;rw [bw] at cU;by_cases gl:f2=f
   ·subst gl;obtain ⟨x,hx⟩:=hS hs;obtain ⟨o0,h0⟩:=hi.has f2 x hx;exact ⟨⟨o0,by rw [hi.vm.m];exact h0⟩,by simp only [Env.Nh,if_true];exact (hold x hx).symm⟩
   ·rw [if_neg gl] at cU;exact ⟨⟨o2,cU⟩,by simp only [Env.Nh,gl,if_false]⟩
  have Ko: ∀b,v.ownBlock=some b->(∀t cs,aw st.fr t= .box cs->e.B t≠b)/\(∀g' o',g'≠f->aT st.bn g'=some o'->(e.E g').ownBlock≠some b):=by
   intro b hb;refine ⟨λt cs Ds hbt=> ?_,λg' o' dS hog hbg=> ?_⟩
   ·rcases hi.box t cs Ds with h0|⟨h0,xH,h1⟩
    ·exact h0 (by rw [hbt];exact zf b hb)
    ·exact h3.bf t xH g o3 h1 ho (by rw [<-hE,<-h0,hbt];exact hb)
   ·rcases hi.jA g' o' b hog hbg with h0|⟨x,h0⟩
    ·exact h0 (zf b hb)
    ·obtain ⟨h5,o5,h6⟩:=hi.pair g' x h0;rw [h5] at hbg;have:=h3.ff g x o3 o5 b ho h6 (by rw [<-hE];exact hb) hbg;subst this;have:=p2 g' h0 dS;omega
  have sZ:=hi.vm.Xy hi.ptr hfp mM Ko (Xz _ (λ⟨t,hm⟩=>(hi.VU t f hm).resolve_left (λhn=>hn hfF)));refine ⟨_,_,.own f,hK,⟨sZ,hi.φ,hi.box,?_,?_,?_,?_,hi.ptr,?_⟩,?_,rfl,Xz _ (λhs=>hs.resolve_left (λhn=>hn hfF)),λp hp=>by simp [hp],λf' ZH=>by cases ZH;exact ⟨g+1,by simp⟩,rfl,λhu=>by cases hu⟩
  ·intro f2 o2 b cU hb;have cU:aT (ck st.bn f ⟨ty,eX,o3.xs⟩) f2=some o2:=cU;have hb:(if f2=f then v else e.E f2).ownBlock=some b:=hb;rw [bw] at cU;by_cases gl:f2=f
   ·subst gl;exact .inr ⟨g,by simp⟩
   ·rw [if_neg gl] at cU hb;rcases hi.jA f2 o2 b cU hb with h0|⟨x,h0⟩
    ·exact .inl h0
    ·exact .inr ⟨x,by simp [h0]⟩
  ·intro f2 g2 hp;show (if f2=f then v else e.E f2)=_/\_;rcases AI.1 hp with QO|QO
   ·simp only [aaD,ab6] at QO;obtain ⟨rfl,rfl⟩:=QO;simp only [if_true];exact ⟨hE,o3,ho⟩
   ·by_cases gl:f2=f
    ·subst gl;have:=(p1 _ QO).1;have:g2=g:=by omega
     subst this;simp only [if_true];exact ⟨hE,o3,ho⟩
    ·rw [if_neg gl];exact hi.pair f2 g2 QO
  ·intro f2 x hp;show∃o,aT (ck st.bn f ⟨ty,eX,o3.xs⟩) f2=some o;rw [bw];by_cases gl:f2=f
   ·rw [if_pos gl];exact ⟨_,rfl⟩
   ·rw [if_neg gl];rcases AI.1 hp with hp|hp
    ·exact absurd (Prod.mk.inj hp).1 gl
    ·exact hi.has f2 x hp
  ·intro f2 Dc o2 cU;have cU:aT (ck st.bn f ⟨ty,eX,o3.xs⟩) f2=some o2:=cU;rw [bw] at cU;by_cases gl:f2=f
   ·subst gl;exact ⟨g+1,by simp⟩
   ·rw [if_neg gl] at cU;obtain ⟨x,hx⟩:=hi.own f2 Dc o2 cU;exact ⟨x,by simp [hx]⟩
  ·intro t f2 hm;rcases hi.VU t f2 hm with h0|⟨x,hx⟩
   ·exact .inl h0
   ·exact .inr ⟨x,by simp [hx]⟩
  ·exact ⟨v,rfl,hv,λo' _=>by simp [Env.Nh]⟩
 |xV f ty eX hpo=>
  have hl:vs=[.slice none 0 0]:=hl;subst hl;obtain ⟨hfF,hfp⟩:=hF f (by simp [cE]);obtain ⟨p1,_⟩:=F8 hpo;have VV: ∀x,(f,x)∉ps:=λx hx=>(p1 x hx).2 rfl;simp only [mI,gL,pL] at hK;obtain ⟨I,hI,hIc⟩:=kz f ty eX rfl;have mM:dW c Zb.nc e w (.slice none 0 0) ⟨ty,eX,[]⟩:=⟨I,[],hI,hIc,⟨by simp,.inl ⟨rfl,rfl⟩⟩,rfl,λbx hb=>by simp [IN] at hb⟩
  have Xz: ∀S:Nat->Prop,(S f->False)->Ev S e (e.Nh f (.slice none 0 0) ⟨ty,eX,[]⟩):=by
   intro S hS;refine ⟨rfl,rfl,λf2 o2 cU hs=> ?_⟩;have cU:aT (ck e.m f ⟨ty,eX,[]⟩) f2=some o2:=cU;rw [bw] at cU;by_cases gl:f2=f
   ·subst gl;exact (hS hs).elim
   ·rw [if_neg gl] at cU;exact ⟨⟨o2,cU⟩,by simp only [Env.Nh,gl,if_false]⟩
  have sZ:=hi.vm.Xy hi.ptr hfp mM (λb hb=>by simp [IN] at hb) (Xz _ (λ⟨t,hm⟩=>(hi.VU t f hm).elim (λhn=>hn hfF) (λ⟨x,hx⟩=>VV x hx)));refine ⟨_,_,.own f,hK,⟨sZ,hi.φ,hi.box,?_,?_,?_,?_,hi.ptr,?_⟩,?_,rfl,Xz _ (λhs=>hs.elim (λhn=>hn hfF) (λ⟨x,hx⟩=>VV x hx)),λp hp=>by simp [hp],λf' ZH=>by cases ZH;exact ⟨0,by simp⟩,rfl,λhu=>by cases hu⟩
  ·intro f2 o2 b cU hb;have cU:aT (ck st.bn f ⟨ty,eX,[]⟩) f2=some o2:=cU;have hb:(if f2=f then acf none 0 0 else e.E f2).ownBlock=some b:=hb;rw [bw] at cU;by_cases gl:f2=f
   ·rw [if_pos gl] at hb;simp [IN] at hb
   ·rw [if_neg gl] at cU hb;rcases hi.jA f2 o2 b cU hb with h0|⟨x,h0⟩
    ·exact .inl h0
    ·exact .inr ⟨x,by simp [h0]⟩
  ·intro f2 g2 hp;show (if f2=f then acf none 0 0 else e.E f2)=_/\_;rcases AI.1 hp with QO|QO
   ·simp at QO
   ·by_cases gl:f2=f
    ·subst gl;exact absurd QO (VV _)
    ·rw [if_neg gl];exact hi.pair f2 g2 QO
  ·intro f2 x hp;show∃o,aT (ck st.bn f ⟨ty,eX,[]⟩) f2=some o;rw [bw];by_cases gl:f2=f
   ·rw [if_pos gl];exact ⟨_,rfl⟩
   ·rw [if_neg gl];rcases AI.1 hp with hp|hp
    ·exact absurd (Prod.mk.inj hp).1 gl
    ·exact hi.has f2 x hp
  ·intro f2 Dc o2 cU;have cU:aT (ck st.bn f ⟨ty,eX,[]⟩) f2=some o2:=cU;rw [bw] at cU;by_cases gl:f2=f
   ·subst gl;exact ⟨0,by simp⟩
   ·rw [if_neg gl] at cU;obtain ⟨x,hx⟩:=hi.own f2 Dc o2 cU;exact ⟨x,by simp [hx]⟩
  ·intro t f2 hm;rcases hi.VU t f2 hm with h0|⟨x,hx⟩
   ·exact .inl h0
   ·exact .inr ⟨x,by simp [hx]⟩
  ·exact ⟨_,rfl,rfl,λo' _=>by simp [Env.Nh]⟩
end
end Dn
/-
  What a piece of code hands on: all of it. Conditions: none.
-/
namespace Dn
open Go
theorem RI {c:Ctx}{ks:List LK}(h:ke c ks=true): ∀f ty eX,LK.own f ty eX∈ks-> ∃I,c.ti ty=some I/\I.dp=[]:=by
 induction ks with
 |nil=>intro f ty eX hm;simp at hm
 |cons k ks ih=>
  intro f ty eX hm;cases k with
  |k x=>
   simp only [ke] at h;rcases AI.1 hm with hm|hm
   ·cases hm
   ·exact ih h f ty eX hm
  |own f' ty' alf=>
   simp only [ke] at h;cases hI:c.tv ty' with
   |none=>simp [hI] at h
   |some I=>
    simp only [hI] at h;rcases AI.1 hm with hm|hm
    ·cases hm;exact ⟨I,b6 hI⟩
    ·exact ih h f ty eX hm
theorem F9 (k:LK)(ks:List LK):cE (k::ks)=cE [k]++cE ks:=by cases k<;>simp [cE]
section
variable {P:Program}{c:Ctx}{Z Zb Zi:bR} {e e' e3:Env}{st b7 qD B:St} {a a':Act} {w w':World}{R:Type}{K:St->Option R}{r:R}{Q:Exit->Act->World->Prop}{o:Oper}{hn:pJ}
inductive TKs (st:St):List (Nat×Nat)->List LK->List aJ->List MV->List (Nat×Nat)->Prop
 |nil (ps):TKs st ps [] [] [] ps
 |cons {ps ps1 ps2 k l m ks ls ms}:TK st ps k l m ps1->TKs st ps1 ks ls ms ps2->TKs st ps (k::ks) (l::ls) (m::ms) ps2
theorem xW {ks:List LK}: ∀{ps:List (Nat×Nat)} {ls:List aJ} {K':List MV->List (Nat×Nat)->Option R},mf st ps ks ls K'=some r-> ∃ms kM,TKs st ps ks ls ms kM/\K' ms kM=some r:=by
 induction ks with
 |nil=>
  intro ps ls K' h;cases ls with
  |nil=>exact ⟨[],ps,.nil ps,h⟩
  |cons=>simp [mf] at h
 |cons k ks ih=>
  intro ps ls K' h;cases ls with
  |nil=>simp [mf] at h
  |cons l ls=>simp only [mf] at h;obtain ⟨m,ps1,h1,h⟩:=Pa h;obtain ⟨ms,ps2,h2,h⟩:=ih h;exact ⟨m::ms,ps2,.cons h1 h2,h⟩
theorem zT {F:List Nat}{ks:List LK}: ∀{ps kM:List (Nat×Nat)} {ls:List aJ} {ms rest:List MV} {vs:List Value} {e:Env} {st:St} {K':List aJ->List MV->St->Option R},Inv c Zb Zi e3 qD F ps e st a w->cc c Zi e3 qD a w->(∀b,Zi.In b->Zb.In b)-> (∀f∈cE ks,f∈F/\f∉Zb.cV)->ke c ks=true->aC e3 vs ls->TKs qD ps ks ls ms kM->dq st ks (ms++rest) K'=some r-> ∃e' b7 yO,K' yO rest b7=some r/\Inv c Zb Zi e3 qD F kM e' b7 a w/\aC e' vs yO/\b7.fr=st.fr/\Ev (λf=>f∉F\/ ∃x,(f,x)∈ps) e e'/\(∀p∈ps,p∈kM)/\(∀f,aJ.own f∈yO-> ∃x,(f,x)∈kM)/\e'.B=e.B/\(∀l∈yO,l≠ .un):=by
 induction ks with
 |nil=>intro ps kM ls ms rest vs e st K' hi h3 kC hF kz hl ht hK;cases ht;exact ⟨e,st,[],hK,hi,hl,rfl,.refl _ _,λp hp=>hp,λf hf=>by simp at hf,rfl,by simp⟩
 |cons k ks ih=>
  intro ps kM ls ms rest vs e st K' hi h3 kC hF kz hl ht hK;cases ht with
  |cons Ga tU=>
   obtain ⟨v,u,rfl,QN,Cn⟩:=hl;simp only [dq,aaS,gC] at hK;have my:=RI kz;obtain ⟨e1,cR,l',oc,wX,zO,E1,aaJ,XA,BS,hB1,XB⟩:=Uz hi h3 kC (λf hf=>hF f (by rw [F9];exact No _ hf)) QN Ga hK (λf ty eX hk=>my f ty eX (by rw [hk];simp));have RJ:ke c ks=true:=by
    cases k with
    |k x=>exact kz
    |own f ty eX=>
     simp only [ke] at kz;cases hI:c.tv ty with
     |none=>simp [hI] at kz
     |some I=>simpa [hI] using kz
   obtain ⟨e2,dV,yO,xG,hi2,Hf,aak,ahl,ahm,ahn,hB2,aly⟩:=ih wX h3 kC (λf hf=>hF f (by rw [F9];exact aah _ hf)) RJ Cn tU oc;refine ⟨e2,dV,l'::yO,xG,hi2,⟨v,u,rfl,?_,Hf⟩,aak.trans E1,aaJ.trans (ahl.alu ?_),λp hp=>ahm p (XA p hp),?_,hB2.trans hB1,by intro l hl;rcases AI.1 hl with rfl|hl<;>first|exact XB|exact aly l hl⟩
   ·exact zO.ev ahl (λf hf=> .inr (BS f hf))
   ·rintro f (hf|⟨x,hx⟩)
    ·exact .inl hf
    ·exact .inr ⟨x,XA _ hx⟩
   ·intro f hf;rcases AI.1 hf with hf|hf
    ·obtain ⟨x,hx⟩:=BS f hf.symm;exact ⟨x,ahm _ hx⟩
    ·exact ahn f hf
inductive TO (st:St):List (Nat×Nat)->List (Nat×OK)->List MV->Prop
 |nil (ps):TO st ps [] []
 |sc {ps kM t k l ms r ns}:aw st.fr t= .sc l->TKs st ps [k] [l] ms kM->TO st kM r ns->TO st ps ((t,.sc k)::r) (ms++ns)
 |ag {ps kM t ks ls ms r ns}:aw st.fr t= .ag ls->TKs st ps ks ls ms kM->TO st kM r ns->TO st ps ((t,.ag ks)::r) (ms++ns)
 |box {ps kM t ks ls ms r ns}:aw st.fr t= .box ls->TKs st ps ks ls ms kM->TO st kM r ns->TO st ps ((t,.box ks)::r) (ms++ns)
 |mp {ps t s es r ns}:aw st.fr t= .box [.mp s es]->TO st ps r ns->TO st ps ((t,.mp s)::r) (.list es::ns)
 |pt {ps t root off r ns}:aw st.fr t= .ptr root off->zu root=false->ER (aw st.fr root)=true->TO st ps r ns->TO st ps ((t,.pt root off)::r) ns
theorem mP {os:List (Nat×OK)}: ∀{ps:List (Nat×Nat)} {R:Type} {r:R} {K':List MV->Option R},mJ st ps os K'=some r-> ∃ms,TO st ps os ms/\K' ms=some r:=by
 induction os with
 |nil=>intro ps R r K' h;exact ⟨[],.nil ps,h⟩
 |cons p os ih=>
  intro ps R r K' h;obtain ⟨t,k⟩:=p;simp only [mJ] at h;split at h
  ·rename_i k l hf;obtain ⟨ms,kM,h1,h⟩:=xW h;obtain ⟨ns,h2,h⟩:=ih h;simp only [zG] at h;exact ⟨_,.sc hf h1 h2,h⟩
  ·rename_i ks ls hf;obtain ⟨ms,kM,h1,h⟩:=xW h;obtain ⟨ns,h2,h⟩:=ih h;simp only [zG] at h;exact ⟨_,.ag hf h1 h2,h⟩
  ·rename_i ks ls hf;obtain ⟨ms,kM,h1,h⟩:=xW h;obtain ⟨ns,h2,h⟩:=ih h;simp only [zG] at h;exact ⟨_,.box hf h1 h2,h⟩
  ·rename_i s s' es hf;cases hm:msB s s' with
   |false=>simp [hm] at h
   |true=>simp only [hm,cond_true] at h;have:=Rs hm;subst this;obtain ⟨ns,h2,h⟩:=ih h;exact ⟨_,.mp hf h2,h⟩
  ·rename_i root off Wm Wn hf;cases hc:BY root Wm&&(BY off Wn&&(!zu root&&ER (aw st.fr root))) with
   |false=>simp [hc] at h
   |true=>rw [hc] at h;simp only [sh,aai] at hc;obtain ⟨k1,k2,k3,k4⟩:=hc;have k1:=eJ k1;have k2:=eJ k2;subst k1 k2;obtain ⟨ns,h2,h⟩:=ih h;exact ⟨_,.pt hf k3 k4 h2,h⟩
  ·simp at h
theorem XC {os:List (Nat×OK)}: ∀{ps:List (Nat×Nat)} {ms:List MV} {st:St},cc c Zb e st a w->cc c Zi e3 qD a w->TO qD ps os ms->Wo os ms st K=some r-> ∃b7,cc c Zb e b7 a w/\K b7=some r:=by
 induction os with
 |nil=>intro ps ms st h h3 ht hK;cases ht;exact ⟨st,h,hK⟩
 |cons p os ih=>
  obtain ⟨t,k⟩:=p;intro ps ms st h h3 ht hK;cases k with
  |pt root off=>
   cases ht with
   |pt hf hp hb tU=>
    obtain ⟨pr,q,fr,m⟩:=st;simp only [Wo] at hK;cases hc:!zu root&&(ER (aw fr root)&&!di (aw fr t)) with
    |false=>simp [hc] at hK
    |true=>
     rw [hc] at hK;simp only [sh,aai] at hc;obtain ⟨_,wT,hn⟩:=hc;simp only [cond_true,oK] at hK;obtain ⟨cs,M0,_⟩:=AQ wT;have hB:=O0 h3 h hp hb wT;have hv:ah e (a.tmps.getD t undef) (.ptr root off):=by have:=h3.slot t;rw [hf] at this;simp only [cz,ah] at this⊢;rw [hB];exact this
     exact ih (h.Xb M0 hn hv) h3 tU hK
  |_=>simp [Wo] at hK
theorem UA {F:List Nat}{os:List (Nat×OK)}: ∀{ps:List (Nat×Nat)} {ms:List MV} {e:Env} {st:St},Inv c Zb Zi e3 qD F ps e st a w->cc c Zi e3 qD a w->(∀b,Zi.In b->Zb.In b)-> (∀f∈cB os,f∈F/\f∉Zb.cV)->(∀t∈dU os,t∉Zi.cJ)->fC c os=true->TO qD ps os ms->nQ st os ms K=some r-> ∃e' b7,cc c Zb e' b7 a w/\e'.φ=e3.φ/\K b7=some r:=by
 induction os with
 |nil=>intro ps ms e st hi h3 kC hF hk kz ht hK;cases ht;exact ⟨e,st,hi.vm,hi.φ,hK⟩
 |cons p os ih=>
  intro ps ms e st hi h3 kC hF hk kz ht hK;obtain ⟨t,k⟩:=p;have ZM:=h3.slot t;have next: ∀{kM:List (Nat×Nat)} {s:Slot} {e1:Env} {cR:St} {ns:List MV},Inv c Zb Zi e3 qD F kM e1 cR a w->dQ s=false->di s=false->ah e1 (a.tmps.getD t undef) s->(∀f,aJ.own f∈pR s-> ∃x,(f,x)∈kM)-> (∀f∈cB os,f∈F/\f∉Zb.cV)->fC c os=true->TO qD kM os ns->(OG cR t s λst=>nQ st os ns K)=some r-> ∃e' b7,cc c Zb e' b7 a w/\e'.φ=e3.φ/\K b7=some r:=by
   intro kM s e1 cR ns wX hp hb hr aaH hF2 RJ tU hK;simp only [OG,oK] at hK;have hg: ∀t',aw (dg cR.fr t s) t'=if t'=t then s else aw cR.fr t':=λt'=>cb _ _ _ _
   refine ih ⟨wX.vm.aaI wX.ptr hp hb hr,wX.φ,?_,wX.jA,wX.pair,wX.has,wX.own,?_,?_⟩ h3 kC hF2 (λt' Dl=>hk t' (by simp [dU,Dl])) RJ tU hK
   ·intro t' cs Ds;have Ds:aw (dg cR.fr t s) t'= .box cs:=Ds;rw [hg] at Ds;by_cases wc:t'=t
    ·rw [if_pos wc] at Ds;subst Ds;simp [di] at hb
    ·rw [if_neg wc] at Ds;exact wX.box t' cs Ds
   ·intro t';show dQ (aw (dg cR.fr t s) t')=false;rw [hg];by_cases wc:t'=t
    ·rw [if_pos wc];exact hp
    ·rw [if_neg wc];exact wX.ptr t'
   ·intro t' f hm;have hm:aJ.own f∈pR (aw (dg cR.fr t s) t'):=hm;rw [hg] at hm;by_cases wc:t'=t
    ·rw [if_pos wc] at hm;exact .inr (aaH f hm)
    ·rw [if_neg wc] at hm;exact wX.VU t' f hm
  have XD: ∀{kM:List (Nat×Nat)} {ls yO:List aJ} {ob:Obj} {e1:Env} {cR:St} {ns:List MV},Inv c Zb Zi e3 qD F kM e1 cR a w->aw qD.fr t= .box ls->tied Zb t (a.tmps.getD t undef) yO (e3.B t)->w.heap[e3.B t]? =some ob->kT e1 ob yO-> (∀f,aJ.own f∈yO-> ∃x,(f,x)∈kM)->(∀f∈cB os,f∈F/\f∉Zb.cV)->fC c os=true->TO qD kM os ns->(OG cR t (.box yO) λst=>nQ st os ns K)=some r-> ∃e' b7,cc c Zb e' b7 a w/\e'.φ=e3.φ/\K b7=some r:=by
   intro kM ls yO ob e1 cR ns wX hf hv eZ zO BS hF2 RJ tU oc;rw [hf] at ZM;have Ds:=ZM.2;simp only [OG,oK] at oc;have htp:t∉Zi.cJ:=hk t (by simp [dU]);have zf:Zi.In (e3.B t):=Oj Ds.cP htp;have hg: ∀t',aw (dg cR.fr t (.box yO)) t'=if t'=t then .box yO else aw cR.fr t':=λt'=>cb _ _ _ _
   have wP:=wX.vm.ad1 (t:=t) (bx:=e3.B t) (cs:=yO) wX.ptr hv ⟨.inr (kC _ zf),⟨ob,eZ,zO⟩,λoff=>by rw [wX.φ];exact Ds.free off⟩ (by
     intro t' kh GN dS Ro;rcases wX.box t' kh GN with h0|⟨h0,xH,h1⟩
     ·exact h0 (by rw [Ro];exact zf)
     ·exact h3.bb t' t xH ls h1 hf dS (by rw [<-h0];exact Ro))
    (by
     intro f o ho Ro;rcases wX.jA f o _ ho Ro with h0|⟨g,h0⟩
     ·exact h0 zf
     ·obtain ⟨h5,o5,h6⟩:=wX.pair f g h0;rw [h5] at Ro;exact h3.bf t ls g o5 hf h6 Ro)
   refine ih (e:=e1.Dk t (e3.B t)) ⟨wP,wX.φ,?_,wX.jA,wX.pair,wX.has,wX.own,?_,?_⟩ h3 kC hF2 (λt' Dl=>hk t' (by simp [dU,Dl])) RJ tU oc
   ·intro t' cs GN;have GN:aw (dg cR.fr t (.box yO)) t'= .box cs:=GN;rw [hg] at GN;show¬Zi.In (if t'=t then e3.B t else e1.B t')\/((if t'=t then e3.B t else e1.B t')=e3.B t'/\_);by_cases wc:t'=t
    ·subst wc;simp only [if_true];exact .inr ⟨trivial,ls,hf⟩
    ·rw [if_neg wc] at GN⊢;exact wX.box t' cs GN
   ·intro t';show dQ (aw (dg cR.fr t (.box yO)) t')=false;rw [hg];by_cases wc:t'=t
    ·rw [if_pos wc];rfl
    ·rw [if_neg wc];exact wX.ptr t'
   ·intro t' f hm;have hm:aJ.own f∈pR (aw (dg cR.fr t (.box yO)) t'):=hm;rw [hg] at hm;by_cases wc:t'=t
    ·rw [if_pos wc] at hm;exact .inr (BS f hm)
    ·rw [if_neg wc] at hm;exact wX.VU t' f hm
  cases ht with
  |sc hf Ga tU=>
   rename_i kM k l ms ns;rw [hf] at ZM;simp only [fC] at kz;cases Ia:ke c [k] with
   |false=>simp [Ia] at kz
   |true=>
    simp only [Ia,cond_true] at kz;have hF1: ∀f∈cE [k],f∈F/\f∉Zb.cV:=λf hf=>hF f (by simp only [cB];exact No _ hf);have hF2: ∀f∈cB os,f∈F/\f∉Zb.cV:=λf hf=>hF f (by simp only [cB];exact aah _ hf);simp only [nQ] at hK;have BL: ∃vs,aY e3 vs l/\ ∀(e1:Env) (l':aJ),aY e1 vs l'->(∀m,l'= .p m->m.one=true)->l'≠ .un->ah e1 (a.tmps.getD t undef) (.sc l'):=by
     have h3s:ah e3 (a.tmps.getD t undef) (.sc l):=ZM;cases Ga with
     |cons Xx _=>
      generalize a.tmps.getD t undef=v at h3s;by_cases hh: ∃x,l= .hs x
      ·obtain ⟨x,rfl⟩:=hh;refine ⟨bM x,rfl,λe1 l' EZ ho hu=> ?_⟩;have hv:v= .agg (bM x).toArray:=h3s;have hlen:=dr x;cases l' with
       |un=>exact absurd rfl hu
       |hs y=>have EZ:bM x=bM y:=EZ;show v=_;rw [<-EZ];exact hv
       |nil=>have EZ:bM x=[_]:=EZ;rw [EZ] at hlen;simp at hlen
       |mp s es=>exact EZ.elim
       |own f=>obtain ⟨u,hu2,_⟩:=EZ;rw [hu2] at hlen;simp at hlen
       |p m=>obtain ⟨u,hu2,_⟩:=EZ.2.one (ho m rfl);rw [hu2] at hlen;simp at hlen
      ·have hun:l≠ .un:=by intro he;subst he;cases Xx
       have iv:aY e3 [v] l:=(ah.adt (λx he=>hh ⟨x,he⟩) hun).1 h3s;refine ⟨[v],iv,λe1 l' EZ ho hu=> ?_⟩;cases l' with
       |un=>exact absurd rfl hu
       |hs y=>have EZ:[v]=bM y:=EZ;have:=dr y;rw [<-EZ] at this;simp at this
       |nil=>exact EZ
       |mp s es=>exact EZ
       |own f=>exact EZ
       |p m=>exact EZ
    obtain ⟨vs,sV,ahp⟩:=BL;obtain ⟨e1,cR,yO,oc,wX,zO,E1,aaJ,XA,BS,hB1,XB⟩:=zT (vs:=vs) hi h3 kC hF1 Ia (show aC e3 vs [l] from ⟨vs,[],by simp,sV,rfl⟩) Ga hK;split at oc
    ·rename_i l';obtain ⟨v1,u1,hvu,QN,hu1⟩:=zO;have hu1:u1=[]:=hu1;subst hu1;have hvu:vs=v1:=by simpa using hvu
     subst hvu;refine next wX rfl rfl ?_ (λf hf=>BS f (by simpa [pR] using hf)) hF2 kz tU oc
     refine ahp e1 l' QN ?_ ?_
     ·intro m hm;subst hm;exact QN.1
     ·exact XB l' (by simp)
    ·cases oc
  |ag hf Ga tU=>
   rename_i kM ks ls ms ns;rw [hf] at ZM;simp only [fC] at kz;cases Ia:ke c ks with
   |false=>simp [Ia] at kz
   |true=>simp only [Ia,cond_true] at kz;simp only [nQ] at hK;have h3s:ah e3 (a.tmps.getD t undef) (.ag ls):=ZM;simp only [ah] at h3s;obtain ⟨arr,hv,sV⟩:=h3s;obtain ⟨e1,cR,yO,oc,wX,zO,E1,aaJ,XA,BS,hB1,XB⟩:=zT hi h3 kC (λf hf=>hF f (by simp only [cB];exact No _ hf)) Ia sV Ga hK;exact next (s:= .ag yO) wX rfl rfl ⟨arr,hv,zO⟩ BS (λf hf=>hF f (by simp only [cB];exact aah _ hf)) kz tU oc
  |box hf Ga tU=>
   rename_i kM ks ls ms ns;rw [hf] at ZM;simp only [fC] at kz;cases Ia:ke c ks with
   |false=>simp [Ia] at kz
   |true=>
    simp only [Ia,cond_true] at kz;simp only [nQ] at hK;have wI:gM ls=false:=by
     cases hm:gM ls with
     |false=>rfl
     |true=>obtain ⟨s,es,rfl⟩:=MO hm;cases Ga;rename_i h1 _;cases h1
    obtain ⟨hv,Ds⟩:=ZM;cases BO:zu t&&!bL st.cJ (posOf t) with
    |true=>simp [BO] at hK
    |false=>
    simp only [BO,cond_false] at hK;have pO: ∀yO,gM yO=false->tied Zb t (a.tmps.getD t undef) yO (e3.B t):=λyO HE=>⟨λhp=>by rw [hv.1 hp,vZ wI,vZ HE],λhp=>by
     obtain ⟨k1,k2⟩:=hv.2 hp;rw [hp] at BO;have k3:posOf t∈Zb.cJ:=by rw [<-hi.vm.defers.2.1,<-bU];simpa using BO
     exact ⟨k3,by rw [<-hi.vm.defers.2.2.2 _ k3,h3.defers.2.2.2 _ k1,k2]⟩⟩
    obtain ⟨arr,T,eZ,sV⟩:=Ds.cells wI;obtain ⟨e1,cR,yO,oc,wX,zO,E1,aaJ,XA,BS,hB1,XB⟩:=zT hi h3 kC (λf hf=>hF f (by simp only [cB];exact No _ hf)) Ia sV Ga hK;exact XD wX hf (pO _ zO.zM) eZ ⟨rfl,zO⟩ BS (λf hf=>hF f (by simp only [cB];exact aah _ hf)) kz tU oc
  |mp hf tU=>
   rename_i s es ns;rw [hf] at ZM;simp only [fC] at kz;simp only [nQ] at hK;cases BO:zu t with
   |true=>simp [BO] at hK
   |false=>
   simp only [BO,cond_false,gC,gL] at hK;obtain ⟨VS,Ds⟩:=ZM;have hv:tied Zb t (a.tmps.getD t undef) [aJ.mp s es] (e3.B t):= .own BO (VS.1 BO);obtain ⟨ob,eZ,hob⟩:=Ds.obj;cases ob with
   |cells arr T z=>exact absurd hob.2.zM (by simp [gM])
   |map arr n=>exact XD hi hf hv eZ hob (λf hf=>by simp at hf) (λf hf=>hF f (by simp only [cB];exact hf)) kz tU hK
   |stringIter x n=>exact XD hi hf hv eZ hob (λf hf=>by simp at hf) (λf hf=>hF f (by simp only [cB];exact hf)) kz tU hK
   |_=>exact hob.elim
  |pt hf hp hb tU=>simp only [nQ] at hK;obtain ⟨b7,g1,g2⟩:=XC hi.vm h3 (.pt hf hp hb tU) hK;exact ⟨e,b7,g1,hi.φ,g2⟩
theorem AV {os:List (Nat×OK)}{ms:List MV}(hJ:kN c Zb Zi e B hn a w)(h3:cc c Zi e3 qD a w) (hφ:e3.φ=e.φ)(hos:(∀t∈dU os,t∈dU hn.all)/\(∀f∈cB os,f∈cB hn.all))(kz:fC c os=true)(ht:TO qD [] os ms)(hK:nQ B os ms K=some r): ∃e' b7,cc c Zb e' b7 a w/\e'.φ=e.φ/\K b7=some r:=by
 rw [<-hφ];refine UA (F:=cB hn.all) ⟨hJ.vm,hφ.symm,λt cs hb=> .inl (hJ.box t cs hb),λf o b ho hb=> .inl (hJ.jA f o b ho hb),λf g hp=>by simp at hp,λf x hp=>by simp at hp,?_,hJ.ptr,λt f hm=> .inl (hJ.VU t f hm)⟩ h3 hJ.sub ?_ ?_ kz ht hK
 ·intro f hf o ho;rw [(hJ.Ux f hf).2] at ho;cases ho
 ·intro f hf;exact ⟨hos.2 f hf,(hJ.Ux f (hos.2 f hf)).1⟩
 ·intro t Dl;exact (hJ.Xu t (hos.1 t Dl)).2
end
end Dn
/-
  Code. Conditions: none.
-/
namespace Dn
open Go
theorem vu {os:List (Nat×OK)}{t:Nat}:t∈dU os↔ ∃k,(t,k)∈os:=by
 induction os with
 |nil=>simp [dU]
 |cons p os ih=>
  obtain ⟨t',k'⟩:=p;simp only [dU,AI,ih,aaD];constructor
  ·rintro (rfl|⟨k,h⟩)
   ·exact ⟨k',.inl ⟨rfl,rfl⟩⟩
   ·exact ⟨k,.inr h⟩
  ·rintro ⟨k,⟨rfl,_⟩|h⟩
   ·exact .inl rfl
   ·exact .inr ⟨k,h⟩
def XE:OK->List Nat
 | .sc k=>cE [k]
 | .ag ks=>cE ks
 | .box ks=>cE ks
 | .mp _=>[]
 | .pt _ _=>[]
theorem Ni (t:Nat)(k:OK)(os:List (Nat×OK)):cB ((t,k)::os)=XE k++cB os:=by cases k<;>rfl
theorem vv {os:List (Nat×OK)}{f:Nat}:f∈cB os↔ ∃p∈os,f∈XE p.2:=by
 induction os with
 |nil=>simp [cB]
 |cons p os ih=>obtain ⟨t',k'⟩:=p;rw [Ni];simp [ih]
def Ib (c:Ctx):OK->Bool
 | .sc k=>ke c [k]
 | .ag ks=>ke c ks
 | .box ks=>ke c ks
 | .mp _=>true
 | .pt _ _=>true
theorem Pb {c:Ctx}(t:Nat)(k:OK)(os:List (Nat×OK)):fC c ((t,k)::os)=(Ib c k&&fC c os):=by
 cases k with
 |sc k=>simp only [fC,Ib];cases ke c [k]<;>rfl
 |ag k=>simp only [fC,Ib];cases ke c k<;>rfl
 |box k=>simp only [fC,Ib];cases ke c k<;>rfl
 |mp s=>simp only [fC,Ib,aeX]
 |pt r o=>simp only [fC,Ib,aeX]
theorem Ic {c:Ctx}{os:List (Nat×OK)}:fC c os=true↔ ∀p∈os,Ib c p.2=true:=by
 induction os with
 |nil=>simp [fC]
 |cons p os ih=>obtain ⟨t',k'⟩:=p;rw [Pb,sh,ih,List.forall_mem_cons]
theorem XF {l:List (Nat×List (Nat×OK))}{e:Nat}{p:Nat×OK}(h:p∈V7 l e):p∈SS l:=by
 induction l with
 |nil=>simp [V7] at h
 |cons q l ih=>
  obtain ⟨k,m⟩:=q;simp only [V7] at h;simp only [SS,abj];cases hb:BY k e with
  |true=>simp [hb] at h;exact .inl h
  |false=>simp [hb] at h;exact .inr (ih h)
theorem Ie {hn:pJ}{e:Nat}:(∀t∈dU (hn.ex e),t∈dU hn.all)/\(∀f∈cB (hn.ex e),f∈cB hn.all)/\ ∀{c:Ctx},fC c hn.all=true->fC c (hn.ex e)=true:=by
 have hm: ∀p∈hn.ex e,p∈hn.all:=λp hp=>aah _ (XF hp);refine ⟨λt ht=> ?_,λf hf=> ?_,λh=> ?_⟩
 ·obtain ⟨k,hk⟩:=vu.1 ht;exact vu.2 ⟨k,hm _ hk⟩
 ·obtain ⟨p,hp,hf⟩:=vv.1 hf;exact vv.2 ⟨p,hm _ hp,hf⟩
 ·rw [Ic] at h⊢;exact λp hp=>h p (hm p hp)
theorem XG {hn:pJ}:(∀t∈dU hn.outs,t∈dU hn.all)/\(∀f∈cB hn.outs,f∈cB hn.all)/\ ∀{c:Ctx},fC c hn.all=true->fC c hn.outs=true:=by
 have hm: ∀p∈hn.outs,p∈hn.all:=λp hp=>No _ hp;refine ⟨λt ht=> ?_,λf hf=> ?_,λh=> ?_⟩
 ·obtain ⟨k,hk⟩:=vu.1 ht;exact vu.2 ⟨k,hm _ hk⟩
 ·obtain ⟨p,hp,hf⟩:=vv.1 hf;exact vv.2 ⟨p,hm _ hp,hf⟩
 ·rw [Ic] at h⊢;exact λp hp=>h p (hm p hp)
theorem Ig {R:Type}{r:R}{l:List Nat}{e:Nat}{K:Nat->Option R}(h:T2 l e K=some r):K e=some r:=by
 induction l with
 |nil=>simp [T2] at h
 |cons p l ih=>
  cases l with
  |nil=>
   simp only [T2,eH] at h;by_cases he:e=p
   ·subst he;simpa using h
   ·simp [he] at h
  |cons q l=>
   simp only [T2,eH] at h;by_cases he:e=p
   ·subst he;simpa using h
   ·simp only [he,decide_false,cond_false] at h;exact ih h
theorem UB {σ R:Type}{r:R}{body:σ->Option (Sum σ R)}{s:σ}(h:Loop body s=some r): ∃n,iter body n s=some r:=by
 unfold Loop at h;split at h
 ·rename_i hx;obtain ⟨n,hn⟩:=aa6 hx;exact ⟨n,by rw [hn];exact h⟩
 ·cases h
def lX:Nat->Exit
 |0=> .normal
 |1=> .ret
 |n+2=> .exit n
section
variable {P:Program}{c:Ctx}{Z Zb Zi:bR} {e e' e3:Env}{st b7 qD B:St} {a a':Act} {w w':World}{R:Type}{r:R}{Q:Exit->Act->World->Prop}{o:Oper}{hn:pJ}
def Nj (P:Program)(c:Ctx)(id:Nat)(ops:Array Oper)(d:Bool)(l:List Oper):Prop:=∀{Z:bR} {e:Env} {st:St} {a:Act} {w:World} {R:Type} {K:St->Option R} {r:R} {Q:Exit->Act->World->Prop},cc c Z e st a w->Ch c ops.toList l st K=some r-> (∀a' w',Out c Z K r e.φ w a' w'->Q .normal a' w')->(adD id ops d).wp P Q a w
theorem UC (hG:Good P c)(id:Nat)(ops:Array Oper):Nj P c id ops false ops.toList:=by
 intro Z e st a w R K r Q h hK hQ;refine wp_region (Ng hG (os:=ops.toList) ?_ h hK (.refl _ _ _) hQ);apply ad6;intro i;simp only [aa7];by_cases hi:i<ops.size
 ·simp [adH hi,hi]
 ·have h1:(adP ops.size)[i]? =none:=by simp;omega
  have h2:ops.toList[i]? =none:=by simp;omega
  rw [h1,h2];rfl
theorem Lu {id:Nat}{ops:Array Oper}{d:Bool}{l:List Oper}{K:St->Option R}(hr:Nj P c id ops d l)(h:cc c Z e st a w)(hK:He c id ops.toList l st K=some r)(hQ: ∀a' w',Out c Z K r e.φ w a' w'->Q .normal a' w'):(adD id ops d).wp P Q a w:=by
 unfold He at hK;cases hg:guarded ops.toList with
 |false=>simp only [hg,cond_false] at hK;obtain ⟨b7,h',hK⟩:=vn h hK;exact hr h' hK hQ
 |true=>
  simp only [hg,cond_true] at hK;obtain ⟨Zi,e1,e2,cR,dV,h1,t1,hφ,hk,j1,j2,kC,kz,hK⟩:=zS h hK;obtain ⟨vs,hv,hK⟩:=rq hK;obtain ⟨alD,FU,hv⟩:=vn h1 hv;refine hr FU hv ?_;rintro a' w' ⟨e3,qD,h3,t3,hv3⟩;obtain ⟨ms,ht,QS⟩:=mP hv3;cases QS;have t3':Trans Zi.In e2.φ w e3.φ w':=by rw [hφ];exact t3
  have jl:=j1.later t3' h3.pM h3.defers.1 h3.size h3.defers.2.2.2;obtain ⟨s1,s2,s3⟩:=Ie (hn:=c.zb id) (e:=0);obtain ⟨e5,st5,g1,g2,g3⟩:=AV jl h3 rfl ⟨s1,s2⟩ (s3 kz) ht hK;refine hQ a' w' ⟨e5,st5,g1,?_,g3⟩;rw [g2];exact t1.trans ⟨t3.ph,λb hb=>t3.heap b (λhz=>hb (kC b hz)),λb o hb=>t3.free b o (λhz=>hb (kC b hz)),t3.size,t3.rest⟩
theorem Trans.sup {I J:Nat->Prop} {φ φ':Ph}(h:Trans I φ w φ' w')(hs: ∀b,I b->J b):Trans J φ w φ' w':=⟨h.ph,λb hb=>h.heap b (λhz=>hb (hs b hz)),λb o hb=>h.free b o (λhz=>hb (hs b hz)),h.size,h.rest⟩
theorem wY {n:Nat}{next:Act->World->Prop}(hn:n≠0):Exit.then next Q (lX n)=Q (lX n):=by
 match n,hn with
 |1,_=>rfl
 |n+2,_=>rfl
def Pc (P:Program)(c:Ctx)(id:Nat)(ops:Array Oper):Prop:=∀{Z:bR} {e:Env} {st:St} {a:Act} {w:World} {R:Type} {K:St->Option R} {r:R} {Q:Exit->Act->World->Prop},cc c Z e st a w->Wr c id ops.toList st K=some r-> (∀a' w',Out c Z K r e.φ w a' w'->Q .normal a' w')->(adD id ops false).wp P Q a w
def Ih (P:Program)(c:Ctx):Prop:=(∀(id:Nat) (ops:Array Oper),Pc P c id ops)/\(∀(id:Nat) (ops:Array Oper) (l:List Oper),Cl c ops (c.ord id)=true->rm ops.toList (c.ord id)=some l->Nj P c id ops true l)/\ ∀(id:Nat) (ops:Array Oper) (k:Nat) (l:List Nat) {Z:bR} {e:Env} {st:St} {a:Act} {w:World} {R:Type} {K:St->Option R} {r:R} {Q:Exit->Act->World->Prop},cc c Z e st a w->Hu c st K k ops l=some r-> (∀a' w',Out c Z K r e.φ w a' w'->Q .normal a' w')->(adD id ops true).wp P Q a w
theorem UD {R:Type}{x y:Option R}{r:R}(h:both x y=some r):x=some r/\y=some r:=by
 unfold both at h;split at h
 ·rename_i he;exact ⟨h,by rw [<-he];exact h⟩
 ·cases h
theorem RL {n:Nat}{l o1 o2:List Nat}{A B:Nat}(h:Ws n l=some (o1,o2,A,B)):A≠B/\A<n/\B<n:=by
 unfold Ws at h;split at h
 ·rename_i m A' B' _;cases hb:BY A' B'||(acy n A'||acy n B') with
  |true=>rw [hb] at h;cases h
  |false=>
   rw [hb] at h;simp only [cond_false,AT,aaD] at h;obtain ⟨_,_,rfl,rfl⟩:=h;simp only [IT] at hb;obtain ⟨h1,h2,h3⟩:=hb;refine ⟨λhe=> ?_,?_,?_⟩
   ·rw [he] at h1;simp [eH] at h1
   ·by_cases hh:A'<n
    ·exact hh
    ·rw [adx (by omega)] at h2;cases h2
   ·by_cases hh:B'<n
    ·exact hh
    ·rw [adx (by omega)] at h3;cases h3
 ·cases h
theorem ad3 {ts:List Nat}{K:St->Option R}(h:cc c Z e st a w)(hK:fzK c ts st K=some r): ∃e' b7,cc c Z e' b7 a w/\Trans Z.In e.φ w e'.φ w/\K b7=some r:=by
 unfold fzK at hK;split at hK
 ·exact ⟨e,st,h,.refl _ _ _,hK⟩
 ·obtain ⟨e',b7,ms,h1,h2,_,h3,_⟩:=HV h hK;exact ⟨e',b7,h1,h2.tr,h3⟩
theorem vw (hG:Good P c)(hD:Ih P c): ∀(code:Code) {R:Type} {r:R} {Z:bR} {e:Env} {st:St} {a:Act} {w:World} {K:Nat->St->Option R} {Q:Exit->Act->World->Prop},cc c Z e st a w->lu c code R st K=some r-> (∀n e' b7 a' w',cc c Z e' b7 a' w'->Trans Z.In e.φ w e'.φ w'->K n b7=some r->Q (lX n) a' w')->code.wp P Q a w:=by
 intro code;induction code with
 |skip=>intro R r Z e st a w K Q h hK hQ;exact wp_skip (hQ 0 e st a w h (.refl _ _ _) hK)
 |exit id=>intro R r Z e st a w K Q h hK hQ;exact wp_exit (hQ (id+2) e st a w h (.refl _ _ _) hK)
 |ret=>intro R r Z e st a w K Q h hK hQ;exact wp_ret (hQ 1 e st a w h (.refl _ _ _) hK)
 |region id ops d=>
  intro R r Z e st a w K Q h hK hQ;have Ii: ∀a' w',Out c Z (λst=>K 0 st) r e.φ w a' w'->Q .normal a' w':=by rintro a' w' ⟨e2,dV,h1,h2,h3⟩;exact hQ 0 e2 dV a' w' h1 h2 h3
  simp only [lu,SY] at hK;obtain ⟨e0,Ht,h0,t0,hK⟩:=ad3 h hK;have Ii: ∀a' w',Out c Z (λst=>K 0 st) r e0.φ w a' w'->Q .normal a' w':=by rintro a' w' ⟨e2,dV,h1,h2,h3⟩;exact Ii a' w' ⟨e2,dV,h1,t0.trans h2,h3⟩
  replace h:=h0
  cases d with
  |false=>exact hD.1 id ops h hK Ii
  |true=>
   simp only [cond_true] at hK;cases h2:!BY (c.ord id).length ops.toList.length with
   |true=>
    simp only [h2,cond_true] at hK;unfold ago at hK;cases hg:guarded ops.toList with
    |true=>
     simp only [hg,cond_true] at hK;obtain ⟨Zi,e1,e2,cR,dV,h1,t1,hφ,hk,j1,j2,kC,kz,hK⟩:=zS h hK;obtain ⟨vs,hv,hK⟩:=rq hK;obtain ⟨alD,FU,hv⟩:=vn h1 hv;refine hD.2.2 id ops _ _ FU hv ?_;rintro a' w' ⟨e3,qD,h3,t3,hv3⟩;obtain ⟨ms,ht,QS⟩:=mP hv3;cases QS;have t3':Trans Zi.In e2.φ w e3.φ w':=by rw [hφ];exact t3
     have jl:=j1.later t3' h3.pM h3.defers.1 h3.size h3.defers.2.2.2;obtain ⟨s1,s2,s3⟩:=Ie (hn:=c.zb id) (e:=0);obtain ⟨e5,st5,g1,g2,g3⟩:=AV jl h3 rfl ⟨s1,s2⟩ (s3 kz) ht hK;refine Ii a' w' ⟨e5,st5,g1,?_,g3⟩;rw [g2];exact t1.trans ⟨t3.ph,λb hb=>t3.heap b (λhz=>hb (kC b hz)),λb o hb=>t3.free b o (λhz=>hb (kC b hz)),t3.size,t3.rest⟩
    |false=>simp only [hg,cond_false] at hK;obtain ⟨b7,h',hK⟩:=vn h hK;exact hD.2.2 id ops _ _ h' hK Ii
   |false=>
   simp only [h2,cond_false] at hK;cases hd:Cl c ops (c.ord id) with
   |false=>simp [hd] at hK
   |true=>
    simp only [hd,cond_true] at hK;cases hp:rm ops.toList (c.ord id) with
    |none=>simp [hp] at hK
    |some l=>simp only [hp] at hK;exact Lu (hD.2.1 id ops l hd hp) h hK Ii
 |seq x y ihx ihy=>
  intro R r Z e st a w K Q h hK hQ;refine wp_seq (ihx h hK ?_);intro n e1 cR a1 w1 h1 t1 oc;by_cases hn:n=0
  ·subst hn;exact ihy h1 oc (λn e2 dV a2 w2 h2 t2 xG=>hQ n e2 dV a2 w2 h2 (t1.trans t2) xG)
  ·rw [wY hn];have:BY n 0=false:=by rw [eH];simp [hn]
   simp only [this,cond_false] at oc;exact hQ n e1 cR a1 w1 h1 t1 oc
 |cond x y z ihy ihz=>
  intro R r Z e st a w K Q h hK hQ;simp only [lu] at hK;obtain ⟨hx,_⟩:=h.eval x;split at hK
  ·rename_i v hv;rw [hv] at hx;have hxv:=zK hx;refine wp_cond hxv ?_;cases hj:bL (lU y) 0&&bL (lU z) 0 with
   |false=>
    simp only [hj,cond_false] at hK;cases v with
    |true=>exact ihy h hK hQ
    |false=>exact ihz h hK hQ
   |true=>
    simp only [hj,cond_true] at hK;generalize hh:c.AL ((gO (.seq y z)).getD 0)=hn at hK;obtain ⟨Zi,e1,e2,cR,dV,h1,t1,hφ,hk,j1,j2,kC,kz,hK⟩:=zS h hK;obtain ⟨⟨n,vs⟩,hv,hK⟩:=rq hK;have hK:=Ig hK;have fin: ∀n' e3 qD a3 w3,cc c Zi e3 qD a3 w3->Trans Zi.In e1.φ w e3.φ w3->mJ qD [] (hn.ex n') (λvs=>some (n',vs))=some (n,vs)->Q (lX n') a3 w3:=by
     intro n' e3 qD a3 w3 h3 t3 hv3;obtain ⟨ms,ht,QS⟩:=mP hv3;cases QS;have t3':Trans Zi.In e2.φ w e3.φ w3:=by rw [hφ];exact t3
     have jl:=j1.later t3' h3.pM h3.defers.1 h3.size h3.defers.2.2.2;obtain ⟨s1,s2,s3⟩:=Ie (hn:=hn) (e:=n);obtain ⟨e5,st5,g1,g2,g3⟩:=AV jl h3 rfl ⟨s1,s2⟩ (s3 kz) ht hK;refine hQ n e5 st5 a3 w3 g1 ?_ g3;rw [g2];exact t1.trans (t3.sup kC)
    cases v with
    |true=>exact ihy h1 hv fin
    |false=>exact ihz h1 hv fin
  ·simp at hK
 |block id b ih=>
  intro R r Z e st a w K Q h hK hQ;refine wp_block (ih h hK ?_);intro n e1 cR a1 w1 h1 t1 oc;by_cases hn:n=id+2
  ·subst hn;simp only [eH,decide_true,cond_true] at oc;have:=hQ 0 e1 cR a1 w1 h1 t1 oc;simpa [lX,afA] using this
  ·simp only [eH,hn,decide_false,cond_false] at oc;have:=hQ n e1 cR a1 w1 h1 t1 oc;match n,hn,this with
   |0,_,this=>exact this
   |1,_,this=>exact this
   |i+2,hn,this=>have hi:i≠id:=λhe=>hn (by rw [he]);simpa [lX,afA,hi] using this
 |loop b ih=>
  intro R r Z e st a w K Q h hK hQ;simp only [lu] at hK;generalize hh:c.wH ((gO b).getD 0)=hn at hK;obtain ⟨Zi,e1,e2,cR,dV,h1,t1,hφ,hk,j1,j2,kC,kz,hK⟩:=zS h hK;obtain ⟨vs,ht,hK⟩:=mP hK;obtain ⟨⟨n,ms⟩,hl,hK⟩:=rq hK;obtain ⟨k,On⟩:=UB hl;have hK:=Ig hK;refine wp_loop_rounds k ?_;have key: ∀(k:Nat) (vs:List MV) (e2 e3:Env) (qD:St) (a3:Act) (w3:World),cc c Zi e3 qD a3 w3->e3.φ=e2.φ->TO qD [] hn.outs vs->kN c Z Zi e2 (vY st dV) hn a3 w3->kN c Zi Zi e2 dV hn a3 w3->Trans Z.In e.φ w e2.φ w3-> iter (λms=>nQ dV hn.outs ms λst=>lu c b (Sum (List MV) (Nat×List MV)) st λe st=>bif BY e 0 then mJ st [] hn.outs λvs=>some (.inl vs) else mJ st [] (hn.ex e) λvs=>some (.inr (e,vs))) k vs=some (n,ms)->afN P b Q k a3 w3:=by
   intro k;induction k with
   |zero=>intro vs e2 e3 qD a3 w3 _ _ _ _ _ _ hi;simp [iter] at hi
   |succ k ihk=>
    intro vs e2 e3 qD a3 w3 h3 hφ3 VW j1 j2 t3 hi;simp only [iter] at hi;obtain ⟨s1,s2,s3⟩:=XG (hn:=hn);rw [rounds_succ];have go: ∀(res:Sum (List MV) (Nat×List MV)),(nQ dV hn.outs vs λst=>lu c b (Sum (List MV) (Nat×List MV)) st λe st=>
     bif BY e 0 then mJ st [] hn.outs λvs=>some (.inl vs) else mJ st [] (hn.ex e) λvs=>some (.inr (e,vs)))=some res->
     (∀QM,res= .inl QM->iter (λms=>nQ dV hn.outs ms λst=>lu c b (Sum (List MV) (Nat×List MV)) st λe st=>bif BY e 0 then mJ st [] hn.outs λvs=>some (.inl vs) else mJ st [] (hn.ex e) λvs=>some (.inr (e,vs))) k QM=some (n,ms))->
     (∀q,res= .inr q->q=(n,ms))->b.wp P (Exit.then (afN P b Q k) Q) a3 w3:=by
     intro res zg hl hr;obtain ⟨e5,st5,g1,g2,g3⟩:=AV j2 h3 hφ3 ⟨s1,s2⟩ (s3 kz) VW zg;refine ih g1 g3 ?_;intro n' e6 st6 a6 w6 h6 t6 RD;have t6':Trans Zi.In e2.φ w3 e6.φ w6:=by rw [<-g2];exact t6
     have jl1:=j1.later t6' h6.pM h6.defers.1 h6.size h6.defers.2.2.2;have jl2:=j2.later t6' h6.pM h6.defers.1 h6.size h6.defers.2.2.2;by_cases VK:n'=0
     ·subst VK;obtain ⟨QM,ht6,hv6⟩:=mP RD;cases hv6;exact ihk QM {e2 with φ:=e6.φ} e6 st6 a6 w6 h6 rfl ht6 jl1 jl2 (t3.trans (t6'.sup kC)) (hl QM rfl)
     ·rw [wY VK];have:BY n' 0=false:=by rw [eH];simp [VK]
      simp only [this,cond_false] at RD;obtain ⟨QM,ht6,hv6⟩:=mP RD;cases hv6;cases hr _ rfl;obtain ⟨x1,x2,x3⟩:=Ie (hn:=hn) (e:=n);obtain ⟨e7,st7,q1,q2,q3⟩:=AV jl1 h6 rfl ⟨x1,x2⟩ (x3 kz) ht6 hK;refine hQ n e7 st7 a6 w6 q1 ?_ q3;rw [q2];exact t3.trans (t6'.sup kC)
    split at hi
    ·rename_i s' hs;exact go _ hs (λQM he=>by cases he;exact hi) (λq he=>by cases he)
    ·rename_i q hs;cases hi;exact go _ hs (λQM he=>by cases he) (λq he=>by cases he;rfl)
    ·cases hi
  refine key k vs e2 e1 cR a w h1 hφ.symm ht j1 j2 ?_ On;rw [hφ];exact t1
 |_=>intros;rename_i hK _;simp [lu] at hK
end
end Dn
/-
  Whole functions. Conditions: none.
-/
namespace Dn
open Go
section
variable {P:Program}{c:Ctx}{Z Zb Zi:bR} {e e' e3:Env}{st b7 qD B:St} {a a':Act} {w w':World}{R:Type}{r:R}{Q:Exit->Act->World->Prop}{o:Oper}
theorem Gb {ts:List Nat}: ∀{n:Nat} {vs:List Value} {ms:List MV} {K:Fr->List MV->Option R},cX e.key e.φ vs ms->Hv c ts n ms K=some r-> ∃fr rest kl tV,K fr rest=some r/\vs=kl++tV/\kl.length=ts.length/\cX e.key e.φ tV rest/\aV fr=acz n ts.length/\ (∀p∈fr,dQ p.2=false/\di p.2=false/\ ∃v,kl[p.1-n]? =some v/\ah e v p.2):=by
 induction ts with
 |nil=>intro n vs ms K h hK;exact ⟨[],ms,[],vs,hK,rfl,rfl,h,rfl,by simp⟩
 |cons t ts ih=>
  intro n vs ms K h hK;simp only [Hv] at hK;cases hI:c.tv t with
  |none=>simp [hI] at hK
  |some I=>
   simp only [hI] at hK;cases ms with
   |nil=>simp [gC] at hK
   |cons m ms=>
    simp only [gC] at hK;obtain ⟨v,u,rfl,h1,h2⟩:=h;obtain ⟨s,g1,g2,hK⟩:=Ct h1 hK;obtain ⟨fr,rest,kl,tV,hK,rfl,q1,q2,q3,q4⟩:=ih h2 hK;refine ⟨(n,s)::fr,rest,v::kl,tV,hK,rfl,by simp [q1],q2,?_,?_⟩
    ·simp only [aV,aaZ,acb] at q3⊢;rw [q3,aei]
    ·intro p hp;rcases AI.1 hp with rfl|hp
     ·refine ⟨?_,?_,v,by simp,g1⟩
      ·cases s<;>simp [BJ] at g2<;>rfl
      ·cases s<;>simp [BJ] at g2<;>rfl
     ·obtain ⟨k1,k2,v',k3,k4⟩:=q4 p hp;refine ⟨k1,k2,v',?_,k4⟩;have hk:p.1∈aV fr:=aba.2 ⟨p,hp,rfl⟩;rw [q3,adk] at hk;obtain ⟨i,hi,he⟩:=hk;have:p.1-n=(p.1-(n+1))+1:=by omega
      rw [this];simpa using k3
theorem Lv {jE:List (List Kd)}: ∀{n:Nat} {vs:List Value} {ms:List MV} {K:Fr->Option R},cX e.key e.φ vs ms->Q4 jE n ms K=some r-> ∃fr,K fr=some r/\vs.length=jE.length/\aV fr=acz n jE.length/\ (∀p∈fr,dQ p.2=false/\(∀cs,p.2≠ .box cs)/\ ∃v,vs[p.1-n]? =some v/\ah e v p.2):=by
 induction jE with
 |nil=>
  intro n vs ms K h hK;cases ms with
  |nil=>cases h;exact ⟨[],hK,rfl,rfl,by simp⟩
  |cons m ms=>simp [Q4,gN] at hK
 |cons ks jE ih=>
  intro n vs ms K h hK;cases ms with
  |nil=>simp [Q4,gC] at hK
  |cons m ms=>
   simp only [Q4,gC] at hK;obtain ⟨v,u,rfl,h1,h2⟩:=h;unfold gP at hK;split at hK
   ·rename_i cs;obtain ⟨_,h1⟩:=h1;obtain ⟨bx,off,us,hv,hr,hφ⟩: ∃bx off us,v= .pointer (some ⟨bx,off,none⟩)/\jB e.key e.φ us cs/\ ∀j,j<us.length->e.φ bx (off+j)=us[j]? :=by
     generalize BM:[v]=ws at h1;cases h1 with
     |rp bx off us _ hr hφ=>exact ⟨bx,off,us,by simpa using BM,hr,hφ⟩
    obtain ⟨ls,OS,hK⟩:=xQ (e:=e) (vs:=us) hK;obtain ⟨fr,hK,q1,q3,q4⟩:=ih h2 hK;refine ⟨(n,.zB ls)::fr,hK,by simp [q1],?_,?_⟩
    ·simp only [aV,aaZ,acb] at q3⊢;rw [q3,aei]
    ·intro p hp;rcases AI.1 hp with rfl|hp
     ·refine ⟨rfl,λcs he=>(by cases he),v,by simp,?_⟩;simp only [ah];exact ⟨bx,off,us,hv,OS.rep hr,OS.VM,hφ⟩
     ·obtain ⟨k1,k2,v',k3,k4⟩:=q4 p hp;refine ⟨k1,k2,v',?_,k4⟩;have hk:p.1∈aV fr:=aba.2 ⟨p,hp,rfl⟩;rw [q3,adk] at hk;obtain ⟨i,hi,he⟩:=hk;have:p.1-n=(p.1-(n+1))+1:=by omega
      rw [this];simpa using k3
   ·simp at hK
theorem Dz {r:Fr}{t:Nat}(ht:t∈aV r):(t,aw r t)∈r:=by
 induction r with
 |nil=>simp [aV] at ht
 |cons p r ih=>
  obtain ⟨k,x⟩:=p;simp only [aw,eH];by_cases h:k=t
  ·simp [h]
  ·simp only [h,decide_false,cond_false];simp only [aV,aaZ,AI] at ht;exact aas _ (ih (ht.resolve_left (λe=>h e.symm)))
def lY (tmps:Array Value):ResultVar->Sem Value
 | .tmp t=>pure (tmps.getD t undef)
 | .cell a t=>do loadVar t (<-asAddr (tmps.getD a undef))
theorem UE {rs:List ResultVar}(hT:lV P c.ti): ∀{e:Env} {st:St} {K:List MV->Option R},cc c Z e st a w->EX c st none rs K=some r-> ∃e' b7 ms vs,cc c Z e' b7 a w/\Ext Z.In e e'/\(rs.mapM (lY a.tmps)).run P w= .ok vs w/\cX e'.key e'.φ vs ms/\K ms=some r:=by
 induction rs with
 |nil=>intro e st K h hK;exact ⟨e,st,[],[],h,.refl _ _,by simp,rfl,hK⟩
 |cons x rs ih=>
  intro e st K h hK;have go: ∀(s:Slot) (v:Value),ah e v s->(lY a.tmps x).run P w= .ok v w->(nW st s λm st=>EX c st none rs λms=>K (m::ms))=some r-> ∃e' b7 ms vs,cc c Z e' b7 a w/\Ext Z.In e e'/\((x::rs).mapM (lY a.tmps)).run P w= .ok vs w/\cX e'.key e'.φ vs ms/\K ms=some r:=by
   intro s v hs cy hK;obtain ⟨e1,cR,m,h1,h2,h3,h4,hK⟩:=pi h hs hK;obtain ⟨e2,dV,ms,vs,q1,q2,q3,q4,hK⟩:=ih h1 hK;refine ⟨e2,dV,m::ms,v::vs,q1,h2.trans q2,?_,⟨v,vs,rfl,?_,q4⟩,hK⟩
   ·simp [aeJ,cy,q3]
   ·have:=h4.mono q2.on.φ;rw [<-q2.on.key] at this;exact this
  simp only [EX] at hK;cases x with
  |tmp t=>
   simp only at hK;have hs:=h.slot t;by_cases hb: ∃cs,aw st.fr t= .box cs
   ·obtain ⟨cs,hb⟩:=hb;rw [hb] at hK;simp [nW] at hK
   ·refine go (aw st.fr t) (a.tmps.getD t undef) ?_ rfl hK;generalize aw st.fr t=s at hs hb;cases s<;>first|exact hs|exact absurd ⟨_,rfl⟩ hb
  |cell b t=>
   simp only at hK;have hs:=h.slot b;split at hK
   ·rename_i I cs hI hb;obtain ⟨Re,QK⟩:=b6 hI;rw [hb] at hs;obtain ⟨hv,Ds⟩:=hs;cases Cw:gM cs||zu b with
    |true=>simp [Cw] at hK
    |false=>
    obtain ⟨wI,hpb⟩:=IT.1 Cw;simp only [Cw,cond_false] at hK;have hv:=hv.1 hpb;rw [vZ wI] at hv;obtain ⟨arr,T,eZ,sV⟩:=Ds.cells wI;have hm:w.rangeAt (e.B b) 0 arr.toList:=by intro j v hj;rw [aa9,cell_of eZ];simpa using hj
    obtain ⟨v,s,h1,h2,h3,h4⟩:=kU (P:=P) (st:=st) (s:= .skip) (hT t I Re) QK sV hm hK;refine go s v h2 ?_ h4;simpa [lY,hv,asAddr,afK,aeK] using h1 w hm
   ·simp at hK
theorem UF {x:ResultVar}{ty:Nat}{I:TI}{K:List MV->Option R}(hI:c.tv ty=some I)(hT:lV P c.ti)(Cq:Z.cV=[])(h:cc c Z e st a w)(hK:EX c st (some ty) [x] K=some r): ∃v xs,([x].mapM (lY a.tmps)).run P w= .ok [v] w/\dW c Z.nc e w v ⟨ty,false,xs⟩/\K [.fresh xs]=some r:=by
 obtain ⟨pO,hc⟩:=b6 hI;have go: ∀(s:Slot) (v:Value),ah e v s->(lY a.tmps x).run P w= .ok v w->(match s with
  | .sc (.own f)=>(match aT st.bn f with|some o=>bif o.eX||!BY o.ty ty then none else EX c st (some ty) [] λms=>K (.fresh o.xs::ms)|none=>none)
  | .sc .nil=>EX c st (some ty) [] λms=>K (.fresh []::ms)
  |_=>none)=some r-> ∃v xs,([x].mapM (lY a.tmps)).run P w= .ok [v] w/\dW c Z.nc e w v ⟨ty,false,xs⟩/\K [.fresh xs]=some r:=by
  intro s v hs cy hK;have hr:([x].mapM (lY a.tmps)).run P w= .ok [v] w:=by simp [aeJ,cy]
  split at hK
  ·rename_i f;cases hf:aT st.bn f with
   |none=>simp [hf] at hK
   |some o=>
    simp only [hf] at hK;cases hb:o.eX||!BY o.ty ty with
    |true=>simp [hb] at hK
    |false=>simp only [hb,cond_false,EX] at hK;obtain ⟨h1,h2⟩:=IT.1 hb;have kz:o.ty=ty:=eJ (by simpa using h2);obtain ⟨hv,_⟩:=sX h hs hf;obtain ⟨J,cells,k1,k2,k3,k4,k5⟩:=(h.jA f o hf).row;refine ⟨v,o.xs,hr,⟨J,cells,by rw [<-kz];exact k1,k2,by rw [hv,<-kz];exact k3,k4,λbx hb=> ?_⟩,hK⟩;rw [hv] at hb;obtain ⟨q1,q2,_⟩:=k5 bx hb;refine ⟨Oj q1 (by rw [Cq];simp),λoff u hu=> ?_,λhc=>hc.elim⟩;have:=(q2 off u hu).1;rw [h1] at this;cases this
  ·simp only [EX] at hK;simp only [ah] at hs;have hs:[v]=[acf none 0 0]:=hs;simp at hs;refine ⟨v,[],hr,⟨I,[],pO,hc,by rw [hs];exact World.ownsRow_nil w 0 ty I.size,rfl,λbx hb=> ?_⟩,hK⟩;rw [hs] at hb;simp [IN] at hb
  ·cases hK
 simp only [EX] at hK;cases x with
 |tmp t=>
  simp only at hK;have hs:=h.slot t;by_cases hb: ∃cs,aw st.fr t= .box cs
  ·obtain ⟨cs,hb⟩:=hb;rw [hb] at hK;simp at hK
  ·refine go (aw st.fr t) (a.tmps.getD t undef) ?_ rfl hK;generalize aw st.fr t=s at hs hb;cases s<;>first|exact hs|exact absurd ⟨_,rfl⟩ hb
 |cell b t=>
  simp only at hK;have hs:=h.slot b;split at hK
  ·rename_i I cs hI hb;obtain ⟨Re,QK⟩:=b6 hI;rw [hb] at hs;obtain ⟨hv,Ds⟩:=hs;cases Cw:gM cs||zu b with
   |true=>simp [Cw] at hK
   |false=>
   obtain ⟨wI,hpb⟩:=IT.1 Cw;simp only [Cw,cond_false] at hK;have hv:=hv.1 hpb;rw [vZ wI] at hv;obtain ⟨arr,T,eZ,sV⟩:=Ds.cells wI;have hm:w.rangeAt (e.B b) 0 arr.toList:=by intro j v hj;rw [aa9,cell_of eZ];simpa using hj
   obtain ⟨v,s,h1,h2,h3,h4⟩:=kU (P:=P) (st:=st) (s:= .skip) (hT t I Re) QK sV hm hK;refine go s v h2 ?_ h4;simpa [lY,hv,asAddr,afK,aeK] using h1 w hm
  ·simp at hK
theorem Pd {X:Code->St->(Nat->St->Option MV)->Option MV}(hX: ∀(b:Code){r:MV}{Z:bR}{e:Env}{st:St}{a:Act}{w:World}{K:Nat->St->Option MV}{Q:Exit->Act->World->Prop},cc c Z e st a w->X b st K=some r-> (∀n e' b7 a' w',cc c Z e' b7 a' w'->Trans Z.In e.φ w e'.φ w'->K n b7=some r->Q (lX n) a' w')->b.wp P Q a w)
 {f:FuncId} {fn:Func} {dm:List (List Kd)} {ms:List MV} {m:MV} (hG:Good P c) (hf:P.funcs[f]? =some fn) (DA:(fn.name== "runtime.NumGoroutine")=false)
 (hn:c.n=fn.ntmps) (tp:fn.params.size+dm.length<=fn.ntmps) (hg:c.iL (c.key f)=false) {fresh:Option Nat} (GO: ∀ty,fresh=some ty->ty=c.sI (c.key f)/\fn.results.toList.length=1/\ ∃I,c.tv ty=some I) (hb:SZ X c dm fresh fn ms=some m):mN P c f ms m:=by
 intro φ w Z vs hz kL pG;simp only [jr,hg,aaR,if_false] at kL;unfold SZ at hb;cases tX:fn.body with
 |none=>simp [tX] at hb
 |some b=>
  simp only [tX] at hb;have cy:(callFunc f vs.toArray).run P w= .ok (.enter f vs.toArray) w:=by
   have MW: ¬fn.name= "runtime.NumGoroutine" :=by simpa using DA
   simp [callFunc,hf,MW,tX]
  unfold kW;rw [cy];refine calls_of_wp hf tX ?_;let e:Env:=uT c.key φ;have kL:cX e.key e.φ vs ms:=kL;obtain ⟨fr,rest,kl,tV,hb,rfl,l1,a2,k1,s1⟩:=Gb kL hb;obtain ⟨qR,hb,l2,k2,s2⟩:=Lv a2 hb;simp only [zG] at hb;have htn:(kl++tV).toArray.size=fn.params.size+dm.length:=by simp [l1,l2]
  let a:Act:={tmps:=(kl++tV).toArray++adv (fn.ntmps-(kl++tV).toArray.size) undef,defers:=[]}
  have Om: ∀(t:Nat) (v:Value),(kl++tV)[t]? =some v->a.tmps.getD t undef=v:=by intro t v ht;have dO:t<(kl++tV).length:=(aaT.1 ht).1;rw [abv];show (((kl++tV).toArray++adv _ undef)[t]?).getD undef=v;rw [Array.getElem?_append_left (by simpa using dO)];simp only [List.getElem?_toArray];rw [ht];rfl
  have Ij: ∀t,dQ (aw (fr++qR) t)=false/\(∀cs,aw (fr++qR) t≠ .box cs)/\ah e (a.tmps.getD t undef) (aw (fr++qR) t):=by
   intro t;rw [zH];by_cases h1:t∈aV fr
   ·simp only [h1,if_true];obtain ⟨g1,g2,v,g3,g4⟩:=s1 _ (Dz h1);refine ⟨g1,?_,?_⟩
    ·intro cs hc;simp only [hc,di] at g2;cases g2
    ·rw [Om t v ?_];exact g4;have dO:t<kl.length:=(aaT.1 g3).1;rw [ab2 dO];exact g3
   ·simp only [h1,if_false];by_cases h2:t∈aV qR
    ·obtain ⟨g1,g2,v,g3,g4⟩:=s2 _ (Dz h2);refine ⟨g1,g2,?_⟩;rw [Om t v ?_];exact g4;have hk:=h2;rw [k2,adk] at hk;obtain ⟨i,hi,he⟩:=hk;have BO:fn.params.size=kl.length:=by rw [l1];simp
     rw [ab1 (by omega),<-BO];exact g3
    ·rw [tm _ _ h2];exact ⟨rfl,λcs hc=>(by cases hc),by simp [ah]⟩
  have XH: ∀t cs,aw (fr++qR) t= .box cs->False:=λt cs hc=>(Ij t).2.1 cs hc;have sZ:cc c (bR.plain Z) e ⟨[],[],fr++qR,[]⟩ a w:=by
   refine ⟨⟨rfl,rfl,rfl,λt ht=>by simp [bR.plain] at ht⟩,?_,rfl,rfl,?_,?_,λt=>wW (Ij t).1,λf o ho=>by simp [aT] at ho,λt t' cs kh h1=>(XH t cs h1).elim,λt cs f o h1=>(XH t cs h1).elim,λf f' o o' k h1=>by simp [aT] at h1,pG,hz⟩
   ·show ((kl++tV).toArray++adv (fn.ntmps-(kl++tV).toArray.size) undef).size=c.n;rw [Array.size_append,Array.size_replicate,htn,hn];omega
   ·show (aV (fr++qR)).Nodup;have:aV (fr++qR)=aV fr++aV qR:=by simp [aV]
    rw [this,k1,k2];have:acz 0 fn.params.toList.length++acz fn.params.size dm.length=acz 0 (fn.params.toList.length+dm.length):=by have:=List.range'_append_1 (s:=0) (m:=fn.params.toList.length) (n:=dm.length);simpa using this
    rw [this];exact List.nodup_range'
   ·intro t;obtain ⟨g1,g2,g3⟩:=Ij t;show cz _ e w t _ (aw (fr++qR) t);generalize aw (fr++qR) t=s at g1 g2 g3;cases s<;>first|exact g3|exact absurd rfl (g2 _)
  refine hX b sZ hb ?_;intro n e' b7 a' w' h' t' hK;cases hle:acy n 1 with
  |false=>simp [hle] at hK
  |true=>
   simp only [hle,cond_true] at hK;have alI: ∃φ' us,Trans Z e'.φ w' φ' w'/\Du φ' w'/\(fn.results.toList.mapM (lY a'.tmps)).run P w'= .ok us w'/\kA c Z φ' w' (c.key f) (if h:us.toArray.size=1 then us.toArray[0] else .tuple us.toArray) m:=by
    cases fresh with
    |some ty=>
     obtain ⟨h1,h2,I,h3⟩:=GO ty rfl;match hrs:fn.results.toList,h2 with
     |[x],_=>rw [hrs] at hK;obtain ⟨v,xs,g1,g2,g3⟩:=UF (P:=P) h3 hG.ti rfl h' hK;have g3:some (MV.fresh xs)=some m:=g3;cases g3;refine ⟨e'.φ,[v],.refl _ _ _,h'.pM,g1,?_⟩;simp only [ad9,ady,dite_true];show dW c (bR.plain Z) (uT c.key e'.φ) w' v ⟨c.sI (c.key f),false,xs⟩;rw [<-h1];exact g2.env (e':=uT c.key e'.φ) h'.key.symm rfl
    |none=>
    obtain ⟨e2,dV,ns,us,q1,q2,q3,q4,hK⟩:=UE (P:=P) hG.ti h' hK;refine ⟨e2.φ,us,q2.tr,q1.pM,q3,?_⟩;have On:e2.key=c.key:=q1.key;rw [On] at q4;split at hK
    ·rename_i m';cases hK;obtain ⟨v,u,rfl,g1,g2⟩:=q4;have g2:u=[]:=g2;subst g2;simp only [ad9,ady,dite_true];cases m<;>first|exact g1|exact absurd g1.1 (by simp [MV.one])
    ·rename_i ns' dS;cases hK;have dS:us.toArray.size≠1:=by
      intro h1;cases us with
      |nil=>simp at h1
      |cons v us=>
       cases us with
       |cons=>simp at h1
       |nil=>
        cases ns with
        |nil=>cases q4
        |cons m1 ns1=>
         obtain ⟨v',u',h2,g1,g2⟩:=q4;simp at h2;obtain ⟨rfl,rfl⟩:=h2;cases ns1 with
         |nil=>exact dS m1 rfl
         |cons=>obtain ⟨_,_,h3,_⟩:=g2;simp at h3
     rw [dif_neg dS];exact ⟨us.toArray,rfl,by simpa using q4⟩
   obtain ⟨φ2,us,p1,p2,q3,p4⟩:=alI;have zg:(results fn a'.tmps).run P w'= .ok (if h:us.toArray.size=1 then us.toArray[0] else .tuple us.toArray) w':=by
    have hm:(fn.results.mapM (lY a'.tmps)).run P w'= .ok us.toArray w':=by rw [Array.mapM_eq_mapM_toList];simp [q3]
    have S1:results fn a'.tmps=(do let vs<-fn.results.mapM (lY a'.tmps);pure (if h:vs.size=1 then vs[0] else .tuple vs)):=by unfold results;congr 1
    rw [S1];simp [hm]
   have Pe: ∃φ',Trans Z φ w φ' w'/\Du φ' w'/\kA c Z φ' w' (c.key f) (if h:us.toArray.size=1 then us.toArray[0] else .tuple us.toArray) m:=⟨φ2,t'.trans p1,p2,p4⟩
   match n,hle with
   |0,_=>exact ⟨h'.defers.1,_,zg,_,rfl,Pe.imp λφ' h=>⟨h.1,h.2.1,.plain h.2.2⟩⟩
   |1,_=>exact ⟨h'.defers.1,_,zg,_,rfl,Pe.imp λφ' h=>⟨h.1,h.2.1,.plain h.2.2⟩⟩
   |n+2,hle=>simp [acy] at hle
theorem aaK {f:FuncId}{fn:Func}{dm:List (List Kd)}{ms:List MV}{m:MV}(hG:Good P c)(hD:Ih P c)(hf:P.funcs[f]? =some fn)(DA:(fn.name== "runtime.NumGoroutine")=false)
 (hn:c.n=fn.ntmps) (tp:fn.params.size+dm.length<=fn.ntmps) (hg:c.iL (c.key f)=false) {fresh:Option Nat} (GO: ∀ty,fresh=some ty->ty=c.sI (c.key f)/\fn.results.toList.length=1/\ ∃I,c.tv ty=some I) (hb:Ld c dm fresh fn ms=some m):mN P c f ms m:=
 Pd (λb {r Z e st a w K Q} h hK hQ=>vw hG hD b h hK hQ) hG hf DA hn tp hg GO hb
end
end Dn
/-
  What arguments read as: values of their types. Conditions: none.
-/
namespace Dn
open Go Go.WideShapes
def E7 (W:World):Ph:=λb o=>W.cell? ⟨b,o,none⟩
theorem XI (W:World):Du (E7 W) W:=λb o v h=>h
def Nk (P:Program):List Field->Nat->Nat->Bool
 |[],o,n=>BY o n
 |f::fs,o,n=>BY f.offset o&&Nk P fs (o+P.cellsOf f.type) n
def okT (P:Program):Nat->TypeId->Bool
 |0,_=>false
 |d+1,t=>match P.underlying t with
  |some .bool=>true
  |some (.int _)=>true
  |some .string=>true
  |some (.slice e)=>okT P d e&&acy 1 (P.cellsOf e)
  |some (.struct fs)=>Nk P fs.toList 0 (P.cellsOf t)&&fs.toList.all λf=>okT P d f.type
  |some (.array n e)=>BY n 32&&(match P.underlying e with|some (.int .u8)=>true|_=>false)&&BY (P.cellsOf e) 1&&BY (P.cellsOf t) 32
  |_=>false
def ME (P:Program)(F:TypeId->List MV->Prop)(e:TypeId)(x:MV):Prop:=match P.underlying e with
 |some (.struct _)=> ∃cs,x= .agg cs/\F e cs
 |_=>F e [x]
def FT (F:TypeId->List MV->Prop):List TypeId->List MV->Prop
 |[],ms=>ms=[]
 |t::ts,ms=> ∃a b,ms=a++b/\F t a/\FT F ts b
def MT (P:Program):Nat->TypeId->List MV->Prop
 |0,_,_=>False
 |d+1,t,ms=>match P.underlying t with
  |some .bool=> ∃b,ms=[.b b]
  |some (.int k)=> ∃n,ms=[.i k n]/\(Lit.int k n).wf=true
  |some .string=> ∃l:List UInt8,ms=[.s l]/\l.length<=maxLen
  |some (.slice e)=> ∃xs,ms=[.list xs]/\xs.length<=maxLen/\ ∀x∈xs,ME P (MT P d) e x
  |some (.struct fs)=>FT (MT P d) (fs.toList.map (·.type)) ms
  |some (.array _ _)=> ∃h,ms=[.h h]
  |_=>False
section
variable {H:Type}{enc:TypeId×Value->H}{P:Program}{W:World}{base:Nat}{sp:Nat->Bool}{held:Bool}{key:Nat->Nat}
theorem jB.append {key:Nat->Nat} {φ:Ph}{ms ns:List MV}: ∀{vs us:List Value},jB key φ vs ms->jB key φ us ns->jB key φ (vs++us) (ms++ns):=by
 induction ms with
 |nil=>intro vs us h h';cases h;simpa using h'
 |cons m ms ih=>
  intro vs us h h';cases h with
  |cons v _ vs _ h1 h2=>rw [adW];exact .cons v m _ _ h1 (ih h2 h')
theorem jB.XJ {key:Nat->Nat} {φ:Ph}{v:Value}{m:MV}(h:nu key φ [v] m):jB key φ [v] [m]:=by have:=jB.cons [v] m [] [] h .nil;simpa using this
theorem jB.single {key:Nat->Nat} {φ:Ph}{vs:List Value}{m:MV}(h:jB key φ vs [m]):nu key φ vs m:=by
 cases h with
 |cons v _ vs _ h1 h2=>cases h2;simpa using h1
theorem E8 {a:Addr}{n:Nat}{cs:List Value}(h:W.cells? base a n=some cs):cs.length=n/\ ∀j,j<n->W.cell? (a.add j)=cs[j]? :=by
 unfold World.cells? at h;split at h
 ·have hl:=mapM_some_length h;refine ⟨by simpa using hl,λj hj=> ?_⟩;exact mapM_some_get h j j (by simp [hj])
 ·cases h
theorem Pf {F:TypeId->List MV->Prop}{fuel:Nat}{cs:List Value}: ∀(fs:List Field) (o n:Nat) (xs:List (DataW H×List MemPlace)),Nk P fs o n=true->cs.length=n-> (∀(i:Nat) (f:Field),fs[i]? =some f->DataW.trod enc P W base sp held fuel f.type ((cs.drop f.offset).take (P.cellsOf f.type))=xs[i]?)->xs.length=fs.length-> (∀f∈fs,∀kh x,DataW.trod enc P W base sp held fuel f.type kh=some x-> ∃ms,jB key (E7 W) kh ms/\F f.type ms)-> ∃ms,jB key (E7 W) (cs.drop o) ms/\FT F (fs.map (·.type)) ms:=by
 intro fs;induction fs with
 |nil=>intro o n xs hc hl _ _ _;have:o=n:=eJ hc;subst this;refine ⟨[],?_,rfl⟩;rw [<-hl,List.drop_length];exact .nil
 |cons f fs ih=>
  intro o n xs hc hl hx hxl hF;simp only [Nk,sh] at hc;have ho:=eJ hc.1;cases xs with
  |nil=>simp at hxl
  |cons x xs=>have h0:=hx 0 f rfl;rw [ho] at h0;obtain ⟨m1,r1,t1⟩:=hF f (by simp) _ x (by simpa using h0);obtain ⟨m2,r2,t2⟩:=ih (o+P.cellsOf f.type) n xs hc.2 hl (λi g hg=>by have:=hx (i+1) g (by simpa using hg);simpa using this) (by simpa using hxl) (λg hg=>hF g (by simp [hg]));refine ⟨m1++m2,?_,m1,m2,rfl,t1,t2⟩;have:=r1.append r2;rw [<-List.drop_drop,adw] at this;exact this
theorem XK: ∀(fuel D:Nat) (t:TypeId) (cs:List Value) (x:DataW H×List MemPlace),okT P D t=true->DataW.trod enc P W base sp held fuel t cs=some x-> ∃ms,jB key (E7 W) cs ms/\MT P fuel t ms:=by
 intro fuel;induction fuel with
 |zero=>intro D t cs x _ h;simp [DataW.trod] at h
 |succ fuel ih=>
  intro D t cs x hD h;cases D with
  |zero=>simp [okT] at hD
  |succ D=>
   unfold okT at hD;cases hu:P.underlying t with
   |none=>simp [hu] at hD
   |some d=>
    cases d<;>simp only [hu] at hD<;>try (cases hD;done)
    case bool=>obtain ⟨b,rfl,_⟩:=DataW.trod_bool hu h;exact ⟨[.b b],.XJ (.b b),by simp only [MT,hu];exact ⟨b,rfl⟩⟩
    case int k=>obtain ⟨n,rfl,_,hw⟩:=DataW.trod_int hu h;exact ⟨[.i k n],.XJ (.i k n),by simp only [MT,hu];exact ⟨n,rfl,hw⟩⟩
    case string=>obtain ⟨s,rfl,_,hw⟩:=DataW.trod_string hu h;exact ⟨[.s s.data.toList],.XJ (.s s),by simp only [MT,hu];exact ⟨_,rfl,by simpa using hw⟩⟩
    case struct fs=>
     obtain ⟨xs,n,hn,_,hl,hxl,hx⟩:=DataW.trod_struct hu h;have hn:n=fuel:=by omega
     subst hn;simp only [sh] at hD;obtain ⟨ms,r1,t1⟩:=Pf (F:=MT P n) (key:=key) fs.toList 0 (P.cellsOf t) xs hD.1 hl (λi f hf=>hx i f (by simpa using hf)) (by simpa using hxl) (λf hf kh x' h'=>ih D f.type kh x' (aca.1 hD.2 f hf) h');exact ⟨ms,by simpa using r1,by simp only [MT,hu];exact t1⟩
    case slice e=>
     simp only [sh] at hD;have jD:1<=P.cellsOf e:=abu hD.2;rcases DataW.trod_slice hu h with ⟨rfl,_⟩|⟨a,len,cap,elems,rest,n,hn,rfl,_,_,hlc,Ok,hel,hx,_⟩
     ·refine ⟨[.list []],.XJ (.list none 0 [] 0 0 0 (λ_=>[]) (by simp) (by simp) (by simp) (by simp) (by simp)),?_⟩;simp only [MT,hu];exact ⟨[],rfl,afM _,by simp⟩
     ·have hn:n=fuel:=by omega
      subst hn;have oX: ∀i,i<len-> ∃kh m,W.cells? base (a.add (i *P.cellsOf e)) (P.cellsOf e)=some kh/\nu key (E7 W) kh m/\ME P (MT P n) e m:=by
       intro i hi;have h1:=hx i hi;cases hc:W.cells? base (a.add (i *P.cellsOf e)) (P.cellsOf e) with
       |none=>
        rw [hc] at h1;have:elems[i]? =none:=by simpa using h1.symm
        rw [acw] at this;omega
       |some kh=>
        rw [hc] at h1;have dO:i<elems.length:=by omega
        rw [IS dO] at h1;obtain ⟨ms,r1,t1⟩:=ih D e kh _ hD.1 (by simpa using h1);have M4:=hD.1;by_cases hs: ∃fs,P.underlying e=some (.struct fs)
        ·obtain ⟨fs,hs⟩:=hs;exact ⟨kh,.agg ms,rfl,.agg kh ms r1,by simp only [ME,hs];exact ⟨ms,rfl,t1⟩⟩
        ·have h1m: ∃m,ms=[m]:=by
          cases n with
          |zero=>exact t1.elim
          |succ n=>
           simp only [MT] at t1;cases hue:P.underlying e with
           |none=>simp [hue] at t1
           |some de=>
            cases de<;>simp only [hue] at t1<;>first
             |exact t1.elim
             |(obtain ⟨y,hy,_⟩:=t1;exact ⟨_,hy⟩)
             |(obtain ⟨y,hy⟩:=t1;exact ⟨_,hy⟩)
             |exact absurd ⟨_,hue⟩ hs
         obtain ⟨m,rfl⟩:=h1m;refine ⟨kh,m,rfl,r1.single,?_⟩;unfold ME;cases hue:P.underlying e with
         |none=>exact t1
         |some de=>cases de<;>first|exact t1|exact absurd ⟨_,hue⟩ hs
      let f:Nat->List Value:=λi=>(W.cells? base (a.add (i *P.cellsOf e)) (P.cellsOf e)).getD [];let g:Nat->MV:=λi=>if hi:i<len then acR (aa6 (oX i hi)) else default
      have Oo: ∀i,i<len->W.cells? base (a.add (i *P.cellsOf e)) (P.cellsOf e)=some (f i)/\nu key (E7 W) (f i) (g i)/\ME P (MT P n) e (g i):=by
       intro i hi;have hsp:=aa6 (aa6 (oX i hi));have hf:f i=acR (oX i hi):=by show (W.cells? base (a.add (i *P.cellsOf e)) (P.cellsOf e)).getD []=_;exact congrArg (λo=>o.getD []) hsp.1
       have hg:g i=acR (aa6 (oX i hi)):=by show (if hi:i<len then _ else _)=_;rw [dif_pos hi]
       rw [hf,hg];exact hsp
      have acA:0<len->a=⟨a.block,a.off,none⟩:=by
       intro h0;obtain ⟨h1,_,_⟩:=Oo 0 h0;obtain ⟨sY,hcg⟩:=E8 h1;have:=hcg 0 (by omega);rw [Nat.zero_mul] at this;have hz:(a.add 0).add 0=a:=rfl;rw [hz] at this;have dO:0<(f 0).length:=by omega
       rw [IS dO] at this;unfold World.cell? at this;split at this
       ·cases hsp:a.spot with
        |none=>cases a;simp at hsp;subst hsp;rfl
        |some s=>simp [hsp] at this
       ·cases this
      have ahs: ∀i j,i<len->j<P.cellsOf e->E7 W a.block (a.off+i *P.cellsOf e+j)=(f i)[j]? :=by intro i j hi hj;obtain ⟨h1,_,_⟩:=Oo i hi;obtain ⟨sY,hcg⟩:=E8 h1;have:=hcg j hj;rw [<-this];unfold E7;congr 1;have ha:=acA (by omega);rw [ha];rw [afL,afL]
      refine ⟨[.list ((adP len).map g)],.XJ ?_,?_⟩
      ·have hlen:((adP len).map g).length=len:=by simp
       have:=nu.list (key:=key) (φ:=E7 W) (some a) cap ((adP len).map g) a.block a.off (P.cellsOf e) f (by rw [hlen];exact hlc) (λh0=>by rw [hlen] at h0;exact congrArg some (acA h0)) (λi hi=>by rw [hlen] at hi;exact (E8 (Oo i hi).1).1) (λi j hi hj=>ahs i j (by rw [hlen] at hi;exact hi) hj) (λi hi=>by simp at hi;simpa using (Oo i hi).2.1);rw [hlen] at this;exact this
      ·simp only [MT,hu];refine ⟨_,rfl,by simp;omega,λy hy=> ?_⟩;obtain ⟨i,hi,rfl⟩:=aba.1 hy;exact (Oo i (by simpa using hi)).2.2
    case array n e=>
     simp only [sh] at hD;obtain ⟨⟨⟨h1,h2⟩,h3⟩,h4⟩:=hD;have h1:=eJ h1;have h3:=eJ h3;have h4:=eJ h4;subst h1;obtain ⟨xs,m,hm,_,hl,hxl,hx⟩:=DataW.trod_array hu h;rw [h4] at hl;split at h2
     ·rename_i hue;have BL: ∀i (hi:i<cs.length),∃b:UInt8,cs[i]= .int .u8 (b.toNat:Int):=by
       intro i hi;have Rf:i<32:=by omega
       have:=hx i Rf;rw [h3,Nat.mul_one] at this;have Kh:(cs.drop i).take 1=[cs[i]]:=by rw [List.take_one,List.head?_drop,IS hi];rfl
       rw [Kh,IS (by omega)] at this;obtain ⟨k,hk,_,hw⟩:=DataW.trod_int hue this;simp only [aaa,and_true] at hk;refine ⟨acx k.toNat,?_⟩;rw [hk];simp only [Lit.wf,sh,decide_eq_true_eq] at hw;have WN:IntKind.u8.min=0:=by decide
       have alK:IntKind.u8.max=255:=by decide
       rw [WN,alK] at hw;congr 1;have:(acx k.toNat).toNat=k.toNat:=by rw [UInt8.toNat_ofNat'];omega
       rw [this];omega
      have: ∃l:List UInt8,cs=l.map λb=>afP .u8 (b.toNat:Int):=by
       clear hx hl h;induction cs with
       |nil=>exact ⟨[],rfl⟩
       |cons c cs ihc=>obtain ⟨b,hb⟩:=BL 0 (by simp);obtain ⟨l,hl⟩:=ihc (λi hi=>by have:=BL (i+1) (by simpa using hi);simpa using this);exact ⟨b::l,by simp at hb;rw [hb,hl];rfl⟩
      obtain ⟨l,rfl⟩:=this;have ad4:l.length=32:=by simpa using hl
      refine ⟨[.h ⟨l,ad4⟩],?_,by simp only [MT,hu];exact ⟨_,rfl⟩⟩;have:=jB.cons (key:=key) (φ:=E7 W) _ (.h ⟨l,ad4⟩) [] [] (.h ⟨l,ad4⟩) .nil;simpa using this
     ·cases h2
theorem XL {r:Reach}{b0 D:Nat}{t:TypeId}{v:Value}{d:DataW H}{ps:List MemPlace}(hD:okT P D t=true)(hv:acu P W r b0 t v)(h:DataW.Trod enc P W base sp held t v d ps): ∃m n,jU key (E7 W) v m/\ME P (MT P n) t m:=by
 obtain ⟨fuel,hf⟩:=h;obtain ⟨ms,r1,t1⟩:=XK (key:=key) fuel D t _ _ hD hf;cases fuel with
 |zero=>exact t1.elim
 |succ fuel=>
  have t2:=t1;simp only [MT] at t1;cases hu:P.underlying t with
  |none=>simp [hu] at t1
  |some k=>
   simp only [hu] at t1;cases k<;>simp only at t1<;>try (exact t1.elim)
   case bool=>obtain ⟨b,rfl⟩:=t1;obtain ⟨b',rfl⟩:=okWide_bool hu hv;refine ⟨.b b,fuel+1,⟨rfl,r1.single⟩,by unfold ME;simp only [hu];exact t2⟩
   case int k=>obtain ⟨n,rfl,_⟩:=t1;obtain ⟨n',rfl⟩:=okWide_int hu hv;refine ⟨.i k n,fuel+1,⟨rfl,r1.single⟩,by unfold ME;simp only [hu];exact t2⟩
   case string=>obtain ⟨l,rfl,_⟩:=t1;obtain ⟨s',rfl⟩:=okWide_string hu hv;refine ⟨.s l,fuel+1,⟨rfl,r1.single⟩,by unfold ME;simp only [hu];exact t2⟩
   case slice e=>
    obtain ⟨xs,rfl,_⟩:=t1;have hvc:v.cells.toList=[v]:=by simp only [acu,hu,Cell.okWide] at hv;cases v<;>simp_all [Cell.ok,ach]
    rw [hvc] at r1;refine ⟨.list xs,fuel+1,⟨rfl,r1.single⟩,by unfold ME;simp only [hu];exact t2⟩
   case struct fs=>obtain ⟨arr,rfl,_⟩:=okWide_struct hu hv;refine ⟨.agg ms,fuel+1,⟨arr,rfl,by simpa [ach] using r1⟩,by unfold ME;simp only [hu];exact ⟨ms,rfl,t2⟩⟩
   case array n e=>
    obtain ⟨h,rfl⟩:=t1;have: ∃arr,v= .agg arr:=by simp only [acu,hu] at hv;obtain ⟨arr,rfl,_⟩:=hv;exact ⟨arr,rfl⟩
    obtain ⟨arr,rfl⟩:=this;refine ⟨.h h,fuel+1,?_,by unfold ME;simp only [hu];exact t2⟩;have hr:=r1.single;simp only [ach] at hr;generalize BM:arr.toList=vs at hr;cases hr;show Value.agg arr= .agg _;rw [<-BM]
end
end Dn
/-
  A law of plain data, out of its function's contract. Conditions: none.
-/
namespace Dn
open Go Go.WideShapes Go.ChangeShapes Go.RowKit
section
variable {H:Type}{enc:TypeId×Value->H}{P:Program} {W W':World}{c:Ctx}
theorem BT (hl:laidOutB P=true)(hb:Below W.heap.size W W'): ∀{ts:List TypeId} {vs:List Value} {ds:List (DataW H)} {ps:List MemPlace},(∀t∈ts,P.readableRec t=true/\t<P.types.size)-> DataW.TrodAll enc P W 0 (λ_=>true) true ts vs ds ps->(∀x∈ps,x.block<W.heap.size)->DataW.TrodAll enc P W' 0 (λb=>decide (b<W.heap.size)) true ts vs ds ps
 |[],[],[],_,_,h,_=>h
 |t::ts,v::vs,d::ds,_,ht,⟨p,q,h1,h2,e⟩,hs=>⟨p,q,Below.trod hl (ht t (by simp)).1 (ht t (by simp)).2 h1 hb (λx hx=>hs x (by rw [e];exact No _ hx)),BT hl hb (λu hu=>ht u (by simp [hu])) h2 (λx hx=>hs x (by rw [e];exact aah _ hx)),e⟩
def DB (P:Program):List TypeId->List MV->Prop
 |[],ms=>ms=[]
 |t::ts,ms=> ∃m r,ms=m::r/\(∃n,ME P (MT P n) t m)/\DB P ts r
theorem Lw {base:Nat}{sp:Nat->Bool}{held:Bool}{key:Nat->Nat}{r:Reach}{b0:Nat}: ∀{ts:List TypeId} {vs:List Value} {ds:List (DataW H)} {ps:List MemPlace},(∀t∈ts,∃D,okT P D t=true)-> (∀(j:Nat) t v,ts[j]? =some t->vs[j]? =some v->acu P W r b0 t v)->DataW.TrodAll enc P W base sp held ts vs ds ps-> ∃ms,cX key (E7 W) vs ms/\DB P ts ms/\ds.length=ts.length
 |[],[],[],_,_,_,_=>⟨[],rfl,rfl,rfl⟩
 |t::ts,v::vs,d::ds,_,ht,hv,⟨p,q,h1,h2,e⟩=>by obtain ⟨D,hD⟩:=ht t (by simp);obtain ⟨m,n,r1,t1⟩:=XL (key:=key) hD (hv 0 t v rfl rfl) h1;obtain ⟨ms,r2,t2,hl⟩:=Lw (key:=key) (λu hu=>ht u (by simp [hu])) (λj u x hu hx=>hv (j+1) u x (by simpa using hu) (by simpa using hx)) h2;exact ⟨m::ms,⟨v,vs,rfl,r1,r2⟩,⟨m,ms,rfl,⟨n,t1⟩,t2⟩,by simp [hl]⟩
theorem UG {fn:Func}{f:FuncId}{s:ChangeSpec}{args:Array Value}{ds gs:List (DataW H)}{before:List MemPlace}{tb:TypeId}{base:Nat}(hf:P.funcs[f]? =some fn)(tX:fn.body.isSome=true)(DA:(fn.name== "runtime.NumGoroutine")=false)
 (hl:laidOutB P=true) (aht: ∀t∈fn.params.toList,(∃D,okT P D t=true)/\P.readableRec t=true/\t<P.types.size) (zg:fn.resultTypes= #[tb]) (htb:P.underlying tb=some .bool) (hv:s.vars=[])
 (hfn: ∀ds:List (DataW H),ds.length=fn.params.toList.length->s.fn H ds={results:=[.lit (.bool true)],args:=ds})
 (GQ: ∀(j:Nat) t v,fn.params[j]? =some t->args[j]? =some v->acu P W .any base t v)
 (hW:DataW.Whole enc P fn.params.toList s.vars false W args.toList ds gs before) (hg:c.iL (c.key f)=false)
 (HX: ∀ms,DB P fn.params.toList ms->mN P c f ms (.b true)):
 Calls P f args W λe W'=> ∃v,e= .returned v/\s.post enc P fn false true false false W args v W':=by
 have hW':=hW;obtain ⟨p,q,hA,hV,rfl,hfz,hnd⟩:=hW;rw [hv] at hV;obtain ⟨rfl,rfl⟩:=trodVars_none hV;have dO: ∀x∈p,x.block<W.heap.size:=λx hx=>by simpa using hW'.lt x (by simp [hx])
 obtain ⟨ms,r1,t1,ZN⟩:=Lw (key:=c.key) (λt ht=>(aht t ht).1) (λj t v h1 h2=>GQ j t v (by simpa using h1) (by simpa using h2)) hA;have hc:=HX ms t1 (E7 W) W (λb=>W.heap.size<=b) args.toList (λb hb=>hb) (by simp only [jr,hg,aaR,if_false];exact r1) (XI W);have cy:(callFunc f args).run P W= .ok (.enter f args) W:=by
  have MW: ¬fn.name= "runtime.NumGoroutine" :=by simpa using DA
  cases hb:fn.body with
  |none=>rw [hb] at tX;cases tX
  |some b=>simp [callFunc,hf,MW,hb]
 unfold kW at hc;rw [abM,cy] at hc;refine hc.mono ?_;rintro x W' ⟨v,rfl,φ',ht,pG,hr⟩;have hvb:v= .bool true:=by obtain ⟨_,hr⟩:=hr;generalize BM:[v]=vs at hr;cases hr;simpa using BM
 subst hvb;have XM:Below W.heap.size W W':=⟨ht.rest.1,ht.rest.2.1,ht.rest.2.2.1,ht.size,λk hk=>ht.heap k (by omega) hk⟩
 have ad5:=hfn (ds++[]) (by simpa using ZN);refine ⟨_,rfl,ds,[],_,[],p,[],hW',?_,?_,?_,XM.frame _,λh=>by cases h⟩
 ·rw [ad5,zg];exact trodAll_mk1 (shut_bool htb _)
 ·rw [ad5];simpa using BT hl XM (λt ht=>(aht t ht).2) hA dO
 ·rw [ad5,hv];rfl
end
theorem DC {α:Type}{f:α->MV}{Q:α->Prop}{R:MV->Prop}{xs:List MV}(h: ∀x,R x-> ∃y,x=f y/\Q y)(hx: ∀x∈xs,R x): ∃L:List α,xs=L.map f/\ ∀y∈L,Q y:=by
 induction xs with
 |nil=>exact ⟨[],rfl,by simp⟩
 |cons x xs ih=>obtain ⟨y,rfl,hq⟩:=h x (hx x (by simp));obtain ⟨L,rfl,hL⟩:=ih λz hz=>hx z (by simp [hz]);exact ⟨y::L,rfl,by simp only [AI];rintro z (rfl|hz);exact hq;exact hL z hz⟩
end Dn
/-
  A program's type table, looked through. Conditions: none.
-/
namespace Dn
open Go
theorem XN {a b:Kd}(h:kdB a b=true):a=b:=by cases a<;>cases b<;>simp [kdB,kB] at h<;>first|rfl|(subst h;rfl)
def mQ:List Kd->Kd->Bool
 |[k],k'=>kdB k k'
 |_,_=>false
theorem fb {l:List Kd}{k:Kd}(h:mQ l k=true):l=[k]:=by
 cases l with
 |nil=>simp [mQ] at h
 |cons a l=>cases l with
  |nil=>simp only [mQ] at h;rw [XN h]
  |cons=>simp [mQ] at h
def Gc:List Nat->List Nat->Bool
 |[],[]=>true
 |a::l,b::m=>BY a b&&Gc l m
 |_,_=>false
theorem Ik {l m:List Nat}(h:Gc l m=true):l=m:=by
 induction l generalizing m with
 |nil=>cases m<;>simp [Gc] at h;rfl
 |cons a l ih=>
  cases m with
  |nil=>simp [Gc] at h
  |cons b m=>simp only [Gc,sh] at h;rw [eJ h.1,ih h.2]
def xX {α:Type}:List α->Bool
 |[]=>true
 |_=>false
theorem rr {α:Type}{l:List α}(h:xX l=true):l=[]:=by cases l<;>simp [xX] at h;rfl
def Nl (ti:Nat->Option TI)(t:Nat):Bool:=match ti t with|some J=>xX J.dp&&acy 1 J.size|none=>false
theorem Lx {ti:Nat->Option TI}{t:Nat}(h:Nl ti t=true): ∃J,ti t=some J/\J.dp=[]/\0<J.size:=by
 unfold Nl at h;cases hJ:ti t with
 |none=>simp [hJ] at h
 |some J=>simp only [hJ,sh] at h;exact ⟨J,rfl,rr h.1,abu h.2⟩
def Il:List Value->Nat->Bool
 |[],n=>BY n 0
 | .int .u8 k::r,n+1=>decide (k=0)&&Il r n
 |_,_=>false
theorem Pg {l:List Value}{n:Nat}(h:Il l n=true):l=aa1 n (.int .u8 0):=by
 induction l generalizing n with
 |nil=>have:=eJ h;subst this;rfl
 |cons v l ih=>
  cases n with
  |zero=>cases v<;>simp [Il] at h
  |succ n=>
   unfold Il at h;split at h
   ·rename_i h1;simp at h1
   ·rename_i k _ _ h1 h2;simp only [aaa] at h1;obtain ⟨rfl,rfl⟩:=h1;cases h2;simp only [sh,decide_eq_true_eq] at h;rw [h.1,ih h.2];rfl
   ·cases h
def E9:List aJ->aJ->Bool
 |[.nil],.nil=>true
 |[.p (.b false)],.p (.b false)=>true
 |[.p (.i k n)],.p (.i k' m)=>kB k k'&&decide (n=m)
 |[.p (.s [])],.p (.s [])=>true
 |_,_=>false
theorem AW {l:List aJ}{x:aJ}(h:E9 l x=true):l=[x]:=by
 unfold E9 at h;split at h<;>first|rfl|skip
 ·simp [kB] at h;rw [h.1,h.2]
 ·cases h
def XO:List aJ->Bool
 |[.hs x]=>decide (x=lp.zero)
 |_=>false
theorem XP {l:List aJ}(h:XO l=true):l=[.hs lp.zero]:=by
 unfold XO at h;split at h
 ·rw [of_decide_eq_true h]
 ·cases h
def XQ (ti:Nat->Option TI)(P:Program)(I:TI)(z:Option Value):TypeDesc->Bool
 | .struct fs=>I.st&&xX I.dp&&acy 1 I.size&&BY (GM I.lay) I.size&&Gc (fs.toList.map (·.offset)) I.Ow&&Gc (fs.toList.map (·.type)) I.TZ&& (fs.toList.all λf=>Nl ti f.type)&&(match z with|some (.agg cs)=>ve I.zero cs.toList&&BY cs.size I.size|_=>false)
 | .tuple ts=>Gc I.dp ts.toList&&!xX I.dp&&xX I.lay&&!I.st
 | .slice el=>!I.st&&xX I.dp&&BY I.size 1&&BY I.elem el&&Nl ti el&&(match z with|some (.slice none 0 0)=>true|_=>false)&&E9 I.zero .nil&&mQ I.lay .l
 | .array n el=>!I.st&&xX I.dp&&BY I.size 32&&BY n 32&&BY I.elem el&&(match P.underlying el with|some (.int .u8)=>true|_=>false)&&(match P.info? el with|some i=>BY i.size 1|none=>false)&& mQ I.lay .h&&XO I.zero&&(match z with|some (.agg cs)=>Il cs.toList 32|_=>false)
 | .bool=>!I.st&&xX I.dp&&BY I.size 1&&mQ I.lay .b&&E9 I.zero (.p (.b false))&&(match z with|some (.bool false)=>true|_=>false)
 | .int k=>!I.st&&xX I.dp&&BY I.size 1&&mQ I.lay (.i k)&&E9 I.zero (.p (.i k 0))&&(match z with|some (.int k' n)=>kB k' k&&decide (n=0)|_=>false)
 | .string=>!I.st&&xX I.dp&&BY I.size 1&&mQ I.lay .s&&E9 I.zero (.p (.s []))&&(match z with|some (.string b)=>xX b.data.toList|_=>false)
 |_=>!I.st&&xX I.dp&&BY I.size 1&&mQ I.lay .raw&&(match z with|some v=>v.oneCell'&&ve I.zero [v]|none=>false)
theorem XR {ti:Nat->Option TI}{P:Program}{I:TI}{z:Option Value}{d:TypeDesc}(h:XQ ti P I z d=true):tQ ti P I z d:=by
 cases d<;>simp only [XQ,sh,aai] at h<;>simp only [tQ];case struct fs=>
  obtain ⟨⟨⟨⟨⟨⟨⟨h1,h2⟩,h3⟩,h4⟩,h5⟩,h6⟩,h7⟩,h8⟩:=h;refine ⟨h1,rr h2,⟨abu h3,eJ h4⟩,Ik h5,Ik h6,λk f hk=> ?_,?_⟩
  ·exact Lx (aca.1 h7 f (by
    have:fs.toList[k]? =some f:=by simpa using hk
    exact adB this))
  ·split at h8
   ·rename_i cs;simp only [sh] at h8;exact ⟨cs,rfl,h8.1,eJ h8.2⟩
   ·cases h8
 case tuple ts=>obtain ⟨⟨⟨h1,h2⟩,h3⟩,h4⟩:=h;exact ⟨Ik h1,λhe=>(by rw [he] at h2;simp [xX] at h2),rr h3,h4⟩
 case slice el=>
  obtain ⟨⟨⟨⟨⟨⟨⟨h1,h2⟩,h3⟩,h4⟩,h5⟩,h6⟩,h7⟩,h8⟩:=h;refine ⟨h1,rr h2,eJ h3,eJ h4,Lx h5,?_,AW h7,.l,fb h8,rfl⟩;split at h6
  ·rfl
  ·cases h6
 case array n el=>
  obtain ⟨⟨⟨⟨⟨⟨⟨⟨⟨h1,h2⟩,h3⟩,h4⟩,h5⟩,h6⟩,h7⟩,h8⟩,h9⟩,h10⟩:=h;refine ⟨h1,rr h2,eJ h3,eJ h4,eJ h5,?_,fb h8,XP h9,?_⟩
  ·split at h6
   ·rename_i hu;split at h7
    ·rename_i i hi;exact ⟨i,hu,hi,eJ h7⟩
    ·cases h7
   ·cases h6
  ·split at h10
   ·rename_i cs;have:=Pg h10;congr 1;congr 1;apply aa8.1;rw [this];rfl
   ·cases h10
 case bool=>
  obtain ⟨⟨⟨⟨⟨h1,h2⟩,h3⟩,h4⟩,h5⟩,h6⟩:=h;refine ⟨h1,rr h2,eJ h3,fb h4,AW h5,?_⟩;split at h6
  ·rfl
  ·cases h6
 case int k=>
  obtain ⟨⟨⟨⟨⟨h1,h2⟩,h3⟩,h4⟩,h5⟩,h6⟩:=h;refine ⟨h1,rr h2,eJ h3,fb h4,AW h5,?_⟩;split at h6
  ·simp only [kB,sh,decide_eq_true_eq] at h6;rw [h6.1,h6.2]
  ·cases h6
 case string=>
  obtain ⟨⟨⟨⟨⟨h1,h2⟩,h3⟩,h4⟩,h5⟩,h6⟩:=h;refine ⟨h1,rr h2,eJ h3,fb h4,AW h5,?_⟩;split at h6
  ·rename_i b;exact ⟨b,rfl,rr h6⟩
  ·cases h6
 all_goals
  obtain ⟨⟨⟨⟨h1,h2⟩,h3⟩,h4⟩,h5⟩:=h;refine ⟨h1,rr h2,eJ h3,fb h4,?_⟩;split at h5
  ·rename_i v;simp only [sh] at h5;exact ⟨v,rfl,h5.1,h5.2⟩
  ·cases h5
def ad7 (ti:Nat->Option TI)(P:Program)(t:Nat)(I:TI):Bool:=match P.underlying t,P.info? t with
 |some d,some i=>(!xX I.dp||(BY i.size I.size&&BY i.bytes I.bytes))&&XQ ti P I i.zero d
 |_,_=>false
theorem aaM {ti:Nat->Option TI}{P:Program}{t:Nat}{I:TI}(h:ad7 ti P t I=true):qH ti P t I:=by
 unfold ad7 at h;split at h
 ·rename_i d i hu hi;simp only [sh,Bool.or_eq_true,aai] at h;refine ⟨d,i,hu,hi,λhc=> ?_,XR h.2⟩;rcases h.1 with h1|h1
  ·rw [hc] at h1;simp [xX] at h1
  ·exact ⟨eJ h1.1,eJ h1.2⟩
 ·cases h
def vz:List (Nat×TI)->Nat->Option TI
 |[],_=>none
 |(k,s)::r,t=>bif BY k t then some s else vz r t
def Pj (P:Program)(ZO:List (Nat×TI)):Bool:=ZO.all λp=>ad7 (vz ZO) P p.1 p.2
theorem Ly {l:List (Nat×TI)}{t:Nat}{I:TI}(h:vz l t=some I):(t,I)∈l:=by
 induction l with
 |nil=>simp [vz] at h
 |cons p l ih=>
  obtain ⟨k,s⟩:=p;simp only [vz,eH] at h;by_cases hk:k=t
  ·subst hk;simp at h;subst h;simp
  ·simp only [hk,decide_false,cond_false] at h;exact aas _ (ih h)
theorem Nn {P:Program}{ZO:List (Nat×TI)}(h:Pj P ZO=true):lV P (vz ZO):=λt I hI=>aaM (aca.1 h (t,I) (Ly hI))
end Dn
