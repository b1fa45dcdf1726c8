import Derived.Test.YtmdlghpieagfhaaGreatDnA
import Derived.MapKept
import Derived.Carry
import Derived.Laws.StructEq
import Derived.Laws.RangeAny
import Derived.Laws.BytesArg
import Derived.Laws.MakeOwn
import Derived.LoopN
import Derived.Laws.Sem
import Derived.ProofKit
import Derived.OpenShut
/-
  Variables that no one changes any more. Conditions: none.
-/
set_option linter.unusedSimpArgs false
set_option linter.unusedVariables false
set_option linter.constructorNameAsVariable false
open Nat renaming eq_of_beq_eq_true→fj,beq→BY,zero_add→aaV,le_of_ble_eq_true→abf,add_right_cancel_iff→abW,le_refl→acO,le_trans→adp,ble→afA,not_lt_zero→afI,ble_eq_true_of_le→afM,add_assoc→ahd,add_comm→ahh,zero_le→ahm
open Bool renaming and_eq_true→sh,or_eq_false_iff→IT,not_eq_true'→aaH,false_eq_true→aaM,not_eq_false'→aaX,not_true→ag5,true_and→ahf
open List renaming mem_cons→AI,getElem?_eq_getElem→IS,mem_append_left→No,mem_append_right→aay,mem_cons_of_mem→aaI,cons_append→aaN,getElem?_eq_some_iff→aaO,map_cons→aaQ,replicate→aaR,getElem?_map→aaT,mem_map→aaW,mem_append→aaY,getElem?_append_right→abR,getElem?_append_left→abU,all_eq_true→ab9,length_cons→acn,mem_filter→acZ,getD_eq_getElem?_getD→adL,getElem?_eq_none_iff→adO,range'→afB,mem_range'→afJ,take_append_drop→afL,length_singleton→afN,mem_of_getElem?→afO,getElem?_range→afQ,map_eq_nil_iff→afX,getElem?_take→af5,range→agf,append_assoc→agA,getElem?_set→agC,ext_getElem?→agG,size_toArray→agH,filter_cons→agI,length_take→agM,range'_succ→agO,length_map→agV,append_nil→agW,mapM_cons→agZ
open Option.some renaming injEq→AT
open Go.Value renaming ownBlock→IN,slice→acs,cells→acW,okWide→adr,int→ahq
open Go.Result renaming andThen→OF
open List.cons renaming injEq→aav
open Prod.mk renaming injEq→aaJ
open Go.MapKept renaming run_getObj_map→aaK,run_setObj_map→aaP,heap_set→afF
open Go.Instr renaming sameBits→aaL,sameNow→aa0,findNow→acq,findKey→afC,sureAddr→ag0,loadAt→ahk
open Classical renaming choose_spec→aaS,choose→afG
open Array renaming toList_inj→aaU,getElem?_modify→aa1,getD_eq_getD_getElem?→abA,toArray_toList→abK,toList_map→abY,replicate→afK,length_toList→afR,ext_getElem?→af4
open Option renaming map_some→aaZ
open Go.Deferred renaming ofValue→abZ
open Go.Oper renaming wp_mono→adq,upon_value→afH,wp→ahg
open UInt8 renaming ofNat→afs
open Go.World renaming frozen?→afD,frozen?_alloc_old→afE
open Go.Code renaming region→afP,rounds→ahn
open Go.Sem renaming run_bind→agr
open Go.Utf8 renaming decode→agQ
open False renaming elim→agX
open Go.Op renaming equal→agY
open Go.Region renaming wanted→ahe
open Ne renaming symm→ahi
open Go.Exit renaming inBlock→ahj
open Go.Addr renaming add_mid→ahl
open Go.Value.pointer renaming injEq→aho
namespace Dn
open Go
section
variable {P:Program}{c:Ctx}{Z:b8} {e e':Env}{st:St}{a:Act} {w w':World}{R:Type}{K:St->Option R}{r:R}{Q:Exit->Act->World->Prop}{o:Oper}
theorem cF.Zk {root:Nat}{cs j9:List aT}{arr:Array Value}{T:TypeId}(h:cF c Z e st a w)(hf:aH st.fr root= .box cs)(fD:w.heap[e.B root]? =some (.cells arr T (0,0)))(hl:aM e arr.toList j9)(hp:kc j9=true)(hpr:root∉Z.dg)(Db:AE root=false): ∃φ',tI e.φ φ'/\(∀b off,¬Z b->φ' b off=e.φ b off)/\(∀j,j<arr.toList.length->φ' (e.B root) j=arr.toList[j]?)/\ cF c Z {e with φ:=φ'} {st with fr:=dz st.fr root (.AH j9)} a w:=by
 have qd:=h.slot root;rw [hf] at qd;have wk:=qd.2.free;have xJ:gY cs=false:=by obtain ⟨o,h1,h2⟩:=qd.2.obj;rw [fD] at h1;cases h1;exact h2.2.AU
 simp only [cW] at qd;refine ⟨λb off=>if b=e.B root/\off<arr.toList.length then arr.toList[off]? else e.φ b off,?_,?_,?_,?_⟩
 ·intro b off v hv;by_cases hb:b=e.B root
  ·subst hb;rw [wk] at hv;cases hv
  ·simp only [hb,false_and,if_false];exact hv
 ·intro b off hz;have hb: ¬b=e.B root:=by intro hb;subst hb;exact hz (R9 qd.2.dp hpr)
  simp [hb]
 ·intro j hj;have hj':j<arr.size:=by simpa using hj
  simp [hj']
 ·have hle:tI e.φ (λb off=>if b=e.B root/\off<arr.toList.length then arr.toList[off]? else e.φ b off):=by
   intro b off v hv;by_cases hb:b=e.B root
   ·subst hb;rw [wk] at hv;cases hv
   ·simp only [hb,false_and,if_false];exact hv
  have yR:oe (λ_=>True) (λ_=>True) e {e with φ:=λb off=>if b=e.B root/\off<arr.toList.length then arr.toList[off]? else e.φ b off}:=⟨rfl,hle,λ_ _=>rfl,λf o ho _=>⟨o,ho,rfl,rfl⟩⟩
  have hbk: ∀q,dD (aH st.fr q)=true->dD (aH (dz st.fr root (.AH j9)) q)=true:=by
   intro q hq;rw [cE];by_cases hqr:q=root
   ·simp [hqr,dD]
   ·simp only [hqr,if_false];exact hq
  refine ⟨h.defers,h.size,h.m,h.key,fZ h.nodup,?_,?_,?_,?_,?_,h.ff,?_,h.dp⟩
  ·intro t;show cW Z _ w t _ (aH (dz st.fr root (.AH j9)) t);rw [cE];by_cases ht:t=root
   ·subst ht;simp only [if_true,cW,ao];refine ⟨e.B t,0,arr.toList,by have:=qd.1.1 Db;rwa [xi xJ] at this,hl.on yR (λl _ f _=>trivial),hp,?_⟩;intro j hj;have hj':j<arr.size:=by simpa using hj
    rw [aaV];simp [hj']
   ·simp only [ht,if_false];have hs:=h.slot t;have C7:=h.bb t root;generalize aH st.fr t=s at hs C7;cases s<;>simp only [cW] at hs⊢ <;>try exact hs.on yR (fv _)
    rename_i iM;refine ⟨hs.1,hs.2.dp,?_,?_⟩
    ·obtain ⟨o2,h1,h2⟩:=hs.2.obj;exact ⟨o2,h1,h2.on yR (λl _ f _=>trivial)⟩
    ·intro off;have eu: ¬e.B t=e.B root:=C7 iM cs rfl hf ht;show (if e.B t=e.B root/\off<arr.toList.length then arr.toList[off]? else e.φ (e.B t) off)=none;simp only [eu,false_and,if_false];exact hs.2.free off
  ·intro t;show dq (dz st.fr root (.AH j9)) (aH (dz st.fr root (.AH j9)) t);rw [cE];by_cases ht:t=root
   ·simp [ht,dq]
   ·simp only [ht,if_false];have sB:=h.root t;generalize aH st.fr t=s at sB;cases s with
    |ptr q o=>exact hbk q sB
    |hp q o i=>exact hbk q sB
    |AJ q=>exact hbk q sB
    |_=>trivial
  ·intro f o ho;obtain ⟨I,cells,h1,h2,h3,h4,h5⟩:=(h.jr f o ho).row;refine ⟨I,cells,h1,h2,h3,h4.mono hle,λbO hb=>⟨(h5 bO hb).1,λoff u hu=>(h5 bO hb).2.1 off u ?_,λg1 g2 j hj=>hle.EI ((h5 bO hb).2.2 g1 g2 j hj) hj⟩⟩;have eu: ¬bO=e.B root:=by intro VT;exact h.bf root cs f o hf ho (by rw [hb,VT])
   have hu:(if bO=e.B root/\off<arr.toList.length then arr.toList[off]? else e.φ bO off)=some u:=hu;simpa [eu] using hu
  ·intro t t' c1 c2 h1 h2 eu;have h1:aH (dz st.fr root (.AH j9)) t= .box c1:=h1;have h2:aH (dz st.fr root (.AH j9)) t'= .box c2:=h2;rw [cE] at h1 h2;by_cases ht:t=root
   ·simp [ht] at h1
   ·by_cases EM:t'=root
    ·simp [EM] at h2
    ·simp only [ht,EM,if_false] at h1 h2;exact h.bb t t' c1 c2 h1 h2 eu
  ·intro t c1 f o h1 h2;have h1:aH (dz st.fr root (.AH j9)) t= .box c1:=h1;rw [cE] at h1;by_cases ht:t=root
   ·simp [ht] at h1
   ·simp only [ht,if_false] at h1;exact h.bf t c1 f o h1 h2
  ·intro b off v hv;have hv:(if b=e.B root/\off<arr.toList.length then arr.toList[off]? else e.φ b off)=some v:=hv;by_cases hb:b=e.B root/\off<arr.toList.length
   ·simp only [hb,and_self,if_true] at hv;rw [hb.1,cell_of fD];simpa using hv
   ·simp only [hb,if_false] at hv;exact h.q9 b off v hv
end
end Dn
/-
  Functions with captured variables. Conditions: none.
-/
namespace Dn
open Go
section
variable {P:Program}{c:Ctx}{Z:b8} {e e':Env}{st:St}{a:Act} {w w':World}{R:Type}{K:St->Option R}{r:R}{Q:Exit->Act->World->Prop}{o:Oper}
theorem Kk {os:List Operand}: ∀{e:Env} {st:St} {K':List MV->St->Option R},cF c Z e st a w->JO c st os K'=some r-> ∃e' cB ms,cF c Z e' cB a w/\Ext Z e e'/\jt e'.key e'.φ (os.map a.eval) ms/\K' ms cB=some r/\(∀m∈ms,m.one=true):=by
 induction os with
 |nil=>intro e st K' h hK;exact ⟨e,st,[],h,.refl _ _,.nil,hK,by simp⟩
 |cons x xs ih=>
  intro e st K' h hK;simp only [JO] at hK;obtain ⟨hx,_⟩:=h.eval x;generalize aX c st x=s at hx hK;split at hK
  ·rename_i root;simp only [ao] at hx;split at hK
   ·rename_i cs AS;cases hup:xM cs||AE root with
    |true=>simp [hup] at hK
    |false=>
     simp only [hup,cond_false] at hK;obtain ⟨hu,auC⟩:=IT.1 hup;have nt:=h.slot root;rw [AS] at nt;have xJ:gY cs=false:=by
      cases hm:gY cs with
      |false=>rfl
      |true=>obtain ⟨s,ms,rfl⟩:=Qp hm;simp [xM,Sl] at hu
     obtain ⟨arr,T,fD,tM⟩:=nt.2.cells xJ;obtain ⟨e1,dC,ms,AF,Ka,G6,AW,hK,_,Db⟩:=oh h tM hK;cases Ow:ta cs ms with
     |none=>simp [Ow] at hK
     |some j9=>
      simp only [Ow] at hK;obtain ⟨G4,IU⟩:=Db j9 Ow;have hB:e1.B root=e.B root:=Ka.on.B root trivial;unfold wr at hK;cases hn:bU dC.dg root with
      |true=>simp [hn] at hK
      |false=>
       obtain ⟨φ',g1,g2,g3,g4⟩:=AF.Zk (root:=root) (cs:=cs) (by rw [G6];exact AS) (by rw [hB];exact fD) G4 IU (by rw [<-AF.defers.2.1,<-ck,hn];simp) auC;simp only [hn,cond_false,force_eq,oO] at hK;have Ox:Ext Z e1 {e1 with φ:=φ'}:=⟨⟨rfl,g1,λ_ _=>rfl,λf o ho _=>⟨o,ho,rfl,rfl⟩⟩,g2⟩
       obtain ⟨e3,ra,ns,hs3,hx3,hr3,hK,o4⟩:=ih g4 hK;refine ⟨e3,ra,.rp ms::ns,hs3,(Ka.trans Ox).trans hx3,?_,hK,by intro m hm;rcases AI.1 hm with rfl|hm<;>first|rfl|exact o4 m hm⟩;have iw:nr e1.key φ' [a.eval x] (.rp ms):=by rw [hx,<-hB];refine .rp (e1.B root) 0 arr.toList ms (AW.mono g1) ?_;intro j hj;rw [aaV];exact g3 j hj
       have iw:=iw.mono hx3.on.φ;have hk3:e3.key=e1.key:=hx3.on.key;rw [<-hk3] at iw;exact .cons [a.eval x] _ _ _ iw hr3
   ·simp at hK
  ·rename_i cs;simp only [ao] at hx;obtain ⟨bO,q,vs,hv,tM,hp,G5⟩:=hx;obtain ⟨e1,dC,ms,AF,Ka,G6,AW,yS,h6,_⟩:=oh h tM hK;clear hK;obtain ⟨rfl,rfl⟩:=h6 hp;obtain ⟨e3,ra,ns,hs3,hx3,hr3,SL,o4⟩:=ih AF yS;refine ⟨e3,ra,.rp ms::ns,hs3,Ka.trans hx3,?_,SL,by intro m hm;rcases AI.1 hm with rfl|hm<;>first|rfl|exact o4 m hm⟩;have iw:nr e1.key e1.φ [a.eval x] (.rp ms):=by rw [hv];exact .rp bO (q+0) vs ms AW (by simpa using G5)
   have iw:=iw.mono hx3.on.φ;rw [<-hx3.on.key] at iw;exact .cons [a.eval x] _ _ _ iw hr3
  ·simp at hK
theorem SM {f:Nat}{dI:Array Operand}(ho:o.op= .makeFunc (.func f) #[] dI)(h:cF c Z e st a w)(hK:JO c st dI.toList (λms st=>bM c st o.dst (.sc (.p (.func (c.key f) ms))) K)=some r):Rd P c Z K r e a w o (λ_=>True):=by
 obtain ⟨e1,dC,ms,AF,Ka,AW,hK,o4⟩:=Kk h hK;refine VH (v:= .func (.func f) #[] (dI.map a.eval)) (s:= .sc (.p (.func (c.key f) ms))) (λw _=> ?_) AF Ka.tr (.of ?_ trivial) hK
 ·simp [execOp,ho,Instr.makeFunc]
 ·simp only [ao,bo];exact ⟨rfl,.func f _ _ ms (by rw [AF.key]) (by simpa using AW) o4⟩
end
end Dn
/-
  Contracts of functions; calls. Conditions: none.
-/
namespace Dn
open Go
def EV (φ:Ph)(w:World):Prop:= ∀b o v,φ b o=some v->w.cell? ⟨b,o,none⟩=some v
def vN (key:Nat->Nat) (φ:Ph):Env:=⟨key,φ,λ_=>undef,λ_=>0,[]⟩
def lc (P:Program)(f:FuncId)(args:Array Value)(w:World)(R:Value->World->Prop):Prop:=match (callFunc f args).run P w with
 | .ok (.enter g as) w'=>Calls P g as w' λx BT=> ∃v,x= .returned v/\R v BT
 | .ok (.value v) w'=>R v w'
 |_=>False
def ab0 (ks:List LK)(ls:List MV):Option (List aT×List (Nat×pY)):=dK ⟨[],[],[],[]⟩ ks ls λcs rest st=>gN rest (some (cs,st.bA))
def rv (c:Ctx)(Z:Nat->Prop) (φ:Ph)(w:World)(bO:Nat)(ks:List LK)(ls:List MV):Prop:=∃cs m,∃E:Nat->Value,∃arr T,ab0 ks ls=some (cs,m)/\w.heap[bO]? =some (.cells arr T (0,0))/\Z bO/\(∀o,φ bO o=none)/\aM ⟨c.key,φ,E,λ_=>bO,m⟩ arr.toList cs/\ (∀f o,bj m f=some o->eD c (b8.plain Z) ⟨c.key,φ,E,λ_=>bO,m⟩ w (E f) o/\(E f).ownBlock≠some bO)/\ (∀f f' o o' k,bj m f=some o->bj m f'=some o'->(E f).ownBlock=some k->(E f').ownBlock=some k->f=f')
def ais (c:Ctx)(Z:Nat->Prop) (φ:Ph)(w:World)(k:Nat)(vs:List Value)(ms:List MV):Prop:=∃pos ks off ls bO,c.sig k=some (pos,ks)/\vs[pos]? =some (.pointer (some ⟨bO,off,none⟩))/\ms[pos]? =some (.cell (.func off ls))/\dw c.key φ vs (ms.set pos (.rp []))/\rv c Z φ w bO ks ls
def jh (c:Ctx)(Z:Nat->Prop) (φ:Ph)(w:World)(k:Nat)(vs:List Value)(ms:List MV):Prop:=if c.iL k then (∃v0 v1 v2 xs m1 ys,vs=[v0,v1,v2]/\ms=[.fresh xs,m1,.fresh ys]/\eD c (b8.plain Z) (vN c.key φ) w v0 ⟨c.tq k,false,xs⟩/\jQ c.key φ v1 m1/\ eD c (b8.plain Z) (vN c.key φ) w v2 ⟨c.tq k,false,ys⟩/\ ∀b,v0.ownBlock=some b->v2.ownBlock≠some b)\/ (∃v0 v1 v2 xs m1 m2,vs=[v0,v1,v2]/\ms=[.fresh xs,m1,m2]/\m2.one=true/\eD c (b8.plain Z) (vN c.key φ) w v0 ⟨c.tq k,false,xs⟩/\jQ c.key φ v1 m1/\jQ c.key φ v2 m2)\/ ais c Z φ w k vs ms
 else dw c.key φ vs ms
def kp (c:Ctx)(Z:Nat->Prop) (φ:Ph)(w:World)(k:Nat)(v:Value):MV->Prop
 | .fresh xs=>eD c (b8.plain Z) (vN c.key φ) w v ⟨c.tq k,false,xs⟩
 | .cM ms=> ∃arr,v= .tuple arr/\dw c.key φ arr.toList ms
 |m=>jQ c.key φ v m
def wm (c:Ctx)(Z:Nat->Prop) (φ:Ph)(w:World)(k:Nat)(vs:List Value)(v:Value):MV->Prop
 | .gm r outs=>kp c Z φ w k v r/\ ∃pos ks bO off,c.sig k=some (pos,ks)/\vs[pos]? =some (.pointer (some ⟨bO,off,none⟩))/\rv c Z φ w bO ks outs
 |r=>kp c Z φ w k v r
def mL (P:Program)(c:Ctx)(f:Nat)(ms:List MV)(r:MV):Prop:=∀(φ:Ph) (w:World) (Z:Nat->Prop) (vs:List Value),(∀b,w.heap.size<=b->Z b)->jh c Z φ w (c.key f) vs ms->EV φ w-> lc P f vs.toArray w λv w'=> ∃φ',Trans Z φ w φ' w'/\EV φ' w'/\wm c Z φ' w' (c.key f) vs v r
def Sound (P:Program)(c:Ctx):Prop:= ∀f ms r,c.g (c.key f) ms=some r->mL P c f ms r
section
variable {P:Program}{c:Ctx}{Z:b8} {Z':Nat->Prop} {e e':Env}{st:St}{a:Act} {w w':World}{R:Type}{K:St->Option R}{r:R}{Q:Exit->Act->World->Prop}{o:Oper}
theorem wm.plain {c:Ctx}{Z:Nat->Prop} {φ:Ph}{w:World}{k:Nat}{vs:List Value}{v:Value}{r:MV}(h:kp c Z φ w k v r):wm c Z φ w k vs v r:=by cases r<;>first|exact h|exact absurd h.1 (by simp [MV.one])
def isW:MV->Bool
 | .gm _ _=>true
 |_=>false
theorem wm.of {c:Ctx}{Z:Nat->Prop} {φ:Ph}{w:World}{k:Nat}{vs:List Value}{v:Value}{r:MV}(h:wm c Z φ w k vs v r)(hr:isW r=false):kp c Z φ w k v r:=by cases r<;>first|exact h|cases hr
theorem cF.called {φ':Ph}(h:cF c Z e st a w)(hz: ∀b,Z' b->Z.In b)(tJ: ∀t cs,aH st.fr t= .box cs-> ¬Z' (e.B t))(mK: ∀f o k,bj st.bA f=some o->(e.E f).ownBlock=some k-> ¬Z' k)(ht:Trans Z' e.φ w φ' w')(hi:EV φ' w'):cF c Z {e with φ:=φ'} st a w':=by
 have yR:oe (λ_=>True) (λ_=>True) e {e with φ:=φ'}:=⟨rfl,ht.ph,λ_ _=>rfl,λf o ho _=>⟨o,ho,rfl,rfl⟩⟩
 refine ⟨h.defers,h.size,h.m,h.key,h.nodup,?_,h.root,?_,h.bb,h.bf,h.ff,hi,λb hb=>h.dp b (adp ht.size hb)⟩
 ·intro t;have hs:=h.slot t;have hb:=tJ t;generalize aH st.fr t=s at hs hb;cases s<;>simp only [cW] at hs⊢ <;>try exact hs.on yR (fv _)
  rename_i cs;refine ⟨hs.1,hs.2.dp,?_,?_⟩
  ·obtain ⟨o2,h1,h2⟩:=hs.2.obj;exact ⟨o2,by rw [ht.heap _ (hb cs rfl) (bR h1)];exact h1,h2.on yR (λl _ f _=>trivial)⟩
  ·intro off;show φ' (e.B t) off=none;rw [ht.free _ off (hb cs rfl)];exact hs.2.free off
 ·intro f o ho;obtain ⟨I,cells,h1,h2,h3,h4,h5⟩:=(h.jr f o ho).row;refine ⟨I,cells,h1,h2,?_,h4.mono ht.ph,?_⟩
  ·show w'.ownsRow 0 o.ty I.size (e.E f) o.xs.length cells;refine ⟨h3.1,?_⟩;rcases h3.2 with h6|⟨g,cap,gV,g1,g2,g3,g4⟩
   ·exact .inl h6
   ·refine .inr ⟨g,cap,gV,g1,g2,?_,g4⟩;rw [ht.heap g (mK f o g ho (by rw [g1];rfl)) (bR g3)];exact g3
  ·intro bO hb;refine ⟨(h5 bO hb).1,λoff u hu=>(h5 bO hb).2.1 off u ?_,λg1 g2 j hj=>ht.ph.EI ((h5 bO hb).2.2 g1 g2 j hj) hj⟩;have hu:φ' bO off=some u:=hu;rw [ht.free _ off (mK f o bO ho hb)] at hu;exact hu
theorem cF.ab1 {f:Nat}{fo:pY} {v':Value}(h:cF c Z e st a w)(DP:f∉Z.dt)(mK:eD c Z.nc e w v' fo)(hb: ∀b,v'.ownBlock=some b->(∀t cs,aH st.fr t= .box cs->e.B t≠b)/\(∀g o,bj st.bA g=some o->(e.E g).ownBlock≠some b)): cF c Z (e.AX f v' fo) (st.AX f fo) a w:=by
 have yR:oe (· ≠f) (λ_=>True) e (e.AX f v' fo):=by refine ⟨rfl,.refl _,λ_ _=>rfl,λf2 o2 dr eu=> ?_⟩;have dr:bj (cN e.m f fo) f2=some o2:=dr;rw [bN] at dr;simp only [eu,if_false] at dr;exact ⟨o2,dr,by simp [Env.AX,eu],rfl⟩
 refine ⟨h.defers,h.size,by show cN e.m f _=cN st.bA f _;rw [h.m],h.key,?_,?_,?_,?_,?_,?_,?_,h.q9,h.dp⟩
 ·show (bk (my f st.fr)).Nodup;have:bk (my f st.fr)=bk st.fr:=by simp [bk,my]
  rw [this];exact h.nodup
 ·intro t;show cW Z _ _ t _ (aH (my f st.fr) t);rw [iS];have hs:=h.slot t;generalize aH st.fr t=s at hs;by_cases Kg: ∃cs,s= .box cs
  ·obtain ⟨cs,rfl⟩:=Kg;simp only [cW,C6] at hs⊢;refine ⟨hs.1.mG (VG f _),hs.2.dp,?_,hs.2.free⟩;obtain ⟨o2,h1,h2⟩:=hs.2.obj;refine ⟨o2,h1,?_⟩;refine (h2.map (λ_ _=>bo.kill f) (λ_ _=>rfl)).on yR ?_;intro l hl;obtain ⟨x,_,rfl⟩:=aaW.1 hl;exact JZ f x
  ·have Dd:ao e (a.tmps.getD t undef) s:=by cases s<;>simp only [cW] at hs<;>first|exact hs|exact absurd ⟨_,rfl⟩ Kg
   have h2:=(Dd.kill f).on yR (abu f _ s (fv s));generalize Vm:C6 f s=s2 at h2;cases s2<;>first|exact h2|(exfalso;simp [ao] at h2)
 ·intro t;show dq (my f st.fr) (aH (my f st.fr) t);rw [iS];have sB:=h.root t;generalize aH st.fr t=s at sB;have hk: ∀q,dD (aH (my f st.fr) q)=dD (aH st.fr q):=λq=>by rw [iS,G7]
  cases s with
  |ptr q o=>show dD (aH (my f st.fr) q)=true;rw [hk];exact sB
  |hp q o i=>show dD (aH (my f st.fr) q)=true;rw [hk];exact sB
  |AJ q=>show dD (aH (my f st.fr) q)=true;rw [hk];exact sB
  |ep g' _ _ _ _=>simp only [C6];cases BY g' f<;>trivial
  |_=>trivial
 ·intro f2 o2 dr;have dr:bj (cN st.bA f fo) f2=some o2:=dr;rw [bN] at dr;show eD c (Z.fz f2) _ w (if f2=f then v' else e.E f2) o2;by_cases gy:f2=f
  ·rw [if_pos gy];rw [if_pos gy] at dr;cases dr;rw [gy];exact (mK.to DP).env rfl rfl
  ·rw [if_neg gy];simp only [gy,if_false] at dr;exact (h.jr f2 o2 dr).env rfl rfl
 ·intro t t' c1 c2 h1 h2 eu;have h1:aH (my f st.fr) t= .box c1:=h1;have h2:aH (my f st.fr) t'= .box c2:=h2;rw [iS] at h1 h2;obtain ⟨d1,g1,_⟩:=wi h1;obtain ⟨d2,g2,_⟩:=wi h2;exact h.bb t t' d1 d2 g1 g2 eu
 ·intro t c1 f2 o2 h1 h2;have h1:aH (my f st.fr) t= .box c1:=h1;have h2:bj (cN st.bA f fo) f2=some o2:=h2;rw [iS] at h1;rw [bN] at h2;obtain ⟨d1,g1,_⟩:=wi h1;show (if f2=f then v' else e.E f2).ownBlock≠some (e.B t);by_cases gy:f2=f
  ·rw [if_pos gy];intro hh;exact (hb _ hh).1 t d1 g1 rfl
  ·rw [if_neg gy];simp only [gy,if_false] at h2;exact h.bf t d1 f2 o2 g1 h2
 ·intro f1 f2 o1 o2 k h1 h2 h3 h4;have h1:bj (cN st.bA f fo) f1=some o1:=h1;have h2:bj (cN st.bA f fo) f2=some o2:=h2;have h3:(if f1=f then v' else e.E f1).ownBlock=some k:=h3;have h4:(if f2=f then v' else e.E f2).ownBlock=some k:=h4;rw [bN] at h1 h2;by_cases Qx:f1=f
  ·by_cases EE:f2=f
   ·rw [Qx,EE]
   ·rw [if_pos Qx] at h3;rw [if_neg EE] at h4;simp only [EE,if_false] at h2;exact absurd h4 ((hb k h3).2 f2 o2 h2)
  ·rw [if_neg Qx] at h3;simp only [Qx,if_false] at h1;by_cases EE:f2=f
   ·rw [if_pos EE] at h4;exact absurd h3 ((hb k h4).2 f1 o1 h1)
   ·rw [if_neg EE] at h4;simp only [EE,if_false] at h2;exact h.ff f1 f2 o1 o2 k h1 h2 h3 h4
theorem DS {I:TI}{x:MV}{v:Value} {K':Slot->Option R}(hv:jQ e.key e.φ v x)(hK:HS I x K'=some r): ∃s,ao e v s/\C5 s=true/\K' s=some r:=by
 unfold HS at hK;cases jf:I.st with
 |true=>
  simp only [jf,cond_true] at hK;unfold gA at hK;split at hK
  ·rename_i ms;obtain ⟨arr,rfl,hr⟩:=hv;obtain ⟨ls,SE,ol⟩:=za (e:=e) (vs:=arr.toList) hK;exact ⟨.ag ls,⟨arr,rfl,SE.rep hr⟩,SE.pur,ol⟩
  ·simp at hK
 |false=>
  simp only [jf,cond_false] at hK;split at hK
  ·rename_i k hl;obtain ⟨l,DM,ol⟩:=o6 (e:=e) (vs:=[v]) hK;refine ⟨.sc l,?_,DM.pur,ol⟩;have hp:=DM.pur;have hm:=DM.mv;cases l<;>simp [wc] at hp<;>simp [cj] at hm
   ·subst hm;have h1:=DM.one _ rfl;rename_i m;have:m.one=true/\nr e.key e.φ [v] m:=by cases m<;>simp [MV.one] at h1<;>exact ⟨rfl,hv.2⟩
    exact this
   ·subst hm;exact hv
  ·simp at hK
theorem SN {ts:List Nat}: ∀{vs:List Value} {ms:List MV} {K':List Slot->Option R},dw e.key e.φ vs ms->JM c ts ms K'=some r-> ∃ss,lv e vs ss/\K' ss=some r:=by
 induction ts with
 |nil=>
  intro vs ms K' h hK;cases ms with
  |nil=>cases h;exact ⟨[],rfl,hK⟩
  |cons m ms=>simp [JM,gN] at hK
 |cons t ts ih=>
  intro vs ms K' h hK;simp only [JM] at hK;cases hI:c.tv t with
  |none=>simp [hI] at hK
  |some I=>
   simp only [hI] at hK;cases ms with
   |nil=>simp [gC] at hK
   |cons m ms=>simp only [gC] at hK;obtain ⟨v,u,rfl,h1,h2⟩:=h;obtain ⟨s,g1,g2,hK⟩:=DS h1 hK;obtain ⟨ss,g3,hK⟩:=ih h2 hK;exact ⟨s::ss,⟨v,u,rfl,g1,g2,g3⟩,hK⟩
theorem VU {fr:Fr}{s:Slot}(h:C5 s=true):dq fr s:=by cases s<;>simp [C5] at h<;>trivial
theorem ze {I:TI}{x:MV}{v:Value}{k:Nat} {K':Slot->Option R}(hk:e.key=c.key)(hv:kp c Z' e.φ w k v x)(hK:tH c I x K'=some r): ∃s,ao e v s/\dq st.fr s/\K' s=some r:=by
 unfold tH at hK;split at hK
 ·rename_i hc;have hv':jQ e.key e.φ v x:=by
   rw [hk];cases x<;>first|exact hv|skip
   ·exfalso;unfold HS gA at hK;cases jf:I.st<;>simp [jf] at hK;split at hK<;>(try (simp at hK;done));unfold lq at hK;rename_i k _;cases k<;>simp [gB,gI,gS,gL,gH,gR] at hK
   ·exfalso;unfold HS gA at hK;cases jf:I.st<;>simp [jf] at hK;split at hK<;>(try (simp at hK;done));unfold lq at hK;rename_i k _;cases k<;>simp [gB,gI,gS,gL,gH,gR] at hK
  obtain ⟨s,h1,h2,hK⟩:=DS hv' hK;exact ⟨s,h1,VU h2,hK⟩
 ·unfold gT at hK;split at hK
  ·obtain ⟨arr,rfl,h1⟩:=hv;obtain ⟨ss,h2,hK⟩:=SN (by rw [hk];exact h1) hK;exact ⟨.cM ss,⟨arr,rfl,h2⟩,trivial,hK⟩
  ·simp at hK
end
end Dn
/-
  Calls as operations. Conditions: none.
-/
namespace Dn
open Go
section
variable {P:Program}{c:Ctx}{Z:b8} {Z':Nat->Prop} {e e':Env}{st:St}{a:Act} {w w':World}{R:Type}{K:St->Option R}{r:R}{Q:Exit->Act->World->Prop}{o:Oper}
theorem G8 (h:cF c Z e st a w){t:Nat}{cs:List aT}(ht:aH st.fr t= .box cs):e.B t<w.heap.size:=by have hs:=h.slot t;rw [ht] at hs;obtain ⟨o2,h1,_⟩:=hs.2.obj;exact bR h1
theorem ajM {base:Nat}{ty:TypeId}{size n:Nat}{v:Value}{xs:List Value}(h:w.ownsRow base ty size v n xs){b:Nat}(hb:v.ownBlock=some b):b<w.heap.size:=by
 rcases h.2 with ⟨h1,_⟩|⟨g,cap,gV,h1,_,h2,_⟩
 ·rw [h1] at hb;simp [IN] at hb
 ·rw [h1] at hb;simp only [IN,AT] at hb;subst hb;exact bR h2
theorem G9 (h:cF c Z e st a w){f:Nat}{o:pY}(hf:bj st.bA f=some o){b:Nat}(hb:(e.E f).ownBlock=some b):b<w.heap.size:=by obtain ⟨I,cells,_,_,h3,_⟩:=(h.jr f o hf).row;exact ajM h3 hb
structure Handed (c:Ctx) (Z:b8) (Z':Nat->Prop) (e:Env) (st:St) (a:Act) (w:World) (k:Nat) (vs:List Value) (ms:List MV):Prop where
 wo:cF c Z e st a w
 new: ∀b,w.heap.size<=b->Z' b
 sub: ∀b,Z' b->Z.In b
 box: ∀t cs,aH st.fr t= .box cs-> ¬Z' (e.B t)
 jr: ∀f o b,bj st.bA f=some o->(e.E f).ownBlock=some b-> ¬Z' b
 args:jh c Z' e.φ w k vs ms
 grow:c.iL k=false-> ∀b,Z' b->w.heap.size<=b
structure auE (c:Ctx) (Z:b8) (e e':Env) (st cB:St) (a:Act) (w:World) (k:Nat) (v:Value) (xs:List MV):Prop where
 wo:cF c Z e' cB a w
 φ:e'.φ=e.φ
 row:eD c (b8.plain λb=>v.ownBlock=some b) (vN c.key e.φ) w v ⟨c.tq k,false,xs⟩
 In: ∀b,v.ownBlock=some b->Z.In b
 box: ∀t cs,aH cB.fr t= .box cs->v.ownBlock≠some (e'.B t)
 jr: ∀f o b,bj cB.bA f=some o->(e'.E f).ownBlock=some b->v.ownBlock≠some b
 keep: ∀(u:Value) (s:Slot) (g:Nat),s= .sc (.own g)->ao e u s->(∃o,bj cB.bA g=some o/\o.fB=false)->ao e' u s
 boxes: ∀t cs,aH cB.fr t= .box cs-> ∃IV,aH st.fr t= .box IV/\e'.B t=e.B t
 bA: ∀f o b,bj cB.bA f=some o->(e'.E f).ownBlock=some b-> ∃o0,bj st.bA f=some o0/\(e.E f).ownBlock=some b
theorem DT {k:Nat}{s:Slot}{v:Value} {K':MV->St->Option R}(h:cF c Z e st a w)(hs:ao e v s)(hK:JP c k st s K'=some r): ∃e' cB xs,auE c Z e e' st cB a w k v xs/\K' (.fresh xs) cB=some r:=by
 unfold JP at hK;split at hK
 ·rename_i f;cases hf:bj st.bA f with
  |none=>simp [hf] at hK
  |some o=>
   simp only [hf] at hK;cases hz:o.fB||!BY o.ty (c.tq k) with
   |true=>simp [hz] at hK
   |false=>
    simp only [hz,cond_false] at hK;simp only [IT,aaX] at hz;have kK:=fj hz.2;have hv:v=e.E f:=(tO h hs hf).1;have mK:=h.jr f o hf;have abV:eD c Z.nc e w (.slice none 0 0) ⟨o.ty,true,[]⟩:=by obtain ⟨I,cells,g1,g2,_⟩:=mK.row;exact ⟨I,[],g1,g2,⟨by simp,.inl ⟨rfl,rfl⟩⟩,rfl,λbO hb=>by simp [IN] at hb⟩
    have DP:=h.npf hK;have h5:=h.ab1 (f:=f) DP abV (λb hb=>by simp [IN] at hb);refine ⟨_,_,o.xs,⟨h5,rfl,?_,?_,?_,?_,?_,?_,?_⟩,ui hK⟩
    ·obtain ⟨I,cells,g1,g2,g3,g4,g5⟩:=mK.row;rw [<-kK];refine ⟨I,cells,g1,g2,by rw [hv];exact g3,by show bQ c.key e.φ _ _ _;rw [<-h.key];exact g4,λbO hb=>⟨hb,λoff u hu=> ?_,λhc=>agX hc⟩⟩;have:=((g5 bO (by rw [<-hv];exact hb)).2.1 off u hu).1;rw [hz.1] at this;cases this
    ·intro b hb;obtain ⟨I,cells,_,_,_,_,g5⟩:=mK.row;exact R9 (g5 b (by rw [<-hv];exact hb)).1 DP
    ·intro t cs ht hb;have ht:aH (my f st.fr) t= .box cs:=ht;rw [iS] at ht;obtain ⟨d1,g1,_⟩:=wi ht;exact h.bf t d1 f o g1 hf (by rw [<-hv];exact hb)
    ·intro f2 o2 b dr hb hvb;have dr:bj (cN st.bA f ⟨o.ty,true,[]⟩) f2=some o2:=dr;have hb:(if f2=f then acs none 0 0 else e.E f2).ownBlock=some b:=hb;rw [bN] at dr;by_cases gy:f2=f
     ·rw [if_pos gy] at hb;simp [IN] at hb
     ·rw [if_neg gy] at hb dr;exact gy (h.ff f2 f o2 o b dr hf hb (by rw [<-hv];exact hvb))
    ·rintro u s g rfl nt ⟨o2,dr,hz2⟩;have dr:bj (cN st.bA f ⟨o.ty,true,[]⟩) g=some o2:=dr;rw [bN] at dr;by_cases Kl:g=f
     ·rw [if_pos Kl] at dr;cases dr;cases hz2
     ·rw [if_neg Kl] at dr;obtain ⟨x,hx,Ka,Ox⟩:=nt;refine ⟨x,hx,Ka,λo3 VL=> ?_⟩;show x=if g=f then acs none 0 0 else e.E g
      rw [if_neg Kl];exact Ox o2 (by rw [h.m];exact dr)
    ·intro t cs ht;have ht:aH (my f st.fr) t= .box cs:=ht;rw [iS] at ht;obtain ⟨d1,g1,_⟩:=wi ht;exact ⟨d1,g1,rfl⟩
    ·intro f2 o2 b dr hb;have dr:bj (cN st.bA f ⟨o.ty,true,[]⟩) f2=some o2:=dr;have hb:(if f2=f then acs none 0 0 else e.E f2).ownBlock=some b:=hb;rw [bN] at dr;by_cases gy:f2=f
     ·rw [if_pos gy] at hb;simp [IN] at hb
     ·rw [if_neg gy] at hb dr;exact ⟨o2,dr,hb⟩
 ·cases hI:c.tv (c.tq k) with
  |none=>simp [hI] at hK
  |some I=>simp only [hI] at hK;obtain ⟨VJ,Vg⟩:=cz hI;simp only [ao,bo,aav,and_true] at hs;subst hs;refine ⟨e,st,[],⟨h,rfl,⟨I,[],VJ,Vg,⟨by simp,.inl ⟨rfl,rfl⟩⟩,rfl,λbO hb=>by simp [IN] at hb⟩,λb hb=>by simp [IN] at hb,λt cs _ hb=>by simp [IN] at hb,λf o b _ _ hb=>by simp [IN] at hb,λu s g _ hs _=>hs,λt cs ht=>⟨cs,ht,rfl⟩,λf o b ho hb=>⟨o,ho,hb⟩⟩,hK⟩
 ·simp at hK
theorem H0 {k:Nat}{s:Slot} {K':MV->St->Option R}(hK:JP c k st s K'=some r):(∃g o,s= .sc (.own g)/\bj st.bA g=some o/\o.fB=false)\/s= .sc .nil:=by
 unfold JP at hK;split at hK
 ·rename_i f;cases hf:bj st.bA f with
  |none=>simp [hf] at hK
  |some o=>
   simp only [hf] at hK;cases hz:o.fB with
   |true=>simp [hz] at hK
   |false=>exact .inl ⟨f,o,rfl,hf,hz⟩
 ·exact .inr rfl
 ·simp at hK
theorem VV {k:Nat}{ss:List Slot}{vs:List Value} {K':List MV->St->Option R}(h:cF c Z e st a w)(hlen:vs.length=ss.length)(iw: ∀(i:Nat)(v:Value)(s:Slot),vs[i]? =some v->ss[i]? =some s->ao e v s)(hK:Xv c k st ss K'=some r): ∃e' cB ms,∃Z':Nat->Prop,Handed c Z Z' e' cB a w k vs ms/\Trans Z e.φ w e'.φ w/\K' ms cB=some r:=by
 unfold Xv at hK;cases hg:c.iL k with
 |false=>
  simp only [hg,cond_false] at hK;obtain ⟨e1,dC,ms,h1,h2,h3,h4,hK⟩:=tN h ⟨λ_=>vs,rfl,hlen,iw⟩ hK;refine ⟨e1,dC,ms,λb=>w.heap.size<=b,⟨h1,λb hb=>hb,h1.dp,?_,?_,?_,λ_ b hb=>hb⟩,h2.tr,hK⟩
  ·intro t cs ht hz;have:=G8 h1 ht;omega
  ·intro f o b ho hb hz;have:=G9 h1 ho hb;omega
  ·simp only [jh,hg,aaM,if_false];rw [<-h1.key];exact h4
 |true=>
  simp only [hg,cond_true] at hK;split at hK
  ·rename_i s0 s1 s2;match vs,hlen with
   |[v0,v1,v2],anU=>
    clear anU hlen;split at hK
    ·rename_i m2;obtain ⟨e1,dC,m1,h1,x1,G6,r1,ol⟩:=pn h (iw 1 v1 s1 rfl rfl) hK;obtain ⟨e2,eM,xs,G1,yS⟩:=DT h1 ((iw 0 v0 s0 rfl rfl).on x1.on (fv s0)) ol;have XF:m2.one=true/\nr e.key e.φ [v2] m2:=iw 2 v2 (.sc (.p m2)) rfl rfl;have ha2:jQ e.key e.φ v2 m2:=by obtain ⟨g1,g2⟩:=XF;cases m2<;>simp [MV.one] at g1<;>exact ⟨rfl,g2⟩
     have auF:jQ c.key e1.φ v2 m2:=by rw [<-h.key];exact ha2.mono x1.on.φ
     have wide: ∀{v:Value} {zs:List MV} (Z1:Nat->Prop),(∀b,v.ownBlock=some b->Z1 b)->eD c (b8.plain λb=>v.ownBlock=some b) (vN c.key e1.φ) w v ⟨c.tq k,false,zs⟩->eD c (b8.plain Z1) (vN c.key e1.φ) w v ⟨c.tq k,false,zs⟩:=by intro v zs Z1 hz hf;obtain ⟨I,cells,g1,g2,g3,g4,g5⟩:=hf.row;exact ⟨I,cells,g1,g2,g3,g4,λbO hb=>⟨hz bO hb,(g5 bO hb).2⟩⟩
     refine ⟨e2,eM,[.fresh xs,m1,m2],λb=>w.heap.size<=b\/v0.ownBlock=some b,⟨G1.wo,λb hb=> .inl hb,?_,?_,?_,?_,λKl=>by rw [hg] at Kl;cases Kl⟩,by rw [G1.φ];exact x1.tr,yS⟩
     ·intro b hb;rcases hb with hb|hb
      ·exact h1.dp b hb
      ·exact G1.In b hb
     ·intro t cs ht hb;rcases hb with hb|hb
      ·have:=G8 G1.wo ht;have hb:w.heap.size<=e2.B t:=hb;omega
      ·exact G1.box t cs ht hb
     ·intro f o b ho hb hz;rcases hz with hz|hz
      ·have:=G9 G1.wo ho hb;omega
      ·exact G1.jr f o b ho hb hz
     ·simp only [jh,hg,if_true];rw [G1.φ];exact .inr (.inl ⟨v0,v1,v2,xs,m1,m2,rfl,rfl,XF.1,wide _ (λb hb=> .inr hb) G1.row,by rw [<-h1.key];exact r1,auF⟩)
    ·obtain ⟨e1,dC,m1,h1,x1,G6,r1,ol⟩:=pn h (iw 1 v1 s1 rfl rfl) hK;obtain ⟨e2,eM,xs,G1,yS⟩:=DT h1 ((iw 0 v0 s0 rfl rfl).on x1.on (fv s0)) ol;have XF:=(iw 2 v2 s2 rfl rfl).on x1.on (fv s2);have Zl:ao e2 v2 s2:=by
      rcases H0 yS with ⟨g,o,h5,h6,h7⟩|h5
      ·exact G1.keep v2 s2 g h5 XF ⟨o,h6,h7⟩
      ·rw [h5] at XF⊢;exact XF
     obtain ⟨e3,ra,ys,G2,SL⟩:=DT G1.wo Zl yS;have anV:eD c (b8.plain λb=>v2.ownBlock=some b) (vN c.key e1.φ) w v2 ⟨c.tq k,false,ys⟩:=by have:=G2.row;rw [G1.φ] at this;exact this
     have zd: ∀b,v0.ownBlock=some b->v2.ownBlock≠some b:=by
      intro b h0 xK;rcases H0 yS with ⟨g,o,h5,h6,h7⟩|h5
      ·rw [h5] at Zl;have XD:v2=e2.E g:=(tO G1.wo Zl h6).1;exact G1.jr g o b h6 (by rw [<-XD];exact xK) h0
      ·rw [h5] at Zl;simp only [ao,bo,aav,and_true] at Zl;rw [Zl] at xK;simp [IN] at xK
     have wide: ∀{v:Value} {zs:List MV} (Z1:Nat->Prop),(∀b,v.ownBlock=some b->Z1 b)->eD c (b8.plain λb=>v.ownBlock=some b) (vN c.key e1.φ) w v ⟨c.tq k,false,zs⟩->eD c (b8.plain Z1) (vN c.key e1.φ) w v ⟨c.tq k,false,zs⟩:=by intro v zs Z1 hz hf;obtain ⟨I,cells,g1,g2,g3,g4,g5⟩:=hf.row;exact ⟨I,cells,g1,g2,g3,g4,λbO hb=>⟨hz bO hb,(g5 bO hb).2⟩⟩
     have h3φ:e3.φ=e1.φ:=G2.φ.trans G1.φ;refine ⟨e3,ra,[.fresh xs,m1,.fresh ys],λb=>w.heap.size<=b\/v0.ownBlock=some b\/v2.ownBlock=some b,⟨G2.wo,λb hb=> .inl hb,?_,?_,?_,?_,λKl=>by rw [hg] at Kl;cases Kl⟩,by rw [h3φ];exact x1.tr,SL⟩
     ·intro b hb;rcases hb with hb|hb|hb
      ·exact h1.dp b hb
      ·exact G1.In b hb
      ·exact G2.In b hb
     ·intro t cs ht hb;rcases hb with hb|hb|hb
      ·have:=G8 G2.wo ht;have hb:w.heap.size<=e3.B t:=hb;omega
      ·obtain ⟨IV,k1,k2⟩:=G2.boxes t cs ht;rw [k2] at hb;exact G1.box t IV k1 hb
      ·exact G2.box t cs ht hb
     ·intro f o b ho hb hz;rcases hz with hz|hz|hz
      ·have:=G9 G2.wo ho hb;omega
      ·obtain ⟨o0,k1,k2⟩:=G2.bA f o b ho hb;exact G1.jr f o0 b k1 k2 hz
      ·exact G2.jr f o b ho hb hz
     ·simp only [jh,hg,if_true];rw [h3φ];exact .inl ⟨v0,v1,v2,xs,m1,ys,rfl,rfl,wide _ (λb hb=> .inr (.inl hb)) G1.row,by rw [<-h1.key];exact r1,wide _ (λb hb=> .inr (.inr hb)) anV,zd⟩
  ·simp at hK
theorem dw.map {os:List Operand}(h:cF c Z e st a w): ∀(i:Nat) (v:Value) (s:Slot),(os.map a.eval)[i]? =some v->(kl c st os)[i]? =some s->ao e v s:=by
 intro i v s h1 h2;rw [jS,aaT] at h2;rw [aaT] at h1;cases ho:os[i]? with
 |none=>simp [ho] at h1
 |some x=>simp [ho] at h1 h2;rw [<-h1,<-h2];exact (h.eval x).1
theorem EW {f:Nat}{args:Array Value}{Rp:Value->World->Prop}(cV:(execOp a.eval o).run P w=(callFunc f args).run P w)(hc:lc P f args w Rp){Nx:Act->World->Prop}(ait: ∀v w',Rp v w'->Nx (a.put o.dst v) w'):o.wp P a w Nx Q:=by
 unfold ahg;rw [cV];unfold lc at hc;generalize (callFunc f args).run P w=res at hc;cases res with
 |halt=>exact hc.elim
 |ok n w1=>
  cases n<;>simp only at hc<;>try exact hc.elim
  ·exact ait _ _ hc
  ·rw [Oper.upon_enter];refine hc.mono ?_;rintro x BT ⟨v,rfl,hv⟩;exact ait _ _ hv
theorem ab2 {Z':Nat->Prop}{k d:Nat}{ms:List MV}{x:MV}{v:Value} {φ':Ph}{I:TI}{vs:List Value}(hh:Handed c Z Z' e st a w k vs ms)(hd:o.dst.getD 0=d)(ht:Trans Z' e.φ w φ' w')(hi:EV φ' w')(hr:kp c Z' φ' w' k v x)(hK:(bif c.fresh k then bif BY (c.tq k) 0 then gCl x λxs=>bM c st o.dst (.sc (.p (.clip xs))) K else gF x λxs=>bif !BY I.elem (c.tq k) then none else kW st d ⟨I.elem,false,xs⟩ λst=>(bif bU c.bs d then pZ st (.own d) λm st=>bM c st o.dst (.sc (.p m)) K else bM c st o.dst (.sc (.own d)) K) else tH c I x λs=>bM c st o.dst s K)=some r): Out c Z K r e.φ w (a.put o.dst v) w':=by
 have hs:=hh.wo.called hh.sub hh.box hh.jr ht hi;have H2:Trans Z e.φ w φ' w':=⟨ht.ph,λb hb=>ht.heap b (λhz=>hb (hh.sub b hz)),λb o hb=>ht.free b o (λhz=>hb (hh.sub b hz)),ht.size,ht.rest⟩
 cases hf:c.fresh k with
 |true=>
  simp only [hf,cond_true] at hK;cases h0:BY (c.tq k) 0 with
  |true=>
   simp only [h0,cond_true] at hK;unfold gCl at hK;split at hK
   ·rename_i xs;have Ju:ao {e with φ:=φ'} v (.sc (.p (.clip xs))):=by have hr:(MV.clip xs).one=true/\nr c.key φ' [v] (.clip xs):=hr;simp only [ao,bo];rw [hh.wo.key];exact hr
    obtain ⟨e2,eM,q1,q2,q3⟩:=ec hs (.of Ju trivial) hK;exact ⟨e2,eM,q1,by rw [q3];exact H2,q2⟩
   ·simp at hK
  |false=>
  simp only [h0,cond_false] at hK;unfold gF at hK;split at hK
  ·rename_i xs;cases kK:BY I.elem (c.tq k) with
   |false=>simp [kK] at hK
   |true=>
    simp only [kK,ag5,cond_false] at hK;have kK:=fj kK;rw [kK] at hK;have hr:eD c (b8.plain Z') (vN c.key φ') w' v ⟨c.tq k,false,xs⟩:=hr;have Ju:eD c Z.nc {e with φ:=φ'} w' v ⟨c.tq k,false,xs⟩:=by obtain ⟨I,cells,g1,g2,g3,g4,g5⟩:=hr.row;exact ⟨I,cells,g1,g2,g3,by show bQ e.key φ' _ _ _;rw [hh.wo.key];exact g4,λbO hb=>⟨hh.sub _ (g5 bO hb).1,(g5 bO hb).2.1,λhc=>agX hc⟩⟩
    have h6:=hs.ab1 (f:=d) (hh.wo.npf hK) Ju (by intro b hb;obtain ⟨I,cells,g1,g2,g3,g4,g5⟩:=hr.row;have hz:=(g5 b hb).1;exact ⟨λt cs h1 h2=>hh.box t cs h1 (by rw [h2];exact hz),λg o h1 h2=>hh.jr g o b h1 h2 hz⟩);have h1:v.oneCell'=true:=by obtain ⟨I,cells,g1,g2,g3,_⟩:=hr.row;exact EU g3
    have hK:=ui hK;cases hbs:bU c.bs d with
    |true=>simp only [hbs,cond_true] at hK;obtain ⟨e3,ra,m,k1,k2,_,k4,hK,_,k7,k8⟩:=pk (l:= .own d) h6 (vs:=[v]) ⟨v,rfl,h1,λo ho=>by simp [Env.AX]⟩ hK;have hm:m.one=true:=k8 (λx he=>by cases he);obtain ⟨e2,eM,q1,q2,q3⟩:=ec k1 (.of (s:= .sc (.p m)) (by exact ⟨hm,k4⟩) trivial) hK;exact ⟨e2,eM,q1,by rw [q3];exact H2.trans k2.tr,q2⟩
    |false=>simp only [hbs,cond_false] at hK;obtain ⟨e2,eM,q1,q2,q3⟩:=ec h6 (.of (xQ h1) trivial) hK;exact ⟨e2,eM,q1,by rw [q3];exact H2,q2⟩
  ·simp at hK
 |false=>simp only [hf,cond_false] at hK;obtain ⟨s,g1,g2,hK⟩:=ze (e:={e with φ:=φ'}) (st:=st) hh.wo.key hr hK;obtain ⟨e2,eM,q1,q2,q3⟩:=ec hs (.of g1 g2) hK;exact ⟨e2,eM,q1,by rw [q3];exact H2,q2⟩
theorem Out.trans {φ0:Ph}{w0:World} {a':Act}(h:Trans Z φ0 w0 e.φ w) (h':Out c Z K r e.φ w a' w'):Out c Z K r φ0 w0 a' w':=by obtain ⟨e2,eM,h1,h2,h3⟩:=h';exact ⟨e2,eM,h1,h.trans h2,h3⟩
theorem Zm {R':Type}{I:TI}{x:MV}{outs:List MV} {K':Slot->Option R'}:tH c I (.gm x outs) K'=none:=by
 unfold tH;split
 ·unfold HS;cases I.st
  ·simp only [cond_false];split
   ·rename_i k _;cases k<;>rfl
   ·rfl
  ·rfl
 ·rfl
theorem H3 {R':Type} {r':R'}{I:TI}{x:MV} {K':Slot->Option R'}(h:tH c I x K'=some r'):isW x=false:=by cases x<;>first|rfl|(rw [Zm] at h;cases h)
theorem agh {cl:Call}{f:Nat}{I:TI}(hS:Sound P c)(ho:o.op= .call cl)(tu:cl.callee= .value (.func f))(h:cF c Z e st a w)(hK:Xv c (c.key f) st (kl c st cl.args.toList) (λms st=>aa6 c (o.dst.getD 0) st (c.key f) ms I λs st=>bM c st o.dst s K)=some r): o.wp P a w (λa' w'=>(c.iL (c.key f)=false->fa w w')/\Out c Z K r e.φ w a' w') Q:=by
 obtain ⟨e1,dC,ms,Z',hh,ht,hK⟩:=VV (vs:=cl.args.toList.map a.eval) h (by simp [jS]) (dw.map h) hK;unfold aa6 at hK;obtain ⟨x,hx,hK⟩:=tL hK;have Km:=hS f ms x hx e1.φ w Z' _ hh.new hh.args hh.wo.q9;refine EW ?_ Km ?_
 ·have EX:(cl.args.toList.map a.eval).toArray=cl.args.map a.eval:=by rw [<-abY,abK]
  rw [EX];simp [execOp,ho,resolve,tu,Act.eval,abZ,invoke]
 ·rintro v w' ⟨φ',t1,t2,t3⟩;have hw:isW x=false:=by
   cases IR:c.fresh (c.key f) with
   |true=>rw [IR] at hK;cases h0:BY (c.tq (c.key f)) 0<;>rw [h0] at hK<;>cases x<;>first|rfl|(simp [gF,gCl] at hK;done)
   |false=>rw [IR] at hK;exact H3 hK
  exact ⟨λKl=>⟨t1.size,λb hb=>t1.heap b (λhz=>by have:=hh.grow Kl b hz;omega) hb,t1.rest⟩,(ab2 hh rfl t1 t2 (t3.of hw) hK).trans ht⟩
theorem jt.one {ms:List MV}: ∀{vs:List Value},jt e.key e.φ vs ms->(∀m∈ms,m.one=true)->dw e.key e.φ vs ms:=by
 induction ms with
 |nil=>intro vs h _;cases h;rfl
 |cons m ms ih=>
  intro vs h h1;cases h with
  |cons v _ vs _ g1 g2=>obtain ⟨u,rfl,_⟩:=g1.one (h1 m (by simp));have hm:=h1 m (by simp);exact ⟨u,vs,rfl,by cases m<;>simp [MV.one] at hm<;>exact ⟨rfl,g1⟩,ih g2 (λm hm=>h1 m (by simp [hm]))⟩
theorem ajN {cl:Call}{x:Operand}{I:TI}(hS:Sound P c)(ho:o.op= .call cl)(tu:cl.callee= .value x)(h:cF c Z e st a w)(hK:Qk c st I (aX c st x) (kl c st cl.args.toList) (λs st=>bM c st o.dst s K)=some r): o.wp P a w (λa' w'=>fa w w'/\Out c Z K r e.φ w a' w') Q:=by
 obtain ⟨hx,_⟩:=h.eval x;generalize aX c st x=s at hx hK;unfold Qk at hK;split at hK
 ·rename_i m;simp only [ao,bo] at hx;unfold Xs at hK;split at hK
  ·rename_i f dI;obtain ⟨hg,hK⟩:=fC hK;obtain ⟨f',cap,hv,xl,DQ,o4⟩: ∃(f':Nat) (cap:Array Value),a.eval x= .func (.func f') #[] cap/\e.key f'=f/\jt e.key e.φ cap.toList dI/\ ∀m∈dI,m.one=true:=by obtain ⟨_,hx⟩:=hx;generalize C9:[a.eval x]=vs at hx;cases hx;rename_i f' cap h1 h2 h3;exact ⟨f',cap,by simpa using C9,h1,h2,h3⟩
   obtain ⟨e1,dC,ms,h1,h2,h3,h4,yS⟩:=tN h ⟨λ_=>cl.args.toList.map a.eval,rfl,by simp [jS],dw.map h⟩ hK;obtain ⟨x',Y9,SL⟩:=tL yS;have OD:c.key f'=f:=by rw [<-h.key];exact xl
   have anW:dw e1.key e1.φ cap.toList dI:=by have:=(jt.one DQ o4).mono h2.on.φ;rw [<-h2.on.key] at this;exact this
   have kL:jh c (λb=>w.heap.size<=b) e1.φ w (c.key f') (cl.args.toList.map a.eval++cap.toList) (ms++dI):=by
    have hg':c.iL (c.key f')=false:=by rw [OD];simpa using hg
    simp only [jh,hg',aaM,if_false];rw [<-h1.key];exact h4.append anW
   have Km:=hS f' (ms++dI) x' (by rw [OD];exact Y9) e1.φ w (λb=>w.heap.size<=b) _ (λb hb=>hb) kL h1.q9;refine EW ?_ Km ?_
   ·have EX:(cl.args.toList.map a.eval++cap.toList).toArray=cl.args.map a.eval++cap:=by rw [<-abY,<-Array.toList_append,abK]
    rw [EX];simp [execOp,ho,resolve,tu,hv,abZ,invoke]
   ·rintro v w' ⟨φ',t1,t2,t3⟩;have hh:Handed c Z (λb=>w.heap.size<=b) e1 dC a w (c.key f') (cl.args.toList.map a.eval++cap.toList) (ms++dI):=by
     refine ⟨h1,λb hb=>hb,h1.dp,?_,?_,kL,λ_ b hb=>hb⟩
     ·intro t cs ht hz;have:=G8 h1 ht;omega
     ·intro f o b ho hb hz;have:=G9 h1 ho hb;omega
    have hs:=hh.wo.called hh.sub hh.box hh.jr t1 t2;have H2:Trans Z e1.φ w φ' w':=⟨t1.ph,λb hb=>t1.heap b (λhz=>hb (hh.sub b hz)),λb o hb=>t1.free b o (λhz=>hb (hh.sub b hz)),t1.size,t1.rest⟩
    obtain ⟨s,g1,g2,hK4⟩:=ze (e:={e1 with φ:=φ'}) (st:=dC) h1.key (t3.of (H3 SL)) SL;obtain ⟨e2,eM,q1,q2,q3⟩:=ec hs (.of g1 g2) hK4;exact ⟨⟨t1.size,λb hb=>t1.heap b (λhz=>by have hz:w.heap.size<=b:=hz;omega) hb,t1.rest⟩,e2,eM,q1,by rw [q3];exact h2.tr.trans H2,q2⟩
  ·simp at hK
 ·simp at hK
end
end Dn
/-
  Parts of a state. Conditions: none.
-/
namespace Dn
open Go
section
variable {P:Program}{c:Ctx}{Z Zi:b8} {e e':Env}{st cB:St}{a:Act} {w w':World}{R:Type}{K:St->Option R}{r:R}{Q:Exit->Act->World->Prop}{o:Oper}
theorem cF.sub (h:cF c Z e st a w)(hpp: ∀t∈Z.dg,t∈Zi.dg)(hm:cB.dg=Zi.dg/\cB.dt=Zi.dt/\ ∀t∈Zi.dg,a.tmps.getD t undef=Zi.T t)(hn:(bk cB.fr).Nodup)(hs: ∀t,aH cB.fr t= .sc .un\/(eo (aH st.fr t)=false/\(aH cB.fr t=aH st.fr t\/ ∃qs,aH cB.fr t=M4 qs (aH st.fr t))))(hf: ∀f o,bj cB.bA f=some o-> ∃o0,bj st.bA f=some o0/\o0.ty=o.ty/\o0.xs=o.xs/\(o0.fB=true->o.fB=true))(hbz: ∀t cs,aH cB.fr t= .box cs->(t∈Zi.dg/\Zi.Pr (e.B t))\/Zi.In (e.B t))(hfz: ∀f o b,bj cB.bA f=some o->(e.E f).ownBlock=some b->(f∈Zi.dt/\Zi.Pr b)\/Zi.In b)(agi: ∀f o I cells b,bj cB.bA f=some o->f∈Zi.dt->o.fB=true->c.ti o.ty=some I->w.ownsRow 0 o.ty I.size (e.E f) o.xs.length cells->(e.E f).ownBlock=some b-> ∀j,j<cells.length->e.φ b j=cells[j]?)(hz: ∀b,w.heap.size<=b->Zi.In b):cF c Zi {e with m:=cB.bA} cB a w:=by
 have yR:oe (λ_=>True) (λ_=>True) e {e with m:=cB.bA}:=by refine ⟨rfl,.refl _,λ_ _=>rfl,λf o ho _=> ?_⟩;obtain ⟨o0,h1,h2,h3,h4⟩:=hf f o ho;exact ⟨o0,by rw [h.m];exact h1,rfl,h3.symm⟩
 have tie: ∀{t:Nat} {v:Value} {cs:List aT} {b:Nat},tied Z t v cs b->tied Zi t v cs b:=λht=>⟨ht.1,λhp=>by obtain ⟨k1,k2⟩:=ht.2 hp;have k3:=hpp _ k1;exact ⟨k3,by rw [<-hm.2.2 _ k3,h.defers.2.2.2 _ k1,k2]⟩⟩
 have ab3: ∀t cs,aH cB.fr t= .box cs-> ∃IV,aH st.fr t= .box IV/\(cs=IV\/ ∃qs,cs=IV.map (VB qs)):=by
  intro t cs ht;rcases hs t with h1|⟨_,h1|⟨qs,h1⟩⟩
  ·rw [h1] at ht;cases ht
  ·rw [h1] at ht;exact ⟨cs,ht,.inl rfl⟩
  ·rw [h1] at ht;generalize aH st.fr t=s at ht;cases s<;>simp only [M4] at ht<;>first|(cases ht;done)|skip
   simp at ht;exact ⟨_,rfl,.inr ⟨qs,ht.symm⟩⟩
 refine ⟨⟨h.defers.1,hm⟩,h.size,rfl,h.key,hn,?_,?_,?_,?_,?_,?_,h.q9,hz⟩
 ·intro t;have nt:=h.slot t;have jf:=hs t;have hb0:=hbz t;generalize aH cB.fr t=s' at jf hb0;generalize aH st.fr t=s at nt jf;rcases jf with rfl|⟨_,rfl|⟨qs,rfl⟩⟩
  ·simp [cW,ao]
  ·cases s'<;>simp only [cW] at nt⊢ <;>try exact nt.on yR (fv _)
   obtain ⟨o2,h1,h2⟩:=nt.2.obj;exact ⟨tie nt.1,hb0 _ rfl,⟨o2,h1,h2.on yR (λl _ f _=>trivial)⟩,nt.2.free⟩
  ·by_cases Kg: ∃cs,s= .box cs
   ·obtain ⟨cs,rfl⟩:=Kg;simp only [cW,M4] at nt⊢;obtain ⟨o2,h1,h2⟩:=nt.2.obj;exact ⟨(tie nt.1).mG (ajs qs _),hb0 _ rfl,⟨o2,h1,(h2.map (λ_ _=>bo.XB qs) (λ_ _=>rfl)).on yR (λl _ f _=>trivial)⟩,nt.2.free⟩
   ·have Dd:ao e (a.tmps.getD t undef) s:=by cases s<;>simp only [cW] at nt<;>first|exact nt|exact absurd ⟨_,rfl⟩ Kg
    have h2:=(Dd.XB qs).on yR (fv _);generalize Vm:M4 qs s=s2 at h2;cases s2<;>first|exact h2|(exfalso;simp [ao] at h2)
 ·intro t;have jf:=hs t;generalize aH cB.fr t=s' at jf;generalize aH st.fr t=s at jf;rcases jf with rfl|⟨hp,rfl|⟨qs,rfl⟩⟩
  ·trivial
  ·cases s'<;>simp [eo] at hp<;>trivial
  ·cases s<;>simp [eo] at hp<;>trivial
 ·intro f o ho;obtain ⟨o0,h1,h2,h3,h4⟩:=hf f o ho;obtain ⟨I,cells,g1,g2,g3,g4,g5⟩:=(h.jr f o0 h1).row;rw [h2] at g1 g3;rw [h3] at g3 g4 g5;refine ⟨I,cells,g1,g2,g3,g4,λbO hb=>⟨hfz f o bO ho hb,λoff u hu=> ?_,λk1 k2 j hj=>agi f o I cells bO ho k1 k2 g1 g3 hb j hj⟩⟩;obtain ⟨k1,k2⟩:=(g5 bO hb).2.1 off u hu;exact ⟨h4 k1,k2⟩
 ·intro t t' c1 c2 h1 h2 eu;obtain ⟨d1,g1,_⟩:=ab3 t c1 h1;obtain ⟨d2,g2,_⟩:=ab3 t' c2 h2;exact h.bb t t' d1 d2 g1 g2 eu
 ·intro t c1 f o h1 h2;obtain ⟨d1,g1,_⟩:=ab3 t c1 h1;obtain ⟨o0,g2,_⟩:=hf f o h2;exact h.bf t d1 f o0 g1 g2
 ·intro f f' o1 o2 k h1 h2 h3 h4;obtain ⟨p1,g1,_⟩:=hf f o1 h1;obtain ⟨p2,g2,_⟩:=hf f' o2 h2;exact h.ff f f' p1 p2 k g1 g2 h3 h4
theorem cF.drop {ds:List Nat}(h:cF c Z e st a w):cF c Z e {st with fr:=pj ds st.fr} a w:=by
 have hg:=JX ds st.fr h.nodup;have:=h.sub (Zi:=Z) (cB:={st with fr:=pj ds st.fr}) (λ_ h=>h) ⟨h.defers.2.1,h.defers.2.2.1,h.defers.2.2.2⟩ ((EJ ds st.fr).nodup h.nodup) (by
   intro t;show aH (pj ds st.fr) t=_\/(_/\(aH (pj ds st.fr) t=_\/ ∃qs,aH (pj ds st.fr) t=_));rw [hg];cases hb:eo (aH st.fr t)||bU ds t with
   |true=>exact .inl (by simp)
   |false=>simp only [IT] at hb;exact .inr ⟨hb.1,.inl (by simp)⟩)
  (λf o ho=>⟨o,ho,rfl,rfl,id⟩)
  (by
   intro t cs ht;have ht:aH (pj ds st.fr) t= .box cs:=ht;rw [hg] at ht;split at ht
   ·cases ht
   ·have hs:=h.slot t;rw [ht] at hs;exact hs.2.dp)
  (by intro f o b ho hb;obtain ⟨I,cells,_,_,_,_,g5⟩:=(h.jr f o ho).row;exact (g5 b hb).1)
  (by intro f o I cells b ho hp hz hI gh hb j hj;obtain ⟨I',Qv,g1,_,g3,_,g5⟩:=(h.jr f o ho).row;rw [hI] at g1;cases g1;rw [wh gh g3 hb] at hj⊢;exact (g5 b hb).2.2 hp hz j hj)
  h.dp
 have hm:e.m=st.bA:=h.m;have he:{e with m:=({st with fr:=pj ds st.fr}:St).bA}=e:=by cases e;simp at hm⊢;exact hm.symm
 rw [he] at this;exact this
theorem cF.ab4 {t root off:Nat}{cs:List aT}(h:cF c Z e st a w)(hb:aH st.fr root= .box cs)(hn:dD (aH st.fr t)=false)(hv:ao e (a.tmps.getD t undef) (.ptr root off)): cF c Z e {st with fr:=dz st.fr t (.ptr root off)} a w:=by
 have hg: ∀t',aH (dz st.fr t (.ptr root off)) t'=if t'=t then .ptr root off else aH st.fr t':=λt'=>cE _ _ _ _
 have eu: ∀r,dD (aH st.fr r)=true->r≠t:=λr hr he=>by subst he;rw [hn] at hr;cases hr
 have tJ: ∀t' cs,aH (dz st.fr t (.ptr root off)) t'= .box cs->aH st.fr t'= .box cs:=by
  intro t' cs ht;rw [hg] at ht;by_cases xm:t'=t
  ·rw [if_pos xm] at ht;cases ht
  ·rw [if_neg xm] at ht;exact ht
 have hk: ∀r,dD (aH st.fr r)=true->dD (aH (dz st.fr t (.ptr root off)) r)=true:=λr hr=>by rw [hg,if_neg (eu r hr)];exact hr
 refine ⟨h.defers,h.size,h.m,h.key,fZ h.nodup,?_,?_,h.jr,?_,?_,h.ff,h.q9,h.dp⟩
 ·intro t';show cW Z e w t' _ (aH (dz st.fr t (.ptr root off)) t');rw [hg];by_cases xm:t'=t
  ·subst xm;simp only [if_true];exact hv
  ·simp only [xm,if_false];exact h.slot t'
 ·intro t';show dq (dz st.fr t (.ptr root off)) (aH (dz st.fr t (.ptr root off)) t');have hr:=h.root t';rw [hg t'];by_cases xm:t'=t
  ·simp only [xm,if_true];exact hk root (by rw [hb];rfl)
  ·simp only [xm,if_false];generalize aH st.fr t'=s at hr;cases s<;>first|trivial|exact hk _ hr
 ·intro t1 t2 c1 c2 h1 h2 eu;exact h.bb t1 t2 c1 c2 (tJ t1 c1 h1) (tJ t2 c2 h2) eu
 ·intro t1 c1 f o h1 h2;exact h.bf t1 c1 f o (tJ t1 c1 h1) h2
theorem BV {s:Slot}(h:GU s=true): ∃cs,s= .box cs/\gY cs=false:=by cases s<;>simp [GU] at h;exact ⟨_,rfl,h⟩
theorem SO {Z1:b8}{e1:Env}{dC:St}{root:Nat}(h:cF c Z e st a w)(h1:cF c Z1 e1 dC a w)(hp:AE root=false)(hb:GU (aH st.fr root)=true)(xS:GU (aH dC.fr root)=true):e1.B root=e.B root:=by obtain ⟨cs,hf,hm⟩:=BV hb;obtain ⟨du,Qx,hm1⟩:=BV xS;have s1:=h.slot root;have s2:=h1.slot root;rw [hf] at s1;rw [Qx] at s2;have g1:=s1.1.1 hp;have g2:=s2.1.1 hp;rw [xi hm] at g1;rw [xi hm1,g1] at g2;simp at g2;exact g2.symm
theorem Kn {Z0:b8}{e0:Env}{JQ:St}{ok:Nat->Bool}(h0:cF c Z0 e0 JQ a w): ∀{l:Fr} {st:St} {R:Type} {r:R} {K:Fr->Option R},(∀t s,(t,s)∈l->aH JQ.fr t=s)->cF c Z e st a w->JL ok JQ.fr l st.fr K=some r-> ∃fr,cF c Z e {st with fr:=fr} a w/\K fr=some r:=by
 intro l;induction l with
 |nil=>intro st R r K _ h hK;exact ⟨st.fr,h,hK⟩
 |cons p l ih=>
  obtain ⟨t,s⟩:=p;intro st R r K hl h hK;have DM: ∀t s,(t,s)∈l->aH JQ.fr t=s:=λt s hm=>hl t s (aaI _ hm);have hs:=hl t s (by simp);cases s with
  |ptr root off=>
   simp only [JL] at hK;cases hc:ok t&&(!AE root&&(GU (aH JQ.fr root)&&(GU (aH st.fr root)&&!dD (aH st.fr t)))) with
   |false=>rw [hc] at hK;exact ih DM h hK
   |true=>
    rw [hc] at hK;simp only [sh,aaH] at hc;obtain ⟨_,hp,hb0,xS,hn⟩:=hc;simp only [cond_true,oO] at hK;obtain ⟨cs,hf,_⟩:=BV xS;have hB:=SO h0 h hp hb0 xS;have hv:ao e (a.tmps.getD t undef) (.ptr root off):=by have:=h0.slot t;rw [hs] at this;simp only [cW,ao] at this⊢;rw [hB];exact this
    have h2:=h.ab4 hf hn hv;obtain ⟨fr,g1,g2⟩:=ih (st:={st with fr:=dz st.fr t (.ptr root off)}) DM h2 hK;exact ⟨fr,g1,g2⟩
  |_=>exact ih DM h hK
theorem SP {l:Fr}(hn:(bk l).Nodup): ∀t s,(t,s)∈l->aH l t=s:=by
 induction l with
 |nil=>intro t s hm;simp at hm
 |cons p l ih=>
  obtain ⟨k,x⟩:=p;have hn:(k::bk l).Nodup:=hn;rw [List.nodup_cons] at hn;intro t s hm;rcases AI.1 hm with hm|hm
  ·cases hm;simp [aH]
  ·have hk:t∈bk l:=by unfold bk;exact aaW.2 ⟨(t,s),hm,rfl⟩
   have eu:k≠t:=λhe=>hn.1 (he▸hk);simp only [aH,fc];simp only [eu,decide_false,cond_false];exact ih hn.2 t s hm
theorem AZ {ds:List Nat}{R:Type}{r:R}{K:St->Option R}(h:cF c Z e st a w)(hK:JR ds st K=some r): ∃cB,cF c Z e cB a w/\K cB=some r:=by obtain ⟨p,q,fr,m⟩:=st;simp only [JR,HU] at hK;obtain ⟨rq,g1,g2⟩:=Kn (st:={dg:=p,dt:=q,fr:=pj ds fr,bA:=m}) h (SP h.nodup) h.drop hK;exact ⟨_,g1,g2⟩
end
end Dn
/-
  Maps of the function's own: their operations. Conditions: none.
-/
namespace Dn
open Go
theorem XN (b:ByteArray):(b==b)=true:=by rw [beq_toListBytes];exact beq_self_eq_true _
theorem ajO {a b:Kd}(h:kdB a b=true):a=b:=by cases a<;>cases b<;>simp [kdB,kB] at h<;>first|rfl|(subst h;rfl)
theorem XO {l m:List Kd}(h:EG l m=true):l=m:=by
 induction l generalizing m with
 |nil=>cases m<;>simp [EG] at h;rfl
 |cons a l ih=>
  cases m with
  |nil=>simp [EG] at h
  |cons b m=>simp only [EG,sh] at h;rw [ajO h.1,ih h.2]
theorem VW {s t:MS}(h:msB s t=true):s=t:=by unfold msB at h;simp only [sh,beq_iff_eq] at h;cases s;cases t;simp only at h;obtain ⟨h1,h2,h3⟩:=h;rw [h1,XO h2,h3]
theorem agj {a b:MV}(h:GX a b=true):a=b:=by
 unfold GX at h;split at h
 ·rw [of_decide_eq_true h]
 ·simp only [sh] at h;rw [of_decide_eq_true h.1,of_decide_eq_true h.2]
 ·rw [of_decide_eq_true h]
 ·rw [of_decide_eq_true h]
 ·cases h
theorem SQ {a b:List MV}(h:ft a b=true):a=b:=by
 induction a generalizing b with
 |nil=>cases b with|nil=>rfl|cons=>simp [ft] at h
 |cons x xs ih=>
  cases b with
  |nil=>simp [ft] at h
  |cons y ys=>simp only [ft,sh] at h;rw [agj h.1,ih h.2]
structure XP (P:Program) (t:TypeId) (s:MS):Prop where
 row: ∃kt el,P.underlying t=some (.map kt el)/\(∀w:World,(zeroValue el).run P w= .ok (CJ s.b (j0 s.b)) w)/\ (∀(em:Bool) (ks:List MV) (w:World),et s.lay ks=true->(Instr.checkKey em 10000 kt (gz s.st ks)).run P w= .ok () w)/\ ∃d,P.underlying kt=some d/\((∀a b,et s.lay a=true->et s.lay b=true->aa0 d (gz s.st a) (gz s.st b)=some (ft b a))\/ (∀a b,et s.lay a=true->et s.lay b=true->aa0 d (gz s.st a) (gz s.st b)=none/\ ∀w:World,(agY kt (gz s.st a) (gz s.st b)).run P w= .ok (ft b a) w))
def zf (P:Program)(c:Ctx):Prop:= ∀t s,xh c t=some s->XP P t s
theorem ab5 {k:Kd}{e:Env}{l:aT}{vs:List Value}{m:MV}(h:bo e vs l)(hf:oZ k l=true)(hm:cj [l]=some [m]):vs=GQ m/\G3 k m=true:=by
 have bytes: ∀b:ByteArray,Value.string b=Value.string ⟨b.data.toList.toArray⟩:=by intro b;cases b;simp
 cases k<;>cases l<;>simp only [oZ] at hf<;>try (cases hf;done)
 ·rename_i x;cases x<;>simp only [oZ] at hf<;>try (cases hf;done)
  simp [cj] at hm;subst hm;obtain ⟨_,h⟩:=h;cases h;exact ⟨rfl,rfl⟩
 ·rename_i k x;cases x<;>simp only [oZ] at hf<;>try (cases hf;done)
  simp [cj] at hm;subst hm;obtain ⟨_,h⟩:=h;cases h;exact ⟨rfl,hf⟩
 ·rename_i x;cases x<;>simp only [oZ] at hf<;>try (cases hf;done)
  simp [cj] at hm;subst hm;obtain ⟨_,h⟩:=h;cases h;exact ⟨by simp [GQ],rfl⟩
 ·simp [cj] at hm;subst hm;exact ⟨h,rfl⟩
theorem Ab {l:aT}{ls:List aT}{ms:List MV}(h:cj (l::ls)=some ms): ∃m q,cj [l]=some [m]/\cj ls=some q/\ms=m::q:=by
 cases l<;>cases hq:cj ls<;>simp [cj,hq] at h⊢
 ·exact h.symm
 ·exact h.symm
theorem agk {e:Env}{lay:List Kd}: ∀{ls:List aT} {vs:List Value} {ms:List MV},aM e vs ls->gn lay ls=true->cj ls=some ms->vs=ms.flatMap GQ/\et lay ms=true:=by
 induction lay with
 |nil=>
  intro ls vs ms h hf hm;cases ls with
  |nil=>cases h;simp [cj] at hm;subst hm;exact ⟨rfl,rfl⟩
  |cons=>simp [gn] at hf
 |cons k lay ih=>
  intro ls vs ms h hf hm;cases ls with
  |nil=>simp [gn] at hf
  |cons l ls=>
   simp only [gn] at hf;cases h1:oZ k l with
   |false=>simp [h1] at hf
   |true=>simp only [h1,cond_true] at hf;obtain ⟨m,q,g1,g2,rfl⟩:=Ab hm;obtain ⟨v,u,rfl,g3,g4⟩:=h;obtain ⟨k1,k2⟩:=ab5 g3 h1 g1;obtain ⟨k3,k4⟩:=ih g4 hf g2;exact ⟨by rw [k1,k3];rfl,by simp [et,k2,k4]⟩
theorem ajP {e:Env}{s:MS}{v:Value}{sl:Slot}{ks:List MV}(h:ao e v sl)(hf:gn s.lay (ba sl)=true)(hsh:nT s.st sl=true)(hm:cj (ba sl)=some ks):v=gz s.st ks/\et s.lay ks=true:=by
 cases sl with
 |sc l=>
  simp only [nT,aaH] at hsh;simp only [ba] at hf hm;cases hl:s.lay with
  |nil=>rw [hl] at hf;simp [gn] at hf
  |cons k r=>
   cases r with
   |cons=>rw [hl] at hf;simp [gn] at hf
   |nil=>
    rw [hl] at hf;have Qx:oZ k l=true:=by cases hq:oZ k l<;>simp_all [gn]
    obtain ⟨m,q,g1,g2,rfl⟩:=Ab hm;simp [cj] at g2;subst g2;by_cases hh: ∃x,l= .hs x
    ·obtain ⟨x,rfl⟩:=hh;simp [cj] at g1;subst g1;simp only [ao] at h;cases k<;>simp [oZ] at Qx;exact ⟨by rw [hsh,h];rfl,by simp [et,G3]⟩
    ·have hlr:bo e [v] l:=by cases l<;>simp only [ao] at h<;>first|exact h|(cases k<;>simp [oZ] at Qx;done)|exact absurd ⟨_,rfl⟩ hh
     obtain ⟨k1,k2⟩:=ab5 hlr Qx g1;refine ⟨?_,by simp [et,k2]⟩;rw [hsh];cases m<;>simp [GQ] at k1<;>first|(rw [k1];rfl)|skip
     rename_i x;have:=dL x;rw [<-k1] at this;simp at this
 |ag cs=>simp only [nT] at hsh;simp only [ba] at hf hm;simp only [ao] at h;obtain ⟨arr,rfl,hl⟩:=h;obtain ⟨k1,k2⟩:=agk hl hf hm;refine ⟨?_,k2⟩;rw [hsh];simp only [gz];rw [<-k1]
 |_=>simp [nT] at hsh
theorem Qy {n:Nat}{m:MV}: ∀x∈GQ m,aaL n x x=true:=by
 intro x hx;cases m<;>simp [GQ,bV] at hx
 ·subst hx;cases n<;>simp [aaL]
 ·subst hx;cases n<;>simp [aaL]
 ·subst hx;cases n<;>(simp only [aaL];exact XN _)
 ·obtain ⟨b,_,rfl⟩:=hx;cases n<;>simp [aaL]
theorem EY {n:Nat}{ms:List MV}:aaL (n+1) (.agg (ms.flatMap GQ).toArray) (.agg (ms.flatMap GQ).toArray)=true:=by
 simp only [aaL,sh,beq_self_eq_true,true_and];rw [ab9];rintro ⟨x,y⟩ hxy;have hxy:(x,y)∈(ms.flatMap GQ).zip (ms.flatMap GQ):=by simpa using hxy
 obtain ⟨i,hi,he⟩:=List.mem_iff_getElem.1 hxy;rw [List.getElem_zip] at he;simp only [aaJ] at he;obtain ⟨h1,h2⟩:=he;rw [h1] at h2;subst h2;have hm:x∈ms.flatMap GQ:=by rw [<-h1];exact List.getElem_mem _
 obtain ⟨m,_,hm⟩:=List.mem_flatMap.1 hm;exact Qy _ hm
theorem Qz {n:Nat}{st:Bool}{lay:List Kd}{ks:List MV}(hf:et lay ks=true):aaL (n+1) (gz st ks) (gz st ks)=true:=by
 unfold gz;split
 ·rename_i x;have:=EY (n:=n) (ms:=[.h x]);simpa [GQ] using this
 ·simp [aaL]
 ·simp [aaL]
 ·simp only [aaL];exact XN _
 ·exact EY
theorem OE {P:Program}{w:World}{st:Bool}{lay:List Kd}{ks:List MV}(hf:et lay ks=true):(Instr.keyThatStays (gz st ks) (gz st ks)).run P w= .ok (gz st ks) w:=by unfold Instr.keyThatStays;rw [Qz (n:=9999) hf];rfl
def gp:List (List MV)->List MV->Nat
 |[],_=>0
 |q::r,ks=>bif ft q ks then 0 else gp r ks+1
theorem EZ (jx:List (List MV))(ks:List MV):gp jx ks<=jx.length:=by
 induction jx with
 |nil=>simp [gp]
 |cons q r ih=>simp only [gp];cases ft q ks<;>simp [ih]
theorem Ko {jx:List (List MV)}{ks:List MV}{q:List MV}(h:jx[gp jx ks]? =some q):q=ks:=by
 induction jx with
 |nil=>simp at h
 |cons p r ih=>
  simp only [gp] at h;cases hm:ft p ks with
  |true=>simp [hm] at h;rw [<-h];exact SQ hm
  |false=>simp [hm] at h;exact ih h
theorem fE (es:List MV)(ks:List MV):df es ks=gp (es.map kn) ks:=by
 induction es with
 |nil=>rfl
 |cons e r ih=>simp only [df,aaQ,gp,ih]
def sC (s:MS):List MapEntry->List (List MV)->Prop
 |[],jx=>jx=[]
 |x::es,jx=> ∃q r,jx=q::r/\et s.lay q=true/\x.key=gz s.st q/\sC s es r
theorem sC.length {s:MS}: ∀{es:List MapEntry} {jx:List (List MV)},sC s es jx->jx.length=es.length
 |[],_,h=>by cases h;rfl
 |_::es,_,⟨q,r,rfl,_,_,h⟩=>by simp [h.length]
theorem sC.append {s:MS}: ∀{es XQ:List MapEntry} {jx anZ:List (List MV)},sC s es jx->sC s XQ anZ->sC s (es++XQ) (jx++anZ)
 |[],_,_,_,h,h'=>by cases h;exact h'
 |x::es,_,_,_,⟨q,r,rfl,h1,h2,h⟩,h'=>⟨q,_,rfl,h1,h2,h.append h'⟩
theorem sC.at {s:MS}: ∀{es:List MapEntry} {jx:List (List MV)} {i:Nat} {x:MapEntry},sC s es jx->es[i]? =some x-> ∃q,jx[i]? =some q/\et s.lay q=true/\x.key=gz s.st q
 |[],_,_,_,_,h=>by simp at h
 |y::es,_,i,x,⟨q,r,rfl,h1,h2,h⟩,hx=>by
  cases i with
  |zero=>simp at hx;subst hx;exact ⟨q,rfl,h1,h2⟩
  |succ i=>simpa using h.at (i:=i) (by simpa using hx)
theorem VX {s:MS}{d:TypeDesc}{ks:List MV}(hf:et s.lay ks=true)(hd: ∀a b,et s.lay a=true->et s.lay b=true->aa0 d (gz s.st a) (gz s.st b)=some (ft b a)): ∀(es:List MapEntry) (jx:List (List MV)) (n:Nat),sC s es jx->acq d (gz s.st ks) es n=some ((es[gp jx ks]?).map λx=>(n+gp jx ks,x.val)):=by
 intro es;induction es with
 |nil=>intro jx n h;rfl
 |cons x es ih=>
  rintro jx n ⟨q,r,rfl,h1,h2,h⟩;simp only [acq,h2,hd ks q hf h1,gp];cases hm:ft q ks with
  |true=>simp
  |false=>simp only [cond_false];rw [ih r (n+1) h];simp [ahd,ahh 1]
theorem Ni {P:Program}{s:MS}{kt:TypeId}{ks:List MV}{w:World}(hf:et s.lay ks=true)(hd: ∀a b,et s.lay a=true->et s.lay b=true-> ∀w:World,(agY kt (gz s.st a) (gz s.st b)).run P w= .ok (ft b a) w): ∀(es:List MapEntry) (jx:List (List MV)) (n:Nat),sC s es jx->(Instr.findAsking kt (gz s.st ks) es n).run P w= .ok ((es[gp jx ks]?).map λx=>(n+gp jx ks,x.val)) w:=by
 intro es;induction es with
 |nil=>intro jx n h;rfl
 |cons x es ih=>
  rintro jx n ⟨q,r,rfl,h1,h2,h⟩;simp only [Instr.findAsking,h2,agr,hd ks q hf h1 w,OF,gp];cases hm:ft q ks with
  |true=>simp
  |false=>simp only [cond_false,aaM,if_false];rw [ih r (n+1) h];simp [ahd,ahh 1]
theorem Kp {P:Program}{s:MS}{kt:TypeId}{d:TypeDesc}{ks:List MV}{w:World}{es:List MapEntry}{jx:List (List MV)}(hf:et s.lay ks=true)(hu:P.underlying kt=some d)(hd:(∀a b,et s.lay a=true->et s.lay b=true->aa0 d (gz s.st a) (gz s.st b)=some (ft b a))\/ (∀a b,et s.lay a=true->et s.lay b=true->aa0 d (gz s.st a) (gz s.st b)=none/\ ∀w:World,(agY kt (gz s.st a) (gz s.st b)).run P w= .ok (ft b a) w))(h:sC s es jx):(afC kt (gz s.st ks) es).run P w= .ok ((es[gp jx ks]?).map λx=>(gp jx ks,x.val)) w:=by
 rcases hd with hd|hd
 ·have:=VX hf hd es jx 0 h;rw [aaV] at this;exact MapKept.run_findKey hu this
 ·cases es with
  |nil=>simp [afC,run_underlying hu,OF,acq]
  |cons x es=>
   have h0:=Ni (P:=P) (kt:=kt) (w:=w) hf (λa b ha hb=>(hd a b ha hb).2) (x::es) jx 0 h;obtain ⟨q,r,rfl,h1,h2,h3⟩:=h;have hn:acq d (gz s.st ks) (x::es) 0=none:=by simp [acq,h2,(hd ks q hf h1).1]
   rw [aaV] at h0;simp only [afC,agr,run_underlying hu,OF,hn];exact h0
theorem sw.ks {s:MS}: ∀{es:List MapEntry} {ms:List MV} {n:Nat},es.length=ms.length->(∀(i:Nat) x m,es[i]? =some x->ms[i]? =some m->abv s x m (n+i))->sC s es (ms.map kn)
 |[],[],_,_,_=>rfl
 |x::es,m::ms,n,hl,h=>by obtain ⟨h1,ks,v,rfl,h2,h3,_⟩:=h 0 x m rfl rfl;refine ⟨ks,ms.map kn,rfl,h2,h3,sw.ks (n:=n+1) (by simpa using hl) λi y q hy hq=> ?_⟩;have:=h (i+1) y q (by simpa using hy) (by simpa using hq);rwa [show n+1+i=n+(i+1) by omega]
 |[],_::_,_,hl,_=>by simp at hl
 |_::_,[],_,hl,_=>by simp at hl
theorem sw.jx {s:MS}{es:Array MapEntry}{n:Nat}{ms:List MV}(h:sw s es n ms):sC s es.toList (ms.map kn):=sw.ks (n:=0) (by simpa using h.size) (λi x m hx hm=>by rw [aaV];exact h.ent i x m (by simpa using hx) hm)
structure Ac (s:MS) (w w':World):Prop where
 size:w.heap.size<=w'.heap.size
 xj: ∀(b:Nat) (o:Obj),w.heap[b]? =some o->w'.heap[b]? =some o\/ ∃es n XQ n' new jx,o=Obj.map es n/\w'.heap[b]? =some (Obj.map XQ n')/\XQ.toList=es.toList++new/\sC s new jx/\ ∀x∈new,x.val=CJ s.b (j0 s.b)
 rest:Rest w w'
theorem fa.m {w w':World}(s:MS)(h:fa w w'):Ac s w w':=⟨h.size,λb o ho=> .inl (by rw [h.xj b (bR ho)];exact ho),h.rest⟩
theorem Ac.trans {s:MS} {w w' BT:World}(h:Ac s w w') (h':Ac s w' BT):Ac s w BT:=by
 refine ⟨adp h.size h'.size,λb o ho=> ?_,h.rest.trans h'.rest⟩;rcases h.xj b o ho with h1|⟨es,n,es1,n1,new,jx,rfl,h1,h2,h3,h4⟩
 ·exact h'.xj b o h1
 ·rcases h'.xj b _ h1 with g1|⟨XQ,n',es2,n2,auI,auJ,g0,g1,g2,g3,g4⟩
  ·exact .inr ⟨es,n,es1,n1,new,jx,rfl,g1,h2,h3,h4⟩
  ·simp only [Obj.map.injEq] at g0;obtain ⟨rfl,rfl⟩:=g0;refine .inr ⟨es,n,es2,n2,new++auI,jx++auJ,rfl,g1,by rw [g2,h2,agA],h3.append g3,λx hx=> ?_⟩;rcases aaY.1 hx with hx|hx
   ·exact h4 x hx
   ·exact g4 x hx
section
variable {P:Program}{c:Ctx}{Z:b8}{e:Env}{st:St}{a:Act} {w w':World}{R:Type}{K:St->Option R}{r:R}{Q:Exit->Act->World->Prop}{o:Oper}
theorem BW {s:MS}{sl:Slot}{v:Value} {K':Nat->List MV->Option R}(h:cF c Z e st a w)(hv:ao e v sl)(hK:M9 st s sl K'=some r): ∃root es arr n,aH st.fr root= .box [.mp s es]/\v= .map (some (e.B root))/\w.heap[e.B root]? =some (.map arr n)/\sw s arr n es/\(Z.bz root).In (e.B root)/\K' root es=some r:=by
 unfold M9 at hK;split at hK
 ·rename_i root;split at hK
  ·rename_i s' es AS;cases hm:msB s s'&&!EF s' with
   |false=>simp [hm] at hK
   |true=>
    simp only [hm,cond_true] at hK;simp only [sh,aaH] at hm;obtain ⟨hm,hit⟩:=hm;have:=VW hm;subst this;have nt:=h.slot root;rw [AS] at nt;obtain ⟨ob,h1,h2⟩:=nt.2.obj;cases ob with
    |cells arr T z=>exact absurd h2.2.AU (by simp [gY])
    |map arr n=>obtain ⟨s2,ms2,h3,_,h4⟩:=h2;simp only [aav,aT.mp.injEq,and_true] at h3;obtain ⟨rfl,rfl⟩:=h3;exact ⟨root,es,arr,n,AS,by simpa [ao] using hv,h1,h4,nt.2.dp,hK⟩
    |stringIter x n=>have h3:_=[aT.mp MS.it _]:=h2;simp only [aav,aT.mp.injEq,and_true] at h3;rw [h3.1] at hit;cases hit
    |_=>exact h2.elim
  ·cases hK
 ·cases hK
theorem Ha {s:MS}{sl:Slot}{v:Value} {K':List MV->Option R}(hv:ao e v sl)(hK:Sn s sl K'=some r): ∃ks,v=gz s.st ks/\et s.lay ks=true/\K' ks=some r:=by
 unfold Sn at hK;cases hf:gn s.lay (ba sl)&&nT s.st sl with
 |false=>simp [hf] at hK
 |true=>
  simp only [hf,cond_true] at hK;simp only [sh] at hf;cases hm:cj (ba sl) with
  |none=>simp [hm] at hK
  |some ks=>simp only [hm] at hK;obtain ⟨h1,h2⟩:=ajP hv hf.1 hf.2 hm;exact ⟨ks,h1,h2,hK⟩
theorem SR {s:MS}{es:List MV}{arr:Array MapEntry}{n:Nat}{ks:List MV}(hm:sw s arr n es): ao e ((((arr.toList[gp (es.map kn) ks]?).map λx=>x.val)).getD (CJ s.b (j0 s.b))) (GY s es ks):=by
 have IW: ∀v:MV,VE s.b v=true->(s.b=true/\v= .b (asB v))\/(s.b=false/\v= .i .i64 (asI v)):=by
  intro v hv;cases hb:s.b<;>rw [hb] at hv<;>cases v<;>simp [VE] at hv
  ·rename_i k x;cases k<;>simp [VE] at hv;exact .inr ⟨rfl,rfl⟩
  ·exact .inl ⟨rfl,rfl⟩
 unfold GY ah9 oc;rw [fE];cases ha:arr.toList[gp (es.map kn) ks]? with
 |none=>
  have:es[gp (es.map kn) ks]? =none:=by rw [adO] at ha⊢;have:=hm.size;simp at ha;omega
  rw [this];cases hb:s.b<;>simp [CJ,j0,hb]
  ·exact tK _ _
  ·exact An _
 |some x=>
  have eE:gp (es.map kn) ks<es.length:=by have h1:=(aaO.1 ha).1;have:=hm.size;simp at h1;omega
  obtain ⟨m,hmm⟩: ∃m,es[gp (es.map kn) ks]? =some m:=⟨_,IS eE⟩
  obtain ⟨_,q,v,rfl,_,_,h5,h6⟩:=hm.ent _ x m (by simpa using ha) hmm;rw [hmm];simp only [aaZ,Option.getD_some,h6,afS];rcases IW v h5 with ⟨h7,h8⟩|⟨h7,h8⟩
  ·rw [h7,h8];exact An _
  ·rw [h7,h8];exact tK _ _
theorem VY {t:TypeId}{s:MS}(ho:o.op= .makeMap t none)(hit:EF s=false)(h:cF c Z e st a w)(hK:bM c st o.dst (.box [.mp s []]) K=some r):o.wp P a w (Out c Z K r e.φ w) Q:=by
 have cV:(execOp a.eval o).run P w= .ok (.value (.map (some w.heap.size))) (w.alloc (.map #[] 0)):=by simp [execOp,ho,RowKit.run_makeMap,OF]
 have hg:fa w (w.alloc (.map #[] 0)):=by
  refine ⟨by simp,λb hb=>rV w _ b hb,⟨rfl,rfl,rfl,λx=> ?_⟩⟩;by_cases hx:x.block=w.heap.size
  ·have e1:(w.alloc (.map #[] 0)).heap[x.block]? =some (.map #[] 0):=by rw [hx];exact kb w _
   have e2:w.heap[x.block]? =none:=by rw [hx];simp
   simp [afD,e1,e2]
  ·exact afE _ _ _ hx
 refine fin cV (h.grow hg) (hg.trans h.dp _) ?_ hK;exact ⟨w.heap.size,by rw [abw (by simp [mG,hit])],⟨h.dp _ (acO _),⟨_,kb w _,s,[],rfl,hit,⟨rfl,rfl,λi x m hx=>by simp at hx⟩⟩,J6 h⟩,(BU h).1,(BU h).2⟩
theorem Zn {t:TypeId}{s:MS}{m k:Operand}(ho:o.op= .lookup t m k false)(kK:XP P t s)(h:cF c Z e st a w)(hK:M9 st s (aX c st m) (λ_ es=>Sn s (aX c st k) λks=>bM c st o.dst (GY s es ks) K)=some r):Rd P c Z K r e a w o (Ac s w):=by
 obtain ⟨hm,_⟩:=h.eval m;obtain ⟨hk,_⟩:=h.eval k;obtain ⟨root,es,arr,n,h1,h2,h3,h4,_,hK⟩:=BW h hm hK;obtain ⟨ks,h5,h6,hK⟩:=Ha hk hK;obtain ⟨kt,el,t1,t2,t3,d,t4,t5⟩:=kK.row;have Vm:=h4.jx;refine VH (v:=(((arr.toList[gp (es.map kn) ks]?).map λx=>x.val)).getD (CJ s.b (j0 s.b))) (s:=GY s es ks) (λw' hg=> ?_) h (.refl _ _ _) (.of (SR h4) ?_) hK
 ·have run: ∀(AV:Array MapEntry) (n':Nat) (jx:List (List MV)),w'.heap[e.B root]? =some (.map AV n')->sC s AV.toList jx-> (execOp a.eval o).run P w'= .ok (.value ((((AV.toList[gp jx ks]?).map λx=>x.val)).getD (CJ s.b (j0 s.b)))) w':=by
   intro AV n' jx g1 g2;have J4:=Kp (P:=P) (w:=w') h6 t4 t5 g2;cases hx:AV.toList[gp jx ks]? with
   |none=>rw [hx] at J4;simp [execOp,ho,h2,h5,Instr.lookup,run_underlying t1,OF,aaK g1,t3 _ ks _ h6,J4,t2]
   |some x=>rw [hx] at J4;simp [execOp,ho,h2,h5,Instr.lookup,run_underlying t1,OF,aaK g1,t3 _ ks _ h6,J4]
  rcases hg.xj _ _ h3 with g1|⟨es1,n1,XQ,n',new,jx,g0,g1,g2,g3,g4⟩
  ·exact run arr n _ g1 Vm
  ·simp only [Obj.map.injEq] at g0;obtain ⟨rfl,rfl⟩:=g0;have auL:sC s XQ.toList (es.map kn++jx):=by rw [g2];exact Vm.append g3
   rw [run XQ n' _ g1 auL];have hl:=Vm.length;have key:((XQ.toList[gp (es.map kn++jx) ks]?).map λx=>x.val).getD (CJ s.b (j0 s.b))=((arr.toList[gp (es.map kn) ks]?).map λx=>x.val).getD (CJ s.b (j0 s.b)):=by
    have hfa: ∀l:List (List MV),(gp l ks<l.length->gp (l++jx) ks=gp l ks)/\(gp l ks=l.length->gp (l++jx) ks=l.length+gp jx ks):=by
     intro l;induction l with
     |nil=>simp [gp]
     |cons q l ih=>
      simp only [aaN,gp,acn];cases ft q ks with
      |true=>simp
      |false=>simp only [cond_false];exact ⟨λhh=>by rw [ih.1 (by omega)],λhh=>by rw [ih.2 (by omega)];omega⟩
    rw [g2];rcases Nat.lt_or_ge (gp (es.map kn) ks) (es.map kn).length with eE|SI
    ·rw [(hfa _).1 eE,abU (by omega)]
    ·have ju:=Nat.le_antisymm (EZ (es.map kn) ks) SI;rw [(hfa _).2 ju,ju,hl,abR (by omega),show arr.toList.length+gp jx ks-arr.toList.length=gp jx ks by omega,List.getElem?_eq_none (l:=arr.toList) (by omega)];cases hx:new[gp jx ks]? with
     |none=>rfl
     |some x=>simp [g4 x (afO hx)]
   rw [key]
 ·unfold GY;cases s.b<;>trivial
theorem sD {es:List MV}{i:Nat}{v:MV}:uI es i v=match es[i]? with|some e=>es.set i (.cM [.agg (kn e),v])|none=>es:=rfl
theorem OG {b:Bool}{sl:Slot}{v:Value} {K':MV->Option R}(hv:ao e v sl)(hK:Y0 b sl K'=some r): ∃m,VE b m=true/\v=CJ b m/\K' m=some r:=by
 unfold Y0 at hK;split at hK
 ·rename_i x;exact ⟨.b x,rfl,by rw [AR hv];rfl,hK⟩
 ·rename_i n;exact ⟨.i .i64 n,rfl,by rw [mc hv];rfl,hK⟩
 ·cases hK
theorem Chg.map {es:Array MapEntry}{n g:Nat}(hh:w.heap[g]? =some (.map es n))(XQ:Array MapEntry) (n':Nat):Chg g w {w with heap:=w.heap.setIfInBounds g (.map XQ n')}:=by
 refine ⟨by simp,λb hb=>by simp [ahi hb],⟨rfl,rfl,rfl,λx=> ?_⟩⟩;unfold afD;by_cases hx:x.block=g
 ·have eE:=bR hh;have e1:(w.heap.setIfInBounds g (.map XQ n'))[x.block]? =some (.map XQ n'):=by rw [hx];simp [eE]
  rw [e1,hx,hh]
 ·simp [ahi hx]
theorem E0 {s:MS}{root:Nat}{es es2:List MV}{arr ajR:Array MapEntry}{n n2:Nat} {K':St->Option R}(h:cF c Z e st a w)(h1:aH st.fr root= .box [.mp s es])(h3:w.heap[e.B root]? =some (.map arr n))(hz:(Z.bz root).In (e.B root))(h4:sw s ajR n2 es2)(hK:HT st root s es2 K'=some r): ∃w' cB,w'={w with heap:=w.heap.setIfInBounds (e.B root) (.map ajR n2)}/\cF c Z e cB a w'/\Trans Z e.φ w e.φ w'/\K' cB=some r:=by
 unfold HT wr at hK;cases hn:bU st.dg root with
 |true=>simp [hn] at hK
 |false=>
  simp only [hn,cond_false,force_eq,oO] at hK;have J7:=Chg.map h3 ajR n2;have hit:EF s=false:=by have nt:=h.slot root;rw [h1] at nt;obtain ⟨ob,k1,k2⟩:=nt.2.obj;rw [h3] at k1;cases k1;obtain ⟨s2,ms2,k3,k4,_⟩:=k2;simp only [aav,aT.mp.injEq,and_true] at k3;rw [k3.1];exact k4
  refine ⟨_,_,rfl,?_,.chg _ J7 (R9 hz (by rw [<-h.defers.2.1,<-ck,hn];simp)),hK⟩;exact h.setObj h1 J7 (afF h3).1 ⟨s,es2,rfl,hit,h4⟩ rfl (λt=>by rw [cE]) (fZ h.nodup)
theorem SS {s:MS}{arr:Array MapEntry}{n:Nat}{es:List MV}{ks:List MV}(hm:sw s arr n es)(hf:et s.lay ks=true){v:Value}{m:MV}(hv:VE s.b m=true)(XD:v=CJ s.b m): (∀x,arr[df es ks]? =some x->x.key=gz s.st ks/\nU es ks (j0 s.b)=es/\ sw s (arr.modify (df es ks) λe=>{e with key:=gz s.st ks,val:=v}) n (uI es (df es ks) m)/\ sw s (arr.modify (df es ks) λe=>{e with key:=gz s.st ks}) n es/\x.born=df es ks)/\ (arr[df es ks]? =none->df es ks=es.length/\nU es ks (j0 s.b)=es++[.cM [.agg ks,j0 s.b]]/\ sw s (arr.push {key:=gz s.st ks,val:=v,born:=n}) (n+1) (uI (nU es ks (j0 s.b)) (df es ks) m)):=by
 have ug:=hm.size;have hle:df es ks<=es.length:=by rw [fE];have:=EZ (es.map kn) ks;simpa using this
 constructor
 ·intro x hx;have eE:df es ks<es.length:=by have h1:=(Array.getElem?_eq_some_iff.1 hx).1;omega
  obtain ⟨m0,xJ⟩: ∃m0,es[df es ks]? =some m0:=⟨_,IS eE⟩
  obtain ⟨h1,q,v0,rfl,h2,h3,h4,h5⟩:=hm.ent _ x m0 hx xJ;have hq:q=ks:=by refine Ko (jx:=es.map kn) ?_;rw [<-fE,aaT,xJ];rfl
  subst hq;have hb:BY (df es q) es.length=false:=by
   cases hb:BY (df es q) es.length with
   |false=>rfl
   |true=>have:=fj hb;omega
  refine ⟨h3,by simp [nU,hb],⟨by simp [sD,xJ,ug],by simp [sD,xJ,hm.clock],λi y p hy hp=> ?_⟩,⟨by simp [ug],hm.clock,λi y p hy hp=> ?_⟩,h1⟩
  ·rw [sD,xJ] at hp;simp only [aa1] at hy;simp only [agC] at hp;by_cases hi:df es q=i
   ·subst hi;simp [hx] at hy;simp [eE] at hp;subst hy;subst hp;exact ⟨h1,q,m,rfl,h2,rfl,hv,XD⟩
   ·simp only [hi,if_false] at hy hp;exact hm.ent i y p hy hp
  ·simp only [aa1] at hy;by_cases hi:df es q=i
   ·subst hi;simp [hx] at hy;rw [xJ] at hp;cases hp;subst hy;exact ⟨h1,q,v0,rfl,h2,rfl,h4,h5⟩
   ·simp only [hi,if_false] at hy;exact hm.ent i y p hy hp
 ·intro hx;have SI:df es ks=es.length:=by
   have h1:arr.size<=df es ks:=by simpa using hx
   omega
  have hb:BY (df es ks) es.length=true:=by rw [SI];simp
  have Zo:nU es ks (j0 s.b)=es++[.cM [.agg ks,j0 s.b]]:=by simp [nU,hb]
  have XR:uI (nU es ks (j0 s.b)) (df es ks) m=es++[.cM [.agg ks,m]]:=by rw [Zo,sD,SI];simp [kn]
  refine ⟨SI,Zo,?_⟩;rw [XR];refine ⟨by simp [ug],by simp [hm.clock],λi y p hy hp=> ?_⟩;rcases Nat.lt_trichotomy i arr.size with hi|hi|hi
  ·rw [Array.getElem?_push_lt hi] at hy;rw [abU (by omega)] at hp;exact hm.ent i y p (by rw [<-hy];simp [hi]) hp
  ·subst hi;simp at hy;rw [ug] at hp;simp at hp;subst hy;subst hp;exact ⟨by show n=_;rw [hm.clock,ug],ks,m,rfl,hf,rfl,hv,XD⟩
  ·have:(arr.push {key:=gz s.st ks,val:=v,born:=n}).size<=i:=by simp;omega
   rw [Array.getElem?_eq_none this] at hy;cases hy
theorem XS {s:MS}{arr:Array MapEntry}{n:Nat}{es:List MV}{ks:List MV}{kt:TypeId}{d:TypeDesc}(hm:sw s arr n es)(hf:et s.lay ks=true)(t4:P.underlying kt=some d)(t5:(∀a b,et s.lay a=true->et s.lay b=true->aa0 d (gz s.st a) (gz s.st b)=some (ft b a))\/ (∀a b,et s.lay a=true->et s.lay b=true->aa0 d (gz s.st a) (gz s.st b)=none/\ ∀w:World,(agY kt (gz s.st a) (gz s.st b)).run P w= .ok (ft b a) w)): (afC kt (gz s.st ks) arr.toList).run P w= .ok ((arr[df es ks]?).map λx=>(df es ks,x.val)) w:=by have:=Kp (P:=P) (w:=w) hf t4 t5 hm.jx;rw [<-fE] at this;simpa using this
theorem QA {t:TypeId}{s:MS}{m k v:Operand}(ho:o.op= .mapUpdate t m k v)(kK:XP P t s)(h:cF c Z e st a w)(hK:M9 st s (aX c st m) (λr es=>Sn s (aX c st k) λks=>Y0 s.b (aX c st v) λv=>HT st r s (uI (nU es ks (j0 s.b)) (df es ks) v) λst=>bM c st o.dst (.sc .un) K)=some r): o.wp P a w (Out c Z K r e.φ w) Q:=by
 obtain ⟨hm,_⟩:=h.eval m;obtain ⟨hk,_⟩:=h.eval k;obtain ⟨hv,_⟩:=h.eval v;obtain ⟨root,es,arr,n,h1,h2,h3,h4,hz,hK⟩:=BW h hm hK;obtain ⟨ks,h5,h6,hK⟩:=Ha hk hK;obtain ⟨mv,h7,h8,hK⟩:=OG hv hK;obtain ⟨kt,el,t1,t2,t3,d,t4,t5⟩:=kK.row;have J4:=XS (P:=P) (w:=w) h4 h6 t4 t5;obtain ⟨g1,g2⟩:=SS h4 h6 h7 h8;cases hx:arr[df es ks]? with
 |some x=>obtain ⟨k1,k2,k3,_,_⟩:=g1 x hx;rw [k2] at hK;obtain ⟨w',cB,rfl,hs,ht,hK⟩:=E0 h h1 h3 hz k3 hK;refine EN ?_ hs ht hK;simp [execOp,ho,h2,h5,Instr.mapUpdate,run_underlying t1,aaK h3,t3 _ ks _ h6,J4,hx,k1,OE h6,aaP _ h3,OF]
 |none=>obtain ⟨k1,k2,k3⟩:=g2 hx;obtain ⟨w',cB,rfl,hs,ht,hK⟩:=E0 h h1 h3 hz k3 hK;refine EN ?_ hs ht hK;simp [execOp,ho,h2,h5,Instr.mapUpdate,run_underlying t1,aaK h3,t3 _ ks _ h6,J4,hx,aaP _ h3,OF]
theorem H4 {t:TypeId}{s:MS}{m k:Operand}(ho:o.op= .mapEntry t m k)(kK:XP P t s)(h:cF c Z e st a w)(hK:M9 st s (aX c st m) (λr es=>Sn s (aX c st k) λks=>HT st r s (nU es ks (j0 s.b)) λst=>bM c st o.dst (.cM [GY s es ks,.sc (.p (.i .i64 (df es ks)))]) K)=some r): o.wp P a w (λa' w'=>Ac s w w'/\Out c Z K r e.φ w a' w') Q:=by
 obtain ⟨hm,_⟩:=h.eval m;obtain ⟨hk,_⟩:=h.eval k;obtain ⟨root,es,arr,n,h1,h2,h3,h4,hz,hK⟩:=BW h hm hK;obtain ⟨ks,h5,h6,hK⟩:=Ha hk hK;obtain ⟨kt,el,t1,t2,t3,d,t4,t5⟩:=kK.row;have J4:=XS (P:=P) (w:=w) h4 h6 t4 t5;have hv0:VE s.b (j0 s.b)=true:=by cases s.b<;>rfl
 obtain ⟨g1,g2⟩:=SS h4 h6 hv0 rfl;have hgl:=SR (e:=e) (ks:=ks) h4;rw [<-fE] at hgl;have ab6:C5 (GY s es ks)=true:=by unfold GY;cases s.b<;>rfl
 have an0: ∀(w':World) (cB:St) (u:Value),Ac s w w'->(execOp a.eval o).run P w= .ok (.value (.tuple #[u,goInt (df es ks)])) w'->cF c Z e cB a w'->Trans Z e.φ w e.φ w'-> ao e u (GY s es ks)->bM c cB o.dst (.cM [GY s es ks,.sc (.p (.i .i64 (df es ks)))]) K=some r->o.wp P a w (λa' w'=>Ac s w w'/\Out c Z K r e.φ w a' w') Q:=by
  intro w' cB u hg cV hs ht hu hK;unfold ahg;rw [cV,afH];have xO:rr Z e w' cB (.tuple #[u,goInt (df es ks)]) (.cM [GY s es ks,.sc (.p (.i .i64 (df es ks)))]):=by refine ⟨?_,trivial⟩;simp only [ao];exact ⟨_,rfl,u,[goInt (df es ks)],rfl,hu,ab6,goInt (df es ks),[],rfl,tK _ _,rfl,rfl⟩
  obtain ⟨e2,eM,k1,k2,k3⟩:=ec hs xO hK;exact ⟨hg,e2,eM,k1,by rw [k3];exact ht,k2⟩
 cases hx:arr[df es ks]? with
 |some x=>
  obtain ⟨k1,k2,_,k4,k5⟩:=g1 x hx;rw [k2] at hK;obtain ⟨w',cB,rfl,hs,ht,hK⟩:=E0 h h1 h3 hz k4 hK;have Aa:arr.modify (df es ks) (λe=>{e with key:=gz s.st ks})=arr:=by
   apply af4;intro i;rw [aa1];by_cases hi:df es ks=i
   ·subst hi;simp only [if_true,hx,aaZ];rw [<-k1]
   ·simp [hi]
  refine an0 _ _ x.val ?_ ?_ hs ht ?_ hK
  ·rw [Aa];have:w.heap.setIfInBounds (e.B root) (.map arr n)=w.heap:=by
    apply af4;intro i;rw [Array.getElem?_setIfInBounds];by_cases hi:e.B root=i
    ·subst hi;rw [h3];simp [bR h3]
    ·simp [hi]
   rw [this];exact (fa.refl w).m s
  ·simp [execOp,ho,h2,h5,Instr.mapEntry,run_underlying t1,aaK h3,t3 _ ks _ h6,J4,hx,k1,OE h6,aaP _ h3,OF,k5]
  ·have:arr.toList[df es ks]? =some x:=by simpa using hx
   rw [this] at hgl;exact hgl
 |none=>
  obtain ⟨k1,k2,k3⟩:=g2 hx;have XR:uI (nU es ks (j0 s.b)) (df es ks) (j0 s.b)=nU es ks (j0 s.b):=by rw [k2,sD,k1];simp [kn]
  rw [XR] at k3;obtain ⟨w',cB,rfl,hs,ht,hK⟩:=E0 h h1 h3 hz k3 hK;refine an0 _ _ (CJ s.b (j0 s.b)) ?_ ?_ hs ht ?_ hK
  ·have J7:=Chg.map h3 (arr.push {key:=gz s.st ks,val:=CJ s.b (j0 s.b),born:=n}) (n+1);refine ⟨by rw [J7.size];exact acO _,λb ob hb=> ?_,J7.rest⟩;by_cases VT:b=e.B root
   ·subst VT;rw [h3] at hb;cases hb;exact .inr ⟨arr,n,_,_,[{key:=gz s.st ks,val:=CJ s.b (j0 s.b),born:=n}],[ks],rfl,(afF h3).1,by simp,⟨ks,[],rfl,h6,rfl,rfl⟩,by simp⟩
   ·exact .inl (by rw [J7.other b VT];exact hb)
  ·rw [hx] at J4;simp [execOp,ho,h2,h5,Instr.mapEntry,run_underlying t1,aaK h3,t3 _ ks _ h6,J4,aaP _ h3,OF,t2,k1];rw [h4.clock]
  ·have:arr.toList[df es ks]? =none:=by simpa using hx
   rw [this] at hgl;exact hgl
theorem Nj {t:TypeId}{s:MS}{m i v:Operand}(ho:o.op= .entryStore t m i v)(h:cF c Z e st a w)(hK:M9 st s (aX c st m) (λr es=>match aX c st i with
  | .sc (.p (.i .i64 n))=>b5 (decide (0<=n/\n.toNat<es.length)) (Y0 s.b (aX c st v) λv=>HT st r s (uI es n.toNat v) λst=>bM c st o.dst (.sc .un) K)
  |_=>none)=some r):
 o.wp P a w (Out c Z K r e.φ w) Q:=by
 obtain ⟨hm,_⟩:=h.eval m;obtain ⟨hi,_⟩:=h.eval i;obtain ⟨hv,_⟩:=h.eval v;obtain ⟨root,es,arr,n,h1,h2,h3,h4,hz,hK⟩:=BW h hm hK;split at hK
 ·rename_i q hq;rw [hq] at hi;obtain ⟨hc,hK⟩:=fC hK;obtain ⟨Vl,hc2⟩:=of_decide_eq_true hc;obtain ⟨mv,h7,h8,hK⟩:=OG hv hK;have ug:=h4.size;obtain ⟨m0,xJ⟩: ∃m0,es[q.toNat]? =some m0:=⟨_,IS hc2⟩
  have eE:q.toNat<arr.size:=by omega
  have hx:arr[q.toNat]? =some arr[q.toNat]:=by simp [eE]
  obtain ⟨j1,ks,v0,rfl,j2,j3,j4,j5⟩:=h4.ent _ _ _ hx xJ;have QB:sw s (arr.modify q.toNat λe=>{e with val:=a.eval v}) n (uI es q.toNat mv):=by
   refine ⟨by simp [sD,xJ,ug],by simp [sD,xJ,h4.clock],λk y p hy hp=> ?_⟩;rw [sD,xJ] at hp;simp only [aa1] at hy;simp only [agC] at hp;by_cases hi:q.toNat=k
   ·subst hi;rw [hx] at hy;simp only [if_true,aaZ,AT] at hy;simp [hc2] at hp;subst hy;subst hp;exact ⟨j1,ks,mv,rfl,j2,j3,h7,h8⟩
   ·simp only [hi,if_false] at hy hp;exact h4.ent k y p hy hp
  have hfi:arr.findIdx? (λe=>(e.born:Int)==q)=some q.toNat:=by
   rw [Array.findIdx?_eq_some_iff_findIdx_eq];refine ⟨eE,?_⟩;rw [Array.findIdx_eq eE];refine ⟨by simp [j1];omega,λk hk=> ?_⟩;have hk':k<arr.size:=by omega
   obtain ⟨m1,hm1⟩: ∃m1,es[k]? =some m1:=⟨_,IS (by omega)⟩
   obtain ⟨b1,_⟩:=h4.ent k arr[k] m1 (by simp [hk']) hm1;simp [b1];omega
  obtain ⟨w',cB,rfl,hs,ht,hK⟩:=E0 h h1 h3 hz QB hK;refine EN ?_ hs ht hK;have hiv:=mc hi;simp only [execOp,ho,h2,hiv,Instr.entryStore,agr,aaK h3,asInt,asIntOf,Sem.run_pure,OF];rw [hfi];simp [aaP _ h3,OF]
 ·cases hK
theorem agl {x:Operand}(ho:o.op= .assign x)(h:cF c Z e st a w)(hK:Js c o st x (λs st=>bM c st o.dst s K)=some r):o.wp P a w (λa' w'=>fa w w'/\Out c Z K r e.φ w a' w') Q:=by
 have plain:bM c st o.dst (aX c st x) K=some r->o.wp P a w (λa' w'=>fa w w'/\Out c Z K r e.φ w a' w') Q:=by intro hK;obtain ⟨v,h1,h2⟩:=Qr (P:=P) (.inr ho) h hK;unfold ahg;rw [h1 w trivial,afH];exact ⟨.refl w,h2⟩
 unfold Js at hK;split at hK
 ·rename_i t _ _;split at hK
  ·rename_i cs AS;cases hm:gY cs with
   |false=>simp only [hm,cond_false] at hK;exact plain hK
   |true=>
    simp only [hm,cond_true] at hK;cases hnp:bU st.dg t||AE t with
    |true=>simp [hnp] at hK
    |false=>
     obtain ⟨hn,hpt⟩:=IT.1 hnp;simp only [hnp,cond_false,HU] at hK;have nt:=h.slot t;rw [AS] at nt;have h1:=h.drop (ds:=[t]);have hg:=JX [t] st.fr h.nodup;have tJ: ∀t' j9,aH (pj [t] st.fr) t'= .box j9->t'≠t/\aH st.fr t'= .box j9:=by
      intro t' j9 ht;rw [hg] at ht;split at ht
      ·cases ht
      ·rename_i eu;refine ⟨λhe=>eu ?_,ht⟩;subst he;simp [bU]
     have xO:rr Z e w {st with fr:=pj [t] st.fr} (a.eval (.tmp t)) (.box cs):=by refine ⟨e.B t,nt.1.1 hpt,⟨R9 nt.2.dp (by rw [<-h.defers.2.1,<-ck,hn];simp),nt.2.obj,nt.2.free⟩,λt' j9 ht=> ?_,λf o ho=>h.bf t cs f o AS ho⟩;obtain ⟨g1,g2⟩:=tJ t' j9 ht;exact h.bb t' t j9 cs g2 AS g1
     exact Y4 (w':=w) (.refl w) (by simp [execOp,ho]) h1 (.refl _ _ _) xO hK
  ·exact plain hK
 ·exact plain hK
end
end Dn
/-
  What goes through a string; a text of a row of bytes. Conditions: none.
-/
namespace Dn
open Go
section
variable {P:Program}{c:Ctx}{Z:b8}{e:Env}{st:St}{a:Act} {w w':World}{R:Type}{K:St->Option R}{r:R}{Q:Exit->Act->World->Prop}{o:Oper}
theorem XT {t:Nat}{s:MS}(h:xh c t=some s):EF s=false:=by
 unfold xh at h;split at h
 ·split at h
  ·rename_i I _;cases hi:EF ⟨I.st,I.lay,_⟩ with
   |true=>rw [hi] at h;cases h
   |false=>rw [hi] at h;cases h;exact hi
  ·cases h
 ·cases h
theorem ab7 {t:TypeId}{x:Operand}{I:TI}(ho:o.op= .range t x)(hI:c.tv t=some I)(hT:lS P c.ti)(h:cF c Z e st a w)(hK:Vw I (aX c st x) (λs=>bM c st o.dst s K)=some r):o.wp P a w (Out c Z K r e.φ w) Q:=by
 obtain ⟨qe,hc⟩:=cz hI;obtain ⟨hx,_⟩:=h.eval x;generalize aX c st x=s' at hx hK;unfold Vw at hK;split at hK
 ·rename_i l;cases hS:I.isS with
  |false=>simp [hS] at hK
  |true=>
   simp only [hS,cond_true] at hK;have hu:=TI.Kb (hT t I qe) hS;obtain ⟨b,hb,rfl⟩:=HV hx;have cV:(execOp a.eval o).run P w= .ok (.value (.pointer (some ⟨w.heap.size,0,none⟩))) (w.alloc (.stringIter b 0)):=by simp [execOp,ho,hb,run_range_string w t b hu,World.iter,OF]
   have hg:fa w (w.alloc (.stringIter b 0)):=by
    refine ⟨by simp,λk hk=>rV w _ k hk,⟨rfl,rfl,rfl,λx=> ?_⟩⟩;by_cases hx:x.block=w.heap.size
    ·have e1:(w.alloc (.stringIter b 0)).heap[x.block]? =some (.stringIter b 0):=by rw [hx];exact kb w _
     have e2:w.heap[x.block]? =none:=by rw [hx];simp
     simp [afD,e1,e2]
    ·exact afE _ _ _ hx
   refine fin cV (h.grow hg) (hg.trans h.dp _) ?_ hK;exact ⟨w.heap.size,by rw [VF rfl],⟨h.dp _ (acO _),⟨_,kb w _,rfl⟩,J6 h⟩,(BU h).1,(BU h).2⟩
 ·cases hK
theorem Chg.iter {s:ByteArray}{n g:Nat}(hh:w.heap[g]? =some (.stringIter s n)) (n':Nat):Chg g w {w with heap:=w.heap.setIfInBounds g (.stringIter s n')}:=by
 refine ⟨by simp,λb hb=>by simp [ahi hb],⟨rfl,rfl,rfl,λx=> ?_⟩⟩;unfold afD;by_cases hx:x.block=g
 ·have eE:=bR hh;have e1:(w.heap.setIfInBounds g (.stringIter s n'))[x.block]? =some (.stringIter s n'):=by rw [hx];simp [eE]
  rw [e1,hx,hh]
 ·simp [ahi hx]
theorem agm {x:Operand}(ho:o.op= .next x true)(h:cF c Z e st a w)(hK:itK st (aX c st x) (λs st=>bM c st o.dst s K)=some r):o.wp P a w (Out c Z K r e.φ w) Q:=by
 obtain ⟨hx,_⟩:=h.eval x;generalize aX c st x=s' at hx hK;unfold itK at hK;split at hK
 ·rename_i t;split at hK
  ·rename_i s es AS;cases hit:EF s with
   |false=>simp [hit] at hK
   |true=>
    simp only [hit,cond_true] at hK;have nt:=h.slot t;rw [AS] at nt;obtain ⟨ob,h1,h2⟩:=nt.2.obj;cases ob with
    |cells arr T z=>exact absurd h2.2.AU (by simp [gY])
    |map arr n=>obtain ⟨s2,ms2,h3,h4,_⟩:=h2;simp only [aav,aT.mp.injEq,and_true] at h3;rw [h3.1,h4] at hit;cases hit
    |stringIter b pos=>
     have h3:_=[aT.mp MS.it _]:=h2;simp only [aav,aT.mp.injEq,and_true] at h3;obtain ⟨rfl,rfl⟩:=h3;simp only [ao] at hx;cases QB:afT [.s b.data.toList,.i .i64 (pos:Int)] with
     |true=>
      rw [QB] at hK;simp only [aR] at hK;have eE:pos<b.size:=by simpa [afT,C3,itS] using QB
      unfold wr at hK;cases hn:bU st.dg t with
      |true=>simp [hn] at hK
      |false=>
       simp only [hn,cond_false,force_eq,oO] at hK;have hb:(⟨b.data.toList.toArray⟩:ByteArray)=b:=by cases b;simp
       have J7:=Chg.iter h1 (pos+(agQ b pos).2);have hs:=h.setObj (j9:=[.mp MS.it (Vv [.s b.data.toList,.i .i64 (pos:Int)])]) AS J7 (afF h1).1 (by show _=_;simp [Vv,itS,C3,hb]) rfl (λt=>by rw [cE]) (fZ h.nodup);have cV:(execOp a.eval o).run P w= .ok (.value (.tuple #[.bool true,.int .i64 pos,.int .i32 (agQ b pos).1])) {w with heap:=w.heap.setIfInBounds (e.B t) (.stringIter b (pos+(agQ b pos).2))}:=by simp [execOp,ho,hx,Instr.next,getObj,setObj,Sem.run,h1,eE,OF,goInt]
       refine fin (s:= .cM [.sc (.p (.b true)),.sc (.p (.i .i64 (C3 [.s b.data.toList,.i .i64 (pos:Int)]))),.sc (.p (.i .i32 (Vu [.s b.data.toList,.i .i64 (pos:Int)])))]) cV hs (.chg _ J7 (R9 nt.2.dp (by rw [<-h.defers.2.1,<-ck,hn];simp))) ⟨?_,trivial⟩ hK;simp only [ao,C3,Vu,itS,hb,Int.toNat_natCast];exact ⟨_,rfl,.bool true,_,rfl,An _,rfl,goInt pos,_,rfl,tK _ _,rfl,_,[],rfl,tK _ _,rfl,rfl⟩
     |false=>
      rw [QB] at hK;simp only [aR] at hK;have eE: ¬pos<b.size:=by simpa [afT,C3,itS] using QB
      have cV:(execOp a.eval o).run P w= .ok (.value (.tuple #[.bool false])) w:=by simp [execOp,ho,hx,Instr.next,getObj,setObj,Sem.run,h1,eE,OF,goInt]
      refine fin (s:= .cM [.sc (.p (.b false))]) cV h (.refl _ _ _) ⟨?_,trivial⟩ hK;simp only [ao];exact ⟨_,rfl,.bool false,_,rfl,An _,rfl,rfl⟩
    |_=>exact h2.elim
  ·cases hK
 ·cases hK
theorem OH {R:Type}{r:R}: ∀{xs:List MV} {K:List UInt8->Option R},Na xs K=some r-> ∃ns:List Int,xs=ns.map (MV.i .u8)/\K (ns.map λn=>afs n.toNat)=some r:=by
 intro xs;induction xs with
 |nil=>intro K h;exact ⟨[],rfl,h⟩
 |cons m xs ih=>
  intro K h;simp only [Na,byK] at h;cases m with
  |i k n=>
   simp only [gI] at h;by_cases hk:k= .u8
   ·subst hk;simp only [decide_true,cond_true] at h;obtain ⟨_,h1⟩:=fC h;obtain ⟨ns,hx,h2⟩:=ih h1;exact ⟨n::ns,by rw [hx];rfl,h2⟩
   ·simp [hk] at h
  |_=>simp [gI] at h
theorem ab8 {y t:TypeId}{x:Operand}{Y I:TI}(ho:o.op= .convert y t x)(hY:c.tv y=some Y)(hI:c.tv t=some I)(hL:Y.BS=true)(hT:lS P c.ti)(h:cF c Z e st a w)(hK:abd c st Y I (aX c st x) (λs=>bM c st o.dst s K)=some r):Rd P c Z K r e a w o (fa w):=by
 obtain ⟨hyi,_⟩:=cz hY;obtain ⟨qe,_⟩:=cz hI;obtain ⟨hx,_⟩:=h.eval x;generalize aX c st x=s' at hx hK;obtain ⟨hu,_⟩:=TI.nW (hT y Y hyi) hL;unfold abd at hK;cases hE:c.tv Y.elem with
 |none=>simp [hE] at hK
 |some E=>
  obtain ⟨uh,_⟩:=cz hE;simp only [hE] at hK;cases hSU:I.isS&&YY E with
  |false=>simp [hSU] at hK
  |true=>
   simp only [hSU,cond_true] at hK;simp only [sh] at hSU;have hd:=TI.Kb (hT t I qe) hSU.1;obtain ⟨he,ug⟩:=XJ (hT _ E uh) hSU.2;have go: ∀(ns:List Int),(∀w':World,fa w w'->(convert y t (a.eval x)).run P w'= .ok (.string (strOfNums ns)) w')->bM c st o.dst (.sc (.p (.s (ns.map λn=>afs n.toNat)))) K=some r-> Rd P c Z K r e a w o (fa w):=by intro ns cV hK;refine VH (s:= .sc (.p (.s (ns.map λn=>afs n.toNat)))) (v:= .string (strOfNums ns)) (λw' hg=>by simp [execOp,ho,cV w' hg,OF]) h (.refl _ _ _) (.of ?_ trivial) hK;rw [<-strOfNums_data];exact aby _
   have auM:a.eval x= .slice none 0 0->bM c st o.dst (.sc (.p (.s []))) K=some r->Rd P c Z K r e a w o (fa w):=by intro hv hK;refine go [] (λw' hg=> ?_) hK;rw [hv,run_convert_bytes_nil w' y _ hu he 0 0 t hd];rfl
   split at hK
   ·rename_i xs;obtain ⟨ns,hns,yS⟩:=OH hK;refine go ns (λw' hg=> ?_) yS;clear hK;subst hns;simp only [ao,bo] at hx;obtain ⟨_,hx⟩:=hx;generalize hv:[a.eval x]=vs at hx;cases hx;rename_i ad cap bO off Oq f h1 h2 h3 h4 h5;simp only [aav,and_true] at hv;rw [hv];have hlen:(ns.map (MV.i .u8)).length=ns.length:=agV ..;have h5: ∀(i:Nat) (hi:i<ns.length),nr e.key e.φ (f i) (.i .u8 ns[i]):=λi hi=>by have:=h5 i (by rw [hlen];exact hi);rwa [List.getElem_map] at this
    rw [hlen] at h1 h2 h3 h4⊢;cases ns with
    |nil=>rw [run_convert_bytes_string w' y t _ _ _ _ hu he hd];cases ad<;>simp [Conv.bytesToString,loadCells,loadCellsFrom,OF,strOfNums]<;>rfl
    |cons n ns=>
     have h5': ∀(i:Nat) (hi:i<(n::ns).length),f i=[.int .u8 (n::ns)[i]]:=by intro i hi;have:=h5 i hi;generalize f i=q at this;cases this;rfl
     have auN:Oq=1:=by rw [<-h3 0 (by simp),h5' 0 (by simp)];rfl
     subst auN;rw [h2 (by simp)];refine run_convert_bytes_arg w' y _ hu he bO off _ cap (n::ns) rfl (λi hi=> ?_) t hd;have h6:=h4 i 0 hi (by omega);rw [h5' i hi] at h6;simp only [Nat.mul_one,Nat.add_zero,acn,Nat.zero_lt_succ,List.getElem?_cons_zero] at h6;rw [hg.cell (h.q9 _ _ _ h6),adL,IS hi];rfl
   ·refine auM ?_ hK;simpa [ao,bo] using hx
   ·rename_i f;cases hf:bj st.bA f with
    |none=>simp [hf] at hK
    |some ow=>
     simp only [hf] at hK;cases kK:BY ow.ty Y.elem with
     |false=>simp [kK] at hK
     |true=>
      simp only [kK,cond_true] at hK;have kK:=fj kK;obtain ⟨ns,hns,yS⟩:=OH hK;clear hK;obtain ⟨hv,_⟩:=tO h hx hf;refine go ns (λw' hg=> ?_) yS;obtain ⟨J,cells,k1,k2,k3,k4,k5⟩:=(h.jr f ow hf).row;rw [kK,uh] at k1;cases k1;rw [ug] at k3 k4;rw [hns] at k3 k4;have bV: ∀(ns:List Int) (cells:List Value),bQ e.key e.φ 1 cells (ns.map (MV.i .u8))->cells=ns.map (ahq .u8):=by
       intro ns;induction ns with
       |nil=>intro cells hc;exact hc
       |cons n ns ih=>intro cells hc;obtain ⟨v,q,rfl,_,hr,hc⟩:=hc;cases hr;rw [ih _ hc];rfl
      have hce:=bV _ _ k4;subst hce;rw [hv];rw [agV] at k3;rcases k3.2 with ⟨q1,q2⟩|⟨g,cap,gV,q1,_,q2,q3,q4,q5,q6⟩
      ·have:ns=[]:=List.eq_nil_of_length_eq_zero q2;subst this;rw [q1,run_convert_bytes_nil w' y _ hu he 0 0 t hd];rfl
      ·rw [q1];refine run_convert_bytes_arg w' y _ hu he g 0 _ cap ns rfl (λi hi=> ?_) t hd;refine hg.cell ?_;rw [aaV,cell_of q2];have hi2:(gV.toList.take (ns.length *1))[i]? =some (.int .u8 (ns.getD i 0)):=by rw [q6,aaT,adL,IS hi];rfl
       rw [af5] at hi2;split at hi2
       ·simpa using hi2
       ·cases hi2
   ·cases hK
end
end Dn
/-
  Slices of new elements. Conditions: none.
-/
namespace Dn
open Go
section
variable {P:Program}{c:Ctx}{Z:b8} {e e':Env}{st:St}{a:Act} {w w':World}{R:Type}{K:St->Option R}{r:R}{Q:Exit->Act->World->Prop}{o:Oper}
theorem aca {t:TypeId}{I:TI}(hI:c.tv t=some I)(hT:lS P c.ti): ∃i z,P.info? t=some i/\i.zero=some z/\aM e z.cells.toList I.zero:=by
 obtain ⟨qe,hc⟩:=cz hI;obtain ⟨d,i,h1,h2,h3,h4⟩:=hT t I qe;suffices hz: ∃z,i.zero=some z/\aM e z.cells.toList I.zero by obtain ⟨z,h5,h6⟩:=hz;exact ⟨i,z,h2,h5,h6⟩
 cases d<;>simp only [uL] at h4;case struct fs=>obtain ⟨_,_,_,_,_,_,cs,hz,hl,_⟩:=h4;exact ⟨_,hz,by simpa [acW] using mJ hl⟩
 case tuple ts=>exact absurd hc h4.2.1
 case slice el=>obtain ⟨_,_,_,_,_,hz,hl,_⟩:=h4;exact ⟨_,hz,by rw [hl];exact ⟨[.slice none 0 0],[],rfl,rfl,rfl⟩⟩
 case array n el=>obtain ⟨_,_,_,_,_,_,_,hl,hz⟩:=h4;exact ⟨_,hz,by rw [hl];exact ⟨bV lp.zero,[],by simp [acW],rfl,rfl⟩⟩
 case bool=>obtain ⟨_,_,_,_,hl,hz⟩:=h4;exact ⟨_,hz,by rw [hl];exact ⟨[.bool false],[],rfl,⟨rfl,.b _⟩,rfl⟩⟩
 case int k=>obtain ⟨_,_,_,_,hl,hz⟩:=h4;exact ⟨_,hz,by rw [hl];exact ⟨[.int k 0],[],rfl,⟨rfl,.i _ _⟩,rfl⟩⟩
 case string=>obtain ⟨_,_,_,_,hl,b,hz,hb⟩:=h4;refine ⟨_,hz,by rw [hl];refine ⟨[.string b],[],rfl,⟨rfl,?_⟩,rfl⟩;rw [<-hb];exact .s b⟩
 all_goals
  obtain ⟨_,_,_,_,v,hz,hv,hl⟩:=h4;refine ⟨v,hz,?_⟩;have:v.cells.toList=[v]:=by cases v<;>simp_all [acW,Value.oneCell']
  rw [this];exact mJ hl
theorem aM.an3 {cs:List aT}: ∀{vs:List Value} {ms:List MV},aM e vs cs->AL cs=some ms->jt e.key e.φ vs ms:=by
 induction cs with
 |nil=>intro vs ms h hm;cases h;simp [AL] at hm;subst hm;exact .nil
 |cons l r ih=>
  intro vs ms h hm;obtain ⟨v,u,rfl,h1,h2⟩:=h;cases hr:AL r with
  |none=>cases l<;>simp [AL,hr] at hm
  |some q=>
   cases l<;>simp [AL,hr] at hm
   ·subst hm;exact .cons v _ u q h1.2 (ih h2 hr)
   ·subst hm;have h1:v=bV _:=h1;subst h1;exact .cons _ _ u q (.h _) (ih h2 hr)
   ·subst hm;have h1:v=[.slice none 0 0]:=h1;subst h1;exact .cons _ _ u q (.list none 0 [] 0 0 0 (λ_=>[]) (acO _) (λh=>absurd h (Nat.lt_irrefl _)) (λ_ h=>absurd h (afI _)) (λ_ _ h=>absurd h (afI _)) (λ_ h=>absurd h (afI _))) (ih h2 hr)
theorem Zp {b:Bool}{ms:List MV}{x:MV}{vs:List Value}(h:jt e.key e.φ vs ms)(hx:xg b ms=some x):nr e.key e.φ vs x:=by
 cases b with
 |true=>cases ms<;>simp [xg] at hx<;>subst hx<;>exact .agg _ _ h
 |false=>
  cases ms with
  |nil=>simp [xg] at hx
  |cons m ms=>
   cases ms with
   |cons y ys=>simp [xg] at hx
   |nil=>
    simp [xg] at hx;subst hx;generalize C9:vs=Vi at h;cases h with
    |cons v _ u _ h1 h2=>cases h2;simpa using h1
theorem OI (z:Array Value)(hz:0<z.size): ∀n:Nat,(madeCells z (n *z.size)).toList=(aaR n z.toList).flatten
 |0=>by simp [madeCells]
 |n+1=>by
  have ih:=OI z hz n;unfold madeCells at ih⊢;rw [abY,Array.toList_range] at ih⊢;rw [Nat.succ_mul,List.range_add,List.map_append,ih,List.replicate_succ',List.flatten_append];congr 1;simp only [List.flatten_cons,List.flatten_nil,agW,List.map_map];apply agG;intro k;rw [aaT];by_cases hk:k<z.size
  ·rw [afQ hk];simp only [aaZ,Function.comp];rw [show (n *z.size+k)%z.size=k by rw [Nat.mul_comm,Nat.mul_add_mod,Nat.mod_eq_of_lt hk]];simp [hk]
  ·simp [hk,show z.size<=k by omega]
theorem De {key:Nat->Nat} {φ:Ph}{size:Nat}{vs:List Value}{x:MV}(hl:vs.length=size)(h:nr key φ vs x): ∀n,bQ key φ size (aaR n vs).flatten (aaR n x)
 |0=>rfl
 |n+1=>⟨vs,(aaR n vs).flatten,by simp [List.replicate_succ],hl,h,De hl h n⟩
theorem QC {t:TypeId}{x y:Operand}{I E:TI}(ho:o.op= .makeSlice t x y)(hI:c.tv t=some I)(hL:I.BS=true)(hE:c.tv I.elem=some E)(hT:lS P c.ti)(h:cF c Z e st a w)(hK:aa3 (o.dst.getD 0) st I E (aX c st x) (aX c st y) (λs st=>bM c st o.dst s K)=some r): o.wp P a w (λa' w'=>fa w w'/\Out c Z K r e.φ w a' w') Q:=by
 obtain ⟨qe,hc⟩:=cz hI;obtain ⟨uh,xk⟩:=cz hE;obtain ⟨hu,E2,HZ,_,jv⟩:=TI.nW (hT t I qe) hL;rw [uh] at HZ;cases HZ;obtain ⟨hx,_⟩:=h.eval x;obtain ⟨hy,_⟩:=h.eval y;generalize aX c st x=sx at hx hK;generalize aX c st y=sy at hy hK;unfold aa3 at hK;split at hK;rotate_left
 ·cases hK
 rename_i k1 n k2 m;cases hb:afA 1 E.bytes with
 |false=>simp [hb] at hK
 |true=>
 simp only [hb,cond_true] at hK;have hb:=abf hb;obtain ⟨hn,hK'⟩:=fC hK;clear hK;have hK:=hK';clear hK';have hn:=of_decide_eq_true hn;obtain ⟨h0,hnm,kZ⟩:=hn;subst hnm;cases hzs:AL E.zero with
 |none=>simp [hzs] at hK
 |some zs=>
 simp only [hzs] at hK;cases hre:xg E.st zs with
 |none=>simp [hre] at hK
 |some z0=>
 simp only [hre] at hK;obtain ⟨i,z,hi,hz,hlr⟩:=aca (e:=e) hE hT;obtain ⟨i',z',hi',hs,hby,hz',acb⟩:=xR (hT _ E uh) xk;rw [hi] at hi';cases hi';rw [hz] at hz';cases hz';have iw:nr e.key e.φ z.cells.toList z0:=Zp (hlr.an3 hzs) hre;have ev1:a.eval x= .int k1 n:=mc hx;have ev2:a.eval y= .int k2 n:=mc hy;have hnb:n<=n *(E.bytes:Int):=by have:n *1<=n *(E.bytes:Int):=Int.mul_le_mul_of_nonneg_left (by omega) h0;omega
 have an4:=run_make (P:=P) w t I.elem i z hu hi hz k1 k2 n n h0 (Int.le_refl _) (by rw [hby,Int.mul_comm];omega) (by omega);have cV:(execOp a.eval o).run P w= .ok (.value (.slice (some ⟨w.heap.size,0,none⟩) n.toNat n.toNat)) (w.alloc (.cells (madeCells z.cells (n.toNat *i.size)) I.elem)):=by simp [execOp,ho,ev1,ev2,an4]
 rw [hs,<-acb] at cV;have hg:fa w (w.alloc (.cells (madeCells z.cells (n.toNat *z.cells.size)) I.elem)):= .alloc w _ _;have XM:(madeCells z.cells (n.toNat *z.cells.size)).toList=(aaR n.toNat z.cells.toList).flatten:=OI _ (by rw [acb];exact jv) _;have qf:=De (size:=E.size) (by rw [afR];exact acb) iw n.toNat;rw [<-XM] at qf;have hlen:(aaR n.toNat z0).length=n.toNat:=List.length_replicate;have ug:(madeCells z.cells (n.toNat *z.cells.size)).toList.length=n.toNat *E.size:=by rw [afR,size_madeCells,acb]
 have HY: ∀off,e.φ w.heap.size off=none:=by
  intro off;cases hp:e.φ w.heap.size off with
  |none=>rfl
  |some u=>have:=World.block_lt_of_cell? w _ (h.q9 _ _ _ hp);simp at this
 have DP:=h.npf hK;have hK:=ui hK;have mK:eD c Z.nc e (w.alloc (.cells (madeCells z.cells (n.toNat *z.cells.size)) I.elem)) (.slice (some ⟨w.heap.size,0,none⟩) n.toNat n.toNat) ⟨I.elem,false,aaR n.toNat z0⟩:=by
  refine ⟨E,_,uh,xk,⟨?_,.inr ⟨w.heap.size,n.toNat,_,?_,ahm _,kb w _,?_,?_,?_,?_⟩⟩,qf,?_⟩
  ·simp [ug,hlen]
  ·simp [hlen]
  ·simp [hlen]
  ·simp [hlen,Go.maxLen];omega
  ·simp [size_madeCells,acb,hlen]
  ·show List.take _ _=_;rw [List.take_of_length_le (by simp [ug,hlen])]
  ·intro bO lT;simp [IN] at lT;subst lT;refine ⟨h.dp _ (acO _),λoff u hu=>(by rw [HY] at hu;cases hu),λhc=>agX hc⟩
 have tP:=h.kW (f:=o.dst.getD 0) DP mK hg.size (λb Nf _=>hg.xj b Nf) (λb off u hu=>hg.cell (h.q9 b off u hu)) (λb lT=>by simp [IN] at lT;exact .inl (by omega));exact Y4 (s:= .sc (.own (o.dst.getD 0))) hg cV tP (hg.trans h.dp _) (.of (xQ rfl) trivial) hK
end
end Dn
/-
  Variables that are handed to functions. Conditions: none.
-/
namespace Dn
open Go
def XU:List (Nat×Nat)->Nat->Nat
 |[],_=>0
 |(f,x)::r,g=>if f=g then x else XU r g
def QD (E:Nat->Value)(ps:List (Nat×Nat))(f:Nat):Value:=match XU ps f with
 |0=> .slice none 0 0
 |g+1=>E g
structure QE (ps:List (Nat×Nat)):Prop where
 fn: ∀f x y,(f,x)∈ps->(f,y)∈ps->x=y
 inj: ∀f f' g,(f,g+1)∈ps->(f',g+1)∈ps->f=f'
theorem QE.nil:QE []:=⟨λ_ _ _ h=>by simp at h,λ_ _ _ h=>by simp at h⟩
theorem BX {ps:List (Nat×Nat)}(h:QE ps){f x:Nat}(hm:(f,x)∈ps):XU ps f=x:=by
 have hfn:=h.fn;clear h;induction ps with
 |nil=>simp at hm
 |cons p ps ih=>
  obtain ⟨a,b⟩:=p;unfold XU;by_cases ha:a=f
  ·subst ha;rw [if_pos rfl];exact hfn a b x (by simp) hm
  ·rw [if_neg ha];rcases AI.1 hm with h1|h1
   ·simp only [aaJ] at h1;exact absurd h1.1.symm ha
   ·exact ih h1 (λf x y h1 h2=>hfn f x y (by simp [h1]) (by simp [h2]))
theorem VZ {ps:List (Nat×Nat)}{f g:Nat}(h:nV ps f g=true):(∀b,(f,b)∈ps->b=g/\g≠0)/\(∀x,(x,g)∈ps->x≠f->g=0):=by
 induction ps with
 |nil=>simp
 |cons p ps ih=>
  obtain ⟨x,y⟩:=p;simp only [nV,sh,fc] at h;obtain ⟨h1,h2⟩:=h;obtain ⟨i1,i2⟩:=ih h2;refine ⟨?_,?_⟩
  ·intro b hb;rcases AI.1 hb with hb|hb
   ·cases hb;simp at h1;exact ⟨h1.1,h1.2⟩
   ·exact i1 b hb
  ·intro z hz eu;rcases AI.1 hz with hz|hz
   ·cases hz;simp [eu] at h1;exact h1
   ·exact i2 z hz eu
theorem QE.add {ps:List (Nat×Nat)}{f g:Nat}(h:QE ps)(hp:nV ps f g=true):QE ((f,g)::ps):=by
 obtain ⟨p1,p2⟩:=VZ hp;refine ⟨λa x y hx hy=> ?_,λa b k hx hy=> ?_⟩
 ·rcases AI.1 hx with hx|hx<;>rcases AI.1 hy with hy|hy
  ·cases hx;cases hy;rfl
  ·cases hx;exact (p1 y hy).1.symm
  ·cases hy;exact (p1 x hx).1
  ·exact h.fn a x y hx hy
 ·rcases AI.1 hx with Ka|Ka<;>rcases AI.1 hy with hy1|hy1
  ·cases Ka;cases hy1;rfl
  ·cases Ka;by_cases hb:b=f
   ·exact hb.symm
   ·have:=p2 b hy1 hb;omega
  ·cases hy1;by_cases hb:a=f
   ·exact hb
   ·have:=p2 a Ka hb;omega
  ·exact h.inj a b k Ka hy1
inductive TC (st:St):List (Nat×Nat)->List LK->List aT->List MV->List (Nat×Nat)->Prop
 |nil (ps):TC st ps [] [] [] ps
 |QF {ps ks ls ms kM}:TC st ps ks ls ms kM->TC st ps (.k .l::ks) (.nil::ls) (.list []::ms) kM
 |hs {ps ks ls ms kM} (x:lp):TC st ps ks ls ms kM->TC st ps (.k .h::ks) (.hs x::ls) (.h x::ms) kM
 |p {ps ks ls ms kM} (x:Kd) (m:MV) (l':aT):lq x m some=some l'->TC st ps ks ls ms kM->TC st ps (.k x::ks) (.p m::ls) (m::ms) kM
 |own {ps ks ls ms kM} (f ty:Nat) (fB:Bool) (g:Nat) (o:pY):bj st.bA g=some o->o.ty=ty->(o.fB=true->fB=true)->g∉st.dt->nV ps f (g+1)=true-> TC st ((f,g+1)::ps) ks ls ms kM->TC st ps (.own f ty fB::ks) (.own g::ls) (.list o.xs::ms) kM
 |zg {ps ks ls ms kM} (f ty:Nat) (fB:Bool):nV ps f 0=true->TC st ((f,0)::ps) ks ls ms kM->TC st ps (.own f ty fB::ks) (.nil::ls) (.list []::ms) kM
theorem Kq {R:Type}{k:Kd}{m:MV}{l:aT}{K:aT->Option R}(h:lq k m some=some l):lq k m K=K l:=by
 unfold lq gB gI gS gL gH gR at h⊢;cases k<;>cases m<;>simp at h⊢ <;>try (subst h;rfl)
 ·rename_i k k' n;by_cases hk:k'=k
  ·simp [hk] at h⊢;subst h;rfl
  ·simp [hk] at h
theorem BZ {R:Type}{r:R}{k:Kd}{m:MV}{K:aT->Option R}(h:lq k m K=some r): ∃l,lq k m some=some l/\K l=some r:=by
 unfold lq gB gI gS gL gH gR at h⊢;cases k<;>cases m<;>simp at h⊢ <;>try exact h
 ·rename_i k k' n;by_cases hk:k'=k
  ·simp [hk] at h⊢;exact h
  ·simp [hk] at h
theorem Kr {st:St}{ks:List LK}: ∀{R:Type} {r:R} {ps:List (Nat×Nat)} {ls:List aT} {K':List MV->List (Nat×Nat)->Option R},mb st ps ks ls K'=some r-> ∃ms kM,TC st ps ks ls ms kM/\K' ms kM=some r:=by
 induction ks with
 |nil=>
  intro R r ps ls K' h;cases ls with
  |nil=>exact ⟨[],ps,.nil ps,h⟩
  |cons=>simp [mb] at h
 |cons k ks ih=>
  intro R r ps ls K' h;cases ls with
  |nil=>simp [mb] at h
  |cons l ls=>
   simp only [mb] at h;unfold Ql at h;split at h
   ·obtain ⟨ms,kM,h1,h⟩:=ih h;exact ⟨_,_,.QF h1,h⟩
   ·obtain ⟨ms,kM,h1,h⟩:=ih h;exact ⟨_,_,.hs _ h1,h⟩
   ·obtain ⟨l',h0,h⟩:=BZ h;obtain ⟨ms,kM,h1,h⟩:=ih h;exact ⟨_,_,.p _ _ l' h0 h1,h⟩
   ·rename_i f ty fB g;cases ho:bj st.bA g with
    |none=>simp [ho] at h
    |some o=>
     simp only [ho] at h;cases hc:!BY o.ty ty||(o.fB&&!fB)||bU st.dt g||!nV ps f (g+1) with
     |true=>simp [hc] at h
     |false=>
      simp only [hc,cond_false] at h;simp only [IT,aaX] at hc;obtain ⟨⟨⟨h1,h2⟩,h3⟩,h4⟩:=hc;obtain ⟨ms,kM,h5,h⟩:=ih h;refine ⟨_,_,.own f ty fB g o ho (fj h1) ?_ ?_ h4 h5,h⟩
      ·intro hz;rw [hz] at h2;simpa using h2
      ·rw [<-ck,h3];simp
   ·rename_i f ty fB;cases hc:nV ps f 0 with
    |false=>simp [hc] at h
    |true=>simp only [hc,cond_true] at h;obtain ⟨ms,kM,h5,h⟩:=ih h;exact ⟨_,_,.zg f ty fB hc h5,h⟩
   ·simp at h
theorem TC.ps {st:St}{ps kM:List (Nat×Nat)}{ks:List LK}{ls:List aT}{ms:List MV}(h:TC st ps ks ls ms kM):QE ps->QE kM/\ ∀p∈ps,p∈kM:=by
 induction h with
 |nil=>exact λh=>⟨h,λ_ h=>h⟩
 |QF _ ih=>exact ih
 |hs _ _ ih=>exact ih
 |p _ _ _ _ _ ih=>exact ih
 |own f ty fB g o _ _ _ _ hp _ ih=>intro h;obtain ⟨h1,h2⟩:=ih (h.add hp);exact ⟨h1,λp hm=>h2 p (by simp [hm])⟩
 |zg f ty fB hp _ ih=>intro h;obtain ⟨h1,h2⟩:=ih (h.add hp);exact ⟨h1,λp hm=>h2 p (by simp [hm])⟩
def an6 (st:St)(ps:List (Nat×Nat))(ks:List LK)(f:Nat)(o:pY):Prop:=LK.own f o.ty o.fB∈ks/\((∃g o3,(f,g+1)∈ps/\bj st.bA g=some o3/\o3.ty=o.ty/\o3.xs=o.xs/\(o3.fB=true->o.fB=true)/\g∉st.dt)\/((f,0)∈ps/\o.xs=[]))
theorem agn {e:Env}{st:St}{psF:List (Nat×Nat)}(Db:QE psF){ps kM:List (Nat×Nat)}{ks:List LK}{ls:List aT}{ms:List MV}(h:TC st ps ks ls ms kM)(he:e.m=st.bA):(∀p∈kM,p∈psF)-> ∀{vs:List Value},aM e vs ls-> ∀(m0:List (Nat×pY)),∃cs m1,(∀{R:Type} (K:List aT->List MV->St->Option R) (rest:List MV),dK ⟨[],[],[],m0⟩ ks (ms++rest) K=K cs rest ⟨[],[],[],m1⟩)/\ (∀e2:Env,e2.key=e.key->e2.φ=e.φ->(∀f,e2.E f=QD e.E psF f)->aM e2 vs cs)/\(∀f o,bj m1 f=some o->bj m0 f=some o\/an6 st psF ks f o):=by
 induction h with
 |nil=>intro _ vs hl m0;cases hl;exact ⟨[],m0,λK rest=>rfl,λe2 _ _ _=>rfl,λf o h=> .inl h⟩
 |QF _ ih=>
  intro lz vs hl m0;obtain ⟨v,u,rfl,h1,h2⟩:=hl;obtain ⟨cs,m1,g1,g2,g3⟩:=ih lz h2 m0;have h1:v=[.slice none 0 0]:=h1;subst h1;refine ⟨.p (.list [])::cs,m1,λK rest=> ?_,λe2 q1 q2 q3=>⟨_,u,rfl,⟨rfl,.list none 0 [] 0 0 0 (λ_=>[]) (by simp) (by simp) (by simp) (by simp) (by simp)⟩,g2 e2 q1 q2 q3⟩,λf o h=> ?_⟩
  ·show dK _ _ _ _=_;simp only [dK,gC,aaN,mH,lq,gL];exact g1 _ rest
  ·rcases g3 f o h with h|⟨h,h'⟩
   ·exact .inl h
   ·exact .inr ⟨aaI _ h,h'⟩
 |hs x _ ih=>
  intro lz vs hl m0;obtain ⟨v,u,rfl,h1,h2⟩:=hl;obtain ⟨cs,m1,g1,g2,g3⟩:=ih lz h2 m0;refine ⟨.hs x::cs,m1,λK rest=> ?_,λe2 q1 q2 q3=>⟨v,u,rfl,h1,g2 e2 q1 q2 q3⟩,λf o h=> ?_⟩
  ·simp only [dK,gC,aaN,mH,lq,gH];exact g1 _ rest
  ·rcases g3 f o h with h|⟨h,h'⟩
   ·exact .inl h
   ·exact .inr ⟨aaI _ h,h'⟩
 |p x m l' h0 _ ih=>
  intro lz vs hl m0;obtain ⟨v,u,rfl,h1,h2⟩:=hl;obtain ⟨cs,m1,g1,g2,g3⟩:=ih lz h2 m0;refine ⟨l'::cs,m1,λK rest=> ?_,λe2 q1 q2 q3=>⟨v,u,rfl,?_,g2 e2 q1 q2 q3⟩,λf o h=> ?_⟩
  ·simp only [dK,gC,aaN,mH,Kq h0];exact g1 _ rest
  ·obtain ⟨l2,hs,hk⟩:=o6 (e:=e2) (vs:=v) h0;cases hk;exact hs.rep (by rw [q1,q2];exact h1.2)
  ·rcases g3 f o h with h|⟨h,h'⟩
   ·exact .inl h
   ·exact .inr ⟨aaI _ h,h'⟩
 |own f ty fB g o ho kK hfz hg hp ht ih=>
  intro lz vs hl m0;obtain ⟨v,u,rfl,h1,h2⟩:=hl;obtain ⟨cs,m1,g1,g2,g3⟩:=ih lz h2 (cN m0 f ⟨ty,fB,o.xs⟩);have Ap:(f,g+1)∈psF:=lz _ (by
   have:=(ht.ps)
   clear this;exact (show∀{ps kM:List (Nat×Nat)} {ks:List LK} {ls:List aT} {ms:List MV},TC st ps ks ls ms kM-> ∀p∈ps,p∈kM from by
    intro ps kM ks ls ms h;induction h with
    |nil=>exact λ_ h=>h
    |QF _ ih=>exact ih
    |hs _ _ ih=>exact ih
    |p _ _ _ _ _ ih=>exact ih
    |own _ _ _ _ _ _ _ _ _ _ _ ih=>exact λp hm=>ih p (by simp [hm])
    |zg _ _ _ _ _ ih=>exact λp hm=>ih p (by simp [hm])) ht _ (by simp))
  obtain ⟨x,rfl,hx,hE⟩:=h1;have hE:=hE o (by rw [he];exact ho);refine ⟨.own f::cs,m1,λK rest=> ?_,λe2 q1 q2 q3=>⟨[x],u,rfl,⟨x,rfl,hx,λo2 _=> ?_⟩,g2 e2 q1 q2 q3⟩,λf2 o2 h=> ?_⟩
  ·simp only [dK,gC,aaN,mH,gL,qc];exact g1 _ rest
  ·rw [q3 f,QD,BX Db Ap,hE]
  ·rcases g3 f2 o2 h with h|⟨h,h'⟩
   ·rw [bN] at h;by_cases gy:f2=f
    ·subst gy;simp only [if_true,AT] at h;subst h;exact .inr ⟨by simp,.inl ⟨g,o,Ap,ho,kK,rfl,hfz,hg⟩⟩
    ·rw [if_neg gy] at h;exact .inl h
   ·exact .inr ⟨aaI _ h,h'⟩
 |zg f ty fB hp ht ih=>
  intro lz vs hl m0;obtain ⟨v,u,rfl,h1,h2⟩:=hl;obtain ⟨cs,m1,g1,g2,g3⟩:=ih lz h2 (cN m0 f ⟨ty,fB,[]⟩);have Ap:(f,0)∈psF:=lz _ ((show∀{ps kM:List (Nat×Nat)} {ks:List LK} {ls:List aT} {ms:List MV},TC st ps ks ls ms kM-> ∀p∈ps,p∈kM from by
   intro ps kM ks ls ms h;induction h with
   |nil=>exact λ_ h=>h
   |QF _ ih=>exact ih
   |hs _ _ ih=>exact ih
   |p _ _ _ _ _ ih=>exact ih
   |own _ _ _ _ _ _ _ _ _ _ _ ih=>exact λp hm=>ih p (by simp [hm])
   |zg _ _ _ _ _ ih=>exact λp hm=>ih p (by simp [hm])) ht _ (by simp))
  have h1:v=[.slice none 0 0]:=h1;subst h1;refine ⟨.own f::cs,m1,λK rest=> ?_,λe2 q1 q2 q3=>⟨_,u,rfl,⟨_,rfl,rfl,λo2 _=> ?_⟩,g2 e2 q1 q2 q3⟩,λf2 o2 h=> ?_⟩
  ·simp only [dK,gC,aaN,mH,gL,qc];exact g1 _ rest
  ·rw [q3 f,QD,BX Db Ap]
  ·rcases g3 f2 o2 h with h|⟨h,h'⟩
   ·rw [bN] at h;by_cases gy:f2=f
    ·subst gy;simp only [if_true,AT] at h;subst h;exact .inr ⟨by simp,.inr ⟨Ap,rfl⟩⟩
    ·rw [if_neg gy] at h;exact .inl h
   ·exact .inr ⟨aaI _ h,h'⟩
theorem acd {c:Ctx}{ks:List LK}(h:j6 c ks=true): ∀f ty fB,LK.own f ty fB∈ks-> ∃I,c.ti ty=some I/\I.dJ=[]:=by
 induction ks with
 |nil=>intro f ty fB hm;simp at hm
 |cons k ks ih=>
  intro f ty fB hm;cases k with
  |k x=>
   simp only [j6] at h;rcases AI.1 hm with hm|hm
   ·cases hm
   ·exact ih h f ty fB hm
  |own f' ty' auP=>
   simp only [j6] at h;cases hI:c.tv ty' with
   |none=>simp [hI] at h
   |some I=>
    simp only [hI] at h;rcases AI.1 hm with hm|hm
    ·cases hm;exact ⟨I,cz hI⟩
    ·exact ih h f ty fB hm
section
variable {P:Program}{c:Ctx}{Z:b8} {Z':Nat->Prop} {e e':Env}{st cB:St}{a:Act} {w w':World}{R:Type}{K:St->Option R}{r:R}{Q:Exit->Act->World->Prop}{o:Oper}{root:Nat}{cs:List aT}{ks:List LK}{ls:List MV}{ps:List (Nat×Nat)}
def gone (e:Env)(root:Nat)(ps:List (Nat×Nat))(b:Nat):Prop:=b=e.B root\/ ∃x g,(x,g+1)∈ps/\(e.E g).ownBlock=some b
theorem rv.wide {Z Z2:Nat->Prop} {φ:Ph}{bO:Nat}(h:rv c Z φ w bO ks ls)(hz: ∀b,Z b->Z2 b):rv c Z2 φ w bO ks ls:=by obtain ⟨cs,m,E,arr,T,h1,h2,h3,h4,h5,h6,h7⟩:=h;refine ⟨cs,m,E,arr,T,h1,h2,hz _ h3,h4,h5,λf o ho=>⟨?_,(h6 f o ho).2⟩,h7⟩;obtain ⟨I,cells,g1,g2,g3,g4,g5⟩:=(h6 f o ho).1.row;exact ⟨I,cells,g1,g2,g3,g4,λb hb=>⟨hz _ (g5 b hb).1,(g5 b hb).2⟩⟩
theorem SU (h:cF c Z e st a w)(hf:aH st.fr root= .box cs)(hm:gY cs=false)(kK:j6 c ks=true)(ht:TC st [] ks cs ls ps):rv c (gone e root ps) e.φ w (e.B root) ks ls:=by
 have hs:=h.slot root;rw [hf] at hs;obtain ⟨arr,T,fD,tM⟩:=hs.2.cells hm;obtain ⟨Db,_⟩:=ht.ps .nil;obtain ⟨iM,m1,g1,g2,g3⟩:=agn Db ht h.m (λp hp=>hp) tM [];have hl:=g2 ⟨c.key,e.φ,QD e.E ps,λ_=>e.B root,m1⟩ h.key.symm rfl (λ_=>rfl);have hE: ∀{f g:Nat},(f,g+1)∈ps->QD e.E ps f=e.E g:=λhm=>by rw [QD,BX Db hm]
 have hE0: ∀{f:Nat},(f,0)∈ps->QD e.E ps f= .slice none 0 0:=λhm=>by rw [QD,BX Db hm]
 have AY: ∀f o,bj m1 f=some o->an6 st ps ks f o:=λf o ho=>(g3 f o ho).resolve_left (by simp [bj]);refine ⟨iM,m1,QD e.E ps,arr,T,?_,fD,.inl rfl,hs.2.free,hl,λf o ho=> ?_,λf f' o o' k ho Nc hk hk'=> ?_⟩
 ·have:=g1 (λcs rest st=>gN rest (some (cs,st.bA))) [];rw [agW] at this;exact this
 ·obtain ⟨hk,AF|⟨hp,hx⟩⟩:=AY f o ho
  ·obtain ⟨g,o3,hp,VL,an8,hx3,auQ,DP⟩:=AF;obtain ⟨I,cells,q1,q2,q3,q4,q5⟩:=(h.jr g o3 VL).row;refine ⟨⟨I,cells,by rw [<-an8];exact q1,q2,by rw [<-an8,<-hx3,hE hp];exact q3,by rw [<-hx3];show bQ c.key e.φ _ _ _;rw [<-h.key];exact q4,λb hb=>⟨.inr ⟨f,g,hp,by rw [<-hE hp];exact hb⟩,λoff u hu=> ?_,λhc=>hc.elim⟩⟩,?_⟩
   ·obtain ⟨k1,k2⟩:=(q5 b (by rw [<-hE hp];exact hb)).2.1 off u hu;exact ⟨auQ k1,by rw [<-hx3];exact k2⟩
   ·rw [hE hp];exact h.bf root cs g o3 hf VL
  ·obtain ⟨I,hI,hIc⟩:=acd kK f o.ty o.fB hk;refine ⟨⟨I,[],hI,hIc,⟨by rw [hx];simp,.inl ⟨by rw [hE0 hp],by rw [hx];rfl⟩⟩,by rw [hx];rfl,λb hb=> ?_⟩,?_⟩
   ·rw [hE0 hp] at hb;simp [IN] at hb
   ·rw [hE0 hp];simp [IN]
 ·obtain ⟨_,AF|⟨hp,_⟩⟩:=AY f o ho
  ·obtain ⟨g,o3,hp,VL,_⟩:=AF;obtain ⟨_,XF|⟨IU,_⟩⟩:=AY f' o' Nc
   ·obtain ⟨g',o3',IU,auR,_⟩:=XF;rw [hE hp] at hk;rw [hE IU] at hk';have:=h.ff g g' o3 o3' k VL auR hk hk';subst this;exact Db.inj _ _ _ hp IU
   ·rw [hE0 IU] at hk';simp [IN] at hk'
  ·rw [hE0 hp] at hk;simp [IN] at hk
theorem TC.bA (ht:TC st [] ks cs ls ps): ∀x g,(x,g+1)∈ps-> ∃o,bj st.bA g=some o/\g∉st.dt:=by
 have key: ∀{ps0 ps:List (Nat×Nat)} {ks:List LK} {cs:List aT} {ls:List MV},TC st ps0 ks cs ls ps-> ∀x g,(x,g+1)∈ps->(x,g+1)∈ps0\/ ∃o,bj st.bA g=some o/\g∉st.dt:=by
  intro ps0 ps ks cs ls h;induction h with
  |nil=>exact λx g hm=> .inl hm
  |QF _ ih=>exact ih
  |hs _ _ ih=>exact ih
  |p _ _ _ _ _ ih=>exact ih
  |own f ty fB g0 o ho _ _ hg _ _ ih=>
   intro x g hm;rcases ih x g hm with h|h
   ·rcases AI.1 h with h|h
    ·simp only [aaJ,abW] at h;obtain ⟨rfl,rfl⟩:=h;exact .inr ⟨o,ho,hg⟩
    ·exact .inl h
   ·exact .inr h
  |zg f ty fB _ _ ih=>
   intro x g hm;rcases ih x g hm with h|h
   ·rcases AI.1 h with h|h
    ·simp at h
    ·exact .inl h
   ·exact .inr h
 intro x g hm;exact (key ht x g hm).resolve_left (by simp)
def uO (gs:List Nat)(m:List (Nat×pY)):List (Nat×pY):=m.filter λp=>!bU gs p.1
theorem ace (gs:List Nat)(m:List (Nat×pY))(K:List (Nat×pY)->Option R):So gs m K=K (uO gs m):=by
 induction m generalizing K with
 |nil=>rfl
 |cons p m ih=>obtain ⟨k,o⟩:=p;simp only [So,uO,agI];cases bU gs k<;>simp [ih,uO]
theorem V0 (gs:List Nat)(m:List (Nat×pY))(f:Nat):bj (uO gs m) f=if bU gs f then none else bj m f:=by
 induction m with
 |nil=>simp [uO,bj]
 |cons p m ih=>
  obtain ⟨k,o⟩:=p;simp only [uO,agI] at ih⊢;cases hk:bU gs k with
  |true=>
   simp only [ag5,aaM,if_false,ih,bj,fc];by_cases hkf:k=f
   ·subst hkf;simp [hk]
   ·simp [hkf]
  |false=>
   simp only [Bool.not_false,if_true,bj,fc];by_cases hkf:k=f
   ·subst hkf;simp [hk]
   ·simp only [hkf,decide_false,cond_false];exact ih
def xT (fs:List Nat)(r:Fr):Fr:=fs.foldl (λr f=>my f r) r
def Ks (fs:List Nat)(s:Slot):Slot:=fs.foldl (λs f=>C6 f s) s
theorem ago (fs:List Nat)(r:Fr)(K:Fr->Option R):afU fs r K=K (xT fs r):=by
 induction fs generalizing r with
 |nil=>rfl
 |cons f fs ih=>simp only [afU,abq];exact ih _
theorem V1 (fs:List Nat)(r:Fr)(t:Nat):aH (xT fs r) t=Ks fs (aH r t):=by
 induction fs generalizing r with
 |nil=>rfl
 |cons f fs ih=>show aH (xT fs (my f r)) t=Ks fs (C6 f (aH r t));rw [ih,iS]
theorem V2 (fs:List Nat)(r:Fr):bk (xT fs r)=bk r:=by
 induction fs generalizing r with
 |nil=>rfl
 |cons f fs ih=>show bk (xT fs (my f r))=_;rw [ih];simp [bk,my]
theorem ao.aoa {v:Value}{s:Slot}(fs:List Nat)(h:ao e v s):ao e v (Ks fs s):=by
 induction fs generalizing s with
 |nil=>exact h
 |cons f fs ih=>exact ih (h.kill f)
theorem Kt {S:Nat->Prop}(f:Nat){l:aT}(h:ko S l):ko (λg=>S g/\g≠f) (R8 f l):=by intro g hg;refine ⟨?_,JZ f l g hg⟩;cases l<;>simp [R8] at hg;rename_i g';cases hb:BY g' f<;>simp [hb] at hg;subst hg;exact h _ rfl
theorem acf {S T:Nat->Prop}(f:Nat){s:Slot}(h:hM S T s):hM (λg=>S g/\g≠f) T (C6 f s):=by
 cases s with
 |sc l=>exact Kt f h
 |ag cs=>intro l hl;obtain ⟨x,hx,rfl⟩:=aaW.1 hl;exact Kt f (h x hx)
 |ep g i o b cs=>
  simp only [C6];cases hb:BY g f
  ·simp only [cond_false,hM];refine ⟨h,λe=> ?_⟩;subst e;simp [fc] at hb
  ·simp only [cond_true,hM];intro g' hg';cases hg'
 |box cs=>trivial
 |_=>exact h
theorem agp {S T:Nat->Prop}(fs:List Nat){s:Slot}(h:hM S T s):hM (λg=>S g/\g∉fs) T (Ks fs s):=by
 induction fs generalizing S s with
 |nil=>
  have:(λg=>S g/\g∉([]:List Nat))=S:=by funext g;simp
  rw [this];exact h
 |cons f fs ih=>
  have h2:=ih (acf f h);have:(λg=>(S g/\g≠f)/\g∉fs)=(λg=>S g/\g∉f::fs):=by funext g;simp [and_assoc]
  rw [<-this];exact h2
def acg (fs:List Nat)(cs:List aT):List aT:=fs.foldl (λcs f=>cs.map (R8 f)) cs
theorem ach (fs:List Nat)(cs:List aT):Ks fs (.box cs)= .box (acg fs cs):=by
 induction fs generalizing cs with
 |nil=>rfl
 |cons f fs ih=>exact ih _
theorem H5 (fs:List Nat){s:Slot}{ds:List aT}(h:Ks fs s= .box ds): ∃cs,s= .box cs/\ds=acg fs cs:=by
 induction fs generalizing s with
 |nil=>exact ⟨ds,h,rfl⟩
 |cons f fs ih=>
  obtain ⟨cs,h1,h2⟩:=ih (s:=C6 f s) h;cases s<;>simp only [C6] at h1<;>first|(cases h1;done)|skip
  ·rename_i IV;simp only [Slot.box.injEq] at h1;exact ⟨IV,rfl,by rw [h2,<-h1];rfl⟩
  ·rename_i g i o b c0;cases hb:BY g f<;>simp [hb] at h1
theorem aci {fs:List Nat}{o:Obj}{cs:List aT}(h:kX e o cs):kX e o (acg fs cs):=by
 induction fs generalizing cs with
 |nil=>exact h
 |cons f fs ih=>exact ih (h.map (λ_ _=>bo.kill f) (λ_ _=>rfl))
theorem agq {S:Nat->Prop}(fs:List Nat){cs:List aT}(h: ∀l∈cs,ko S l): ∀l∈acg fs cs,ko (λg=>S g/\g∉fs) l:=by
 induction fs generalizing S cs with
 |nil=>
  have:(λg=>S g/\g∉([]:List Nat))=S:=by funext g;simp
  rw [this];exact h
 |cons f fs ih=>
  have h2:=ih (S:=λg=>S g/\g≠f) (cs:=cs.map (R8 f)) (λl hl=>by obtain ⟨x,hx,rfl⟩:=aaW.1 hl;exact Kt f (h x hx));have:(λg=>(S g/\g≠f)/\g∉fs)=(λg=>S g/\g∉f::fs):=by funext g;simp [and_assoc]
  rw [<-this];exact h2
theorem Zq (fs:List Nat)(cs:List aT):mG (acg fs cs)=mG cs:=by
 induction fs generalizing cs with
 |nil=>rfl
 |cons f fs ih=>exact (ih _).trans (VG f cs)
theorem V3 {fs:List Nat}{m:List (Nat×pY)}(h:Sp fs m=false): ∀f∈fs,bj m f=none:=by
 induction fs with
 |nil=>simp
 |cons f fs ih=>
  intro g hg;unfold Sp at h;cases ho:bj m f with
  |some o=>simp [ho] at h
  |none=>
   simp only [ho] at h;rcases AI.1 hg with rfl|hg
   ·exact ho
   ·exact ih h g hg
theorem V4 {l k:List Nat}(h:meets l k=false): ∀f∈l,f∉k:=by
 induction l with
 |nil=>simp
 |cons x l ih=>
  intro g hg;unfold meets at h;cases hx:bU k x with
  |true=>simp [hx] at h
  |false=>
   simp only [hx,cond_false] at h;rcases AI.1 hg with rfl|hg
   ·intro hm;rw [(ck k g).2 hm] at hx;cases hx
   ·exact ih h g hg
theorem SV {ps:List (Nat×Nat)}{g:Nat}:g∈lQ ps↔ ∃x,(x,g+1)∈ps:=by
 induction ps with
 |nil=>simp [lQ]
 |cons p ps ih=>
  obtain ⟨x,y⟩:=p;cases y with
  |zero=>
   simp only [lQ,ih];constructor
   ·rintro ⟨z,hz⟩;exact ⟨z,by simp [hz]⟩
   ·rintro ⟨z,hz⟩;rcases AI.1 hz with hz|hz
    ·simp at hz
    ·exact ⟨z,hz⟩
  |succ y=>
   simp only [lQ,AI,ih];constructor
   ·rintro (rfl|⟨z,hz⟩)
    ·exact ⟨x,by simp⟩
    ·exact ⟨z,by simp [hz]⟩
   ·rintro ⟨z,hz⟩;rcases hz with hz|hz
    ·simp only [aaJ,abW] at hz;exact .inl hz.2
    ·exact .inr ⟨z,hz⟩
theorem mM {ks:List LK}: ∀{R:Type} {r:R} {st:St} {ms:List MV} {K':List aT->List MV->St->Option R},dK st ks ms K'=some r-> ∃cs rest cB,(∀{R':Type} (K2:List aT->List MV->St->Option R'),dK st ks ms K2=K2 cs rest cB)/\K' cs rest cB=some r:=by
 induction ks with
 |nil=>intro R r st ms K' h;exact ⟨[],ms,st,λ_=>rfl,h⟩
 |cons k ks ih=>
  intro R r st ms K' h;cases ms with
  |nil=>simp [dK,gC] at h
  |cons m ms=>
   simp only [dK,gC] at h;cases k with
   |k x=>simp only [mH] at h;obtain ⟨l,h0,h⟩:=BZ h;obtain ⟨cs,rest,cB,h1,h⟩:=ih h;refine ⟨l::cs,rest,cB,λK2=> ?_,h⟩;simp only [dK,gC,mH,Kq h0];exact h1 _
   |own f ty fB=>
    unfold mH gL at h;cases m<;>simp only at h<;>try (cases h;done)
    rename_i xs;obtain ⟨p,q,fr,n⟩:=st;simp only [qc] at h;obtain ⟨cs,rest,cB,h1,h⟩:=ih h;refine ⟨.own f::cs,rest,cB,λK2=> ?_,h⟩;simp only [dK,gC,mH,gL,qc];exact h1 _
theorem Zr (m n:List (Nat×pY))(f:Nat):bj (m++n) f=match bj m f with|some o=>some o|none=>bj n f:=by
 induction m with
 |nil=>rfl
 |cons p m ih=>obtain ⟨k,o⟩:=p;simp only [aaN,bj,fc];by_cases h:k=f<;>simp [h,ih]
theorem QG {ks:List LK}: ∀{st:St} {ms:List MV} {cs:List aT} {rest:List MV} {cB:St},(∀{R':Type} (K2:List aT->List MV->St->Option R'),dK st ks ms K2=K2 cs rest cB)-> ∀f o,bj cB.bA f=some o->bj st.bA f=some o\/f∈dc ks:=by
 induction ks with
 |nil=>intro st ms cs rest cB h f o ho;have:=h (λa b c=>some c);simp only [dK,AT] at this;subst this;exact .inl ho
 |cons k ks ih=>
  intro st ms cs rest cB h f o ho;have h0:=h (λa b c=>some (a,b,c));obtain ⟨iM,azm,eM,h1,h2⟩:=mM h0;clear h1;cases ms with
  |nil=>simp [dK,gC] at h0
  |cons m ms=>
   cases k with
   |k x=>simp only [dK,gC,mH] at h0;obtain ⟨l,h3,h4⟩:=BZ h0;obtain ⟨nn,acj,ra,h5,h6⟩:=mM h4;simp only [AT,aaJ] at h6;obtain ⟨_,_,rfl⟩:=h6;exact ih h5 f o ho
   |own f' ty fB=>
    simp only [dK,gC] at h0;unfold mH gL at h0;cases m<;>simp only at h0<;>try (cases h0;done)
    rename_i xs;obtain ⟨p,q,fr,n⟩:=st;simp only [qc] at h0;obtain ⟨nn,acj,ra,h5,h6⟩:=mM h0;simp only [AT,aaJ] at h6;obtain ⟨_,_,rfl⟩:=h6;rcases ih h5 f o ho with h7|h7
    ·have h7:bj (cN n f' ⟨ty,fB,xs⟩) f=some o:=h7;rw [bN] at h7;by_cases gy:f=f'
     ·subst gy;exact .inr (by simp [dc])
     ·rw [if_neg gy] at h7;exact .inl h7
    ·exact .inr (by simp [dc,h7])
end
end Dn
/-
  Calls that are handed a variable. Conditions: none.
-/
namespace Dn
open Go
theorem Ku {ks:List LK}: ∀{st:St} {ms:List MV} {cs:List aT} {rest:List MV} {cB:St},(∀{R':Type} (K2:List aT->List MV->St->Option R'),dK st ks ms K2=K2 cs rest cB)-> ∀l∈cs,ko (λf=>f∈dc ks) l:=by
 induction ks with
 |nil=>intro st ms cs rest cB h l hl;have:=h (λa b c=>some a);simp only [dK,AT] at this;subst this;simp at hl
 |cons k ks ih=>
  intro st ms cs rest cB h l hl;have h0:=h (λa b c=>some (a,b,c));cases ms with
  |nil=>simp [dK,gC] at h0
  |cons m ms=>
   cases k with
   |k x=>
    simp only [dK,gC,mH] at h0;obtain ⟨l0,h3,h4⟩:=BZ h0;obtain ⟨nn,acj,ra,h5,h6⟩:=mM h4;simp only [AT,aaJ] at h6;obtain ⟨rfl,_,_⟩:=h6;rcases AI.1 hl with rfl|hl
    ·obtain ⟨l2,hs,hk⟩:=o6 (e:=⟨λn=>n,λ_ _=>none,λ_=>undef,λ_=>0,[]⟩) (vs:=[]) h3;cases hk;exact JY hs.pur
    ·exact ih h5 l hl
   |own f' ty fB=>
    simp only [dK,gC] at h0;unfold mH gL at h0;cases m<;>simp only at h0<;>try (cases h0;done)
    rename_i xs;obtain ⟨p,q,fr,n⟩:=st;simp only [qc] at h0;obtain ⟨nn,acj,ra,h5,h6⟩:=mM h0;simp only [AT,aaJ] at h6;obtain ⟨rfl,_,_⟩:=h6;rcases AI.1 hl with rfl|hl
    ·intro f hf;cases hf;simp [dc]
    ·intro f hf;have:=ih h5 l hl f hf;simp [dc,this]
section
variable {P:Program}{c:Ctx}{Z:b8} {Z':Nat->Prop} {e e':Env}{st cB:St}{a:Act} {w w':World}{R:Type}{K:St->Option R}{r:R}{Q:Exit->Act->World->Prop}{o:Oper}{root:Nat}{cs:List aT}{ks:List LK}{ls outs:List MV}{ps:List (Nat×Nat)} {φ':Ph}
theorem SW {fr:Fr}(fs:List Nat){s:Slot}(h:dq fr s):dq fr (Ks fs s):=by
 induction fs generalizing s with
 |nil=>exact h
 |cons f fs ih=>
  refine ih ?_;cases s with
  |ep g i o b cs=>simp only [C6];cases BY g f<;>trivial
  |ptr=>exact h
  |hp=>exact h
  |AJ=>exact h
  |_=>trivial
theorem V5 (fs:List Nat){s:Slot}(h:dD s=true):dD (Ks fs s)=true:=by
 induction fs generalizing s with
 |nil=>exact h
 |cons f fs ih=>refine ih (s:=C6 f s) ?_;rw [G7];exact h
theorem QH (h:cF c Z e st a w)(hf:aH st.fr root= .box cs)(hr:bU st.dg root=false)(ht:TC st [] ks cs ls ps): ∀b,gone e root ps b->Z.In b:=by
 have hs:=h.slot root;rw [hf] at hs;intro b hb;rcases hb with rfl|⟨x,g,hp,hb⟩
 ·exact R9 hs.2.dp (by rw [<-h.defers.2.1,<-ck,hr];simp)
 ·obtain ⟨o,ho,hg⟩:=ht.bA x g hp;obtain ⟨I,cells,_,_,_,_,h5⟩:=(h.jr g o ho).row;exact R9 (h5 b hb).1 (by rw [<-h.defers.2.2.1];exact hg)
theorem ack (h:cF c Z e st a w)(hf:aH st.fr root= .box cs)(hm:gY cs=false)(hr:bU st.dg root=false)(ht:TC st [] ks cs ls ps)(hZ: ∀b,Z' b↔w.heap.size<=b\/gone e root ps b)(H2:Trans Z' e.φ w φ' w')(hi:EV φ' w')(hc:rv c Z' φ' w' (e.B root) ks outs)(hK:abe st root ks ps outs K=some r): ∃e' cB,cF c Z e' cB a w'/\e'.φ=φ'/\K cB=some r:=by
 unfold abe at hK;obtain ⟨iM,rest,JQ,g1,hK⟩:=mM hK;cases rest with
 |cons=>simp [gN] at hK
 |nil=>
 simp only [gN,ace] at hK;cases xU:Sp (dc ks) (uO (lQ ps) st.bA)||meets (dc ks) st.dt with
 |true=>simp [xU] at hK
 |false=>
 simp only [xU,cond_false,ago,oO,AN] at hK;obtain ⟨ajT,acm⟩:=IT.1 xU;have ajT:=V3 ajT;have acm:=V4 acm;obtain ⟨nn,m3,E,arr,T,Kv,fD,hzb,wk,tM,mK,gy⟩:=hc;have ju:nn=iM/\m3=JQ.bA:=by unfold ab0 at Kv;rw [g1] at Kv;simp only [gN,AT,aaJ] at Kv;exact ⟨Kv.1.symm,Kv.2.symm⟩
 obtain ⟨rfl,rfl⟩:=ju;have gh:=Ku g1;have lz: ∀f o,bj JQ.bA f=some o->f∈dc ks:=λf o ho=>(QG g1 f o ho).resolve_left (by simp [bj]);have hs:=h.slot root;rw [hf] at hs;have Ap: ∀b,Z' b->Z.In b:=by
  intro b hb;rcases (hZ b).1 hb with hb|hb
  ·exact h.dp b hb
  ·exact QH h hf hr ht b hb
 have aiv: ∀t j9,aH st.fr t= .box j9->t≠root-> ¬Z' (e.B t):=by
  intro t j9 htb eu hz;rcases (hZ _).1 hz with hz|hz|⟨x,g,hp,hz⟩
  ·have:=G8 h htb;omega
  ·exact h.bb t root j9 cs htb hf eu hz
  ·obtain ⟨o,ho,_⟩:=ht.bA x g hp;exact h.bf t j9 g o htb ho hz
 have hold: ∀f o,bj (uO (lQ ps) st.bA) f=some o->bj st.bA f=some o/\f∉lQ ps:=by
  intro f o ho;rw [V0] at ho;cases hn:bU (lQ ps) f with
  |true=>simp [hn] at ho
  |false=>simp only [hn,aaM,if_false] at ho;exact ⟨ho,λhm=>by rw [(ck _ _).2 hm] at hn;cases hn⟩
 have XV: ∀f o b,bj (uO (lQ ps) st.bA) f=some o->(e.E f).ownBlock=some b-> ¬Z' b:=by
  intro f o b ho hb hz;obtain ⟨Nc,hnf⟩:=hold f o ho;rcases (hZ _).1 hz with hz|hz|⟨x,g,hp,hz⟩
  ·have:=G9 h Nc hb;omega
  ·exact h.bf root cs f o hf Nc (by rw [hb,hz])
  ·obtain ⟨o2,dr,_⟩:=ht.bA x g hp;have:=h.ff f g o o2 b Nc dr hb hz;subst this;exact hnf (SV.2 ⟨x,hp⟩)
 let E2:Nat->Value:=λf=>if bU (dc ks) f=true then E f else e.E f
 have HZ: ∀f,f∈dc ks->E2 f=E f:=λf hf=>by show (if _ then _ else _)=_;rw [if_pos ((ck _ _).2 hf)]
 have hE3: ∀f,f∉dc ks->E2 f=e.E f:=λf hf=>by show (if _ then _ else _)=_;rw [if_neg (λhq=>hf ((ck _ _).1 hq))]
 have uN: ∀f o,bj (JQ.bA++uO (lQ ps) st.bA) f=some o->(f∈dc ks/\bj JQ.bA f=some o)\/(f∉dc ks/\bj (uO (lQ ps) st.bA) f=some o):=by
  intro f o ho;rw [Zr] at ho;cases hq:bj JQ.bA f with
  |some o2=>simp only [hq,AT] at ho;exact .inl ⟨lz f o2 hq,by rw [ho]⟩
  |none=>simp only [hq] at ho;refine .inr ⟨λhm=> ?_,ho⟩;rw [ajT f hm] at ho;cases ho
 let e2:Env:=⟨e.key,φ',E2,e.B,JQ.bA++uO (lQ ps) st.bA⟩
 have yR:oe (λg=>True/\g∉dc ks) (λ_=>True) e e2:=by
  refine ⟨rfl,H2.ph,λ_ _=>rfl,λf o' Nc hS=> ?_⟩;rcases uN f o' Nc with ⟨h1,_⟩|⟨h1,h2⟩
  ·exact absurd h1 hS.2
  ·exact ⟨o',by rw [h.m];exact (hold f o' h2).1,hE3 f h1,rfl⟩
 have aoc:aM e2 arr.toList nn:=by
  have auT:oe (λf=>f∈dc ks) (λ_=>True) ⟨c.key,φ',E,λ_=>e.B root,JQ.bA⟩ ⟨c.key,φ',E2,λ_=>e.B root,JQ.bA++uO (lQ ps) st.bA⟩:=by
   refine ⟨rfl,.refl _,λ_ _=>rfl,λf o' Nc hS=> ?_⟩;rcases uN f o' Nc with ⟨h1,h2⟩|⟨h1,_⟩
   ·exact ⟨o',h2,HZ f h1,rfl⟩
   ·exact absurd hS h1
  have h1:=tM.on auT gh;have auU:oe (λ_=>True) (λ_=>False) ⟨c.key,φ',E2,λ_=>e.B root,JQ.bA++uO (lQ ps) st.bA⟩ e2:=⟨h.key,.refl _,λ_ h=>h.elim,λf o ho _=>⟨o,ho,rfl,rfl⟩⟩
  exact h1.on auU (λ_ _ _ _=>trivial)
 have hm3:gY nn=false:=aoc.AU;have hgt: ∀t,aH (dz (xT (dc ks) st.fr) root (.box nn)) t=if t=root then .box nn else Ks (dc ks) (aH st.fr t):=λt=>by rw [cE,V1]
 have QI: ∀t ds,aH (dz (xT (dc ks) st.fr) root (.box nn)) t= .box ds-> ∃ds0,aH st.fr t= .box ds0:=by
  intro t ds hb;rw [hgt] at hb;by_cases H2:t=root
  ·exact ⟨cs,by rw [H2];exact hf⟩
  ·rw [if_neg H2] at hb;obtain ⟨d0,h1,_⟩:=H5 _ hb;exact ⟨d0,h1⟩
 refine ⟨e2,⟨st.dg,st.dt,dz (xT (dc ks) st.fr) root (.box nn),JQ.bA++uO (lQ ps) st.bA⟩,⟨h.defers,h.size,rfl,h.key,?_,?_,?_,?_,?_,?_,?_,hi,λb hb=>h.dp b (adp H2.size hb)⟩,rfl,hK⟩
 ·show (bk (dz (xT (dc ks) st.fr) root (.box nn))).Nodup;refine fZ ?_;rw [V2];exact h.nodup
 ·intro t;show cW Z e2 w' t _ (aH (dz (xT (dc ks) st.fr) root (.box nn)) t);rw [hgt];by_cases QJ:t=root
  ·subst QJ;rw [if_pos rfl];exact ⟨hs.1.mG (by rw [EK hm,EK hm3]),hs.2.dp,⟨_,fD,rfl,aoc⟩,wk⟩
  ·rw [if_neg QJ];have jf:=h.slot t;have hnb:=aiv t;generalize aH st.fr t=s at jf hnb;by_cases Kg: ∃ds,s= .box ds
   ·obtain ⟨ds,rfl⟩:=Kg;rw [ach];have hz:=hnb ds rfl QJ;obtain ⟨o2,h1,h2⟩:=jf.2.obj;refine ⟨jf.1.mG (Zq _ _),jf.2.dp,⟨o2,by show w'.heap[e.B t]? =_;rw [H2.heap _ hz (bR h1)];exact h1,?_⟩,λoff=>by show φ' (e.B t) off=none;rw [H2.free _ off hz];exact jf.2.free off⟩;exact (aci h2).on yR (agq _ (λl _ f _=>trivial))
   ·have auV:ao e (a.tmps.getD t undef) s:=by cases s<;>simp only [cW] at jf<;>first|exact jf|exact absurd ⟨_,rfl⟩ Kg
    have h2:=(auV.aoa (dc ks)).on yR (agp _ (fv s));have aod: ∀ds,Ks (dc ks) s≠ .box ds:=λds hq=>by obtain ⟨d0,h1,_⟩:=H5 _ hq;exact Kg ⟨d0,h1⟩
    generalize Ks (dc ks) s=s2 at h2 aod;cases s2<;>first|exact h2|exact absurd rfl (aod _)
 ·intro t;show dq (dz (xT (dc ks) st.fr) root (.box nn)) (aH (dz (xT (dc ks) st.fr) root (.box nn)) t);have hbk: ∀q,dD (aH st.fr q)=true->dD (aH (dz (xT (dc ks) st.fr) root (.box nn)) q)=true:=by
   intro q hq;rw [hgt];by_cases hqr:q=root
   ·rw [if_pos hqr];rfl
   ·rw [if_neg hqr];exact V5 _ hq
  rw [hgt];by_cases QJ:t=root
  ·rw [if_pos QJ];trivial
  ·rw [if_neg QJ];refine SW _ ?_;have sB:=h.root t;generalize aH st.fr t=s at sB;cases s with
   |ptr q o=>exact hbk q sB
   |hp q o i=>exact hbk q sB
   |AJ q=>exact hbk q sB
   |_=>trivial
 ·intro f o ho;rcases uN f o ho with ⟨h1,h2⟩|⟨h1,h2⟩
  ·have hfm:=(mK f o h2).1;have DP:f∉Z.dt:=by rw [<-h.defers.2.2.1];exact acm f h1
   refine eD.to ?_ DP;obtain ⟨I,cells,q1,q2,q3,q4,q5⟩:=hfm.row;refine ⟨I,cells,q1,q2,?_,?_,λb hb=> ?_⟩
   ·show w'.ownsRow 0 o.ty I.size (E2 f) o.xs.length cells;rw [HZ f h1];exact q3
   ·show bQ e.key φ' I.size cells o.xs;rw [h.key];exact q4
   ·have hb:(E2 f).ownBlock=some b:=hb;rw [HZ f h1] at hb;exact ⟨Ap b (q5 b hb).1,(q5 b hb).2.1,λhc=>hc.elim⟩
  ·obtain ⟨Nc,hnf⟩:=hold f o h2;obtain ⟨I,cells,q1,q2,q3,q4,q5⟩:=(h.jr f o Nc).row;refine ⟨I,cells,q1,q2,?_,q4.mono H2.ph,?_⟩
   ·show w'.ownsRow 0 o.ty I.size (E2 f) o.xs.length cells;rw [hE3 f h1];refine ⟨q3.1,?_⟩;rcases q3.2 with h6|⟨g,cap,gV,k1,k2,k3,k4⟩
    ·exact .inl h6
    ·refine .inr ⟨g,cap,gV,k1,k2,?_,k4⟩;rw [H2.heap g (XV f o g h2 (by rw [k1];rfl)) (bR k3)];exact k3
   ·intro bO hb;have hb:(E2 f).ownBlock=some bO:=hb;rw [hE3 f h1] at hb;refine ⟨(q5 bO hb).1,λoff u hu=>(q5 bO hb).2.1 off u ?_,λk1 k2 j hj=>H2.ph.EI ((q5 bO hb).2.2 k1 k2 j hj) hj⟩;have hu:φ' bO off=some u:=hu;rw [H2.free _ off (XV f o bO h2 hb)] at hu;exact hu
 ·intro t t' c1 c2 h1 h2 eu;obtain ⟨d1,k1⟩:=QI t c1 h1;obtain ⟨d2,k2⟩:=QI t' c2 h2;exact h.bb t t' d1 d2 k1 k2 eu
 ·intro t c1 f o h1 h2;show (E2 f).ownBlock≠some (e.B t);rcases uN f o h2 with ⟨k1,k2⟩|⟨k1,k2⟩
  ·rw [HZ f k1];by_cases QJ:t=root
   ·rw [QJ];exact (mK f o k2).2
   ·obtain ⟨d1,k3⟩:=QI t c1 h1;intro hq;obtain ⟨I,cells,_,_,_,_,q5⟩:=(mK f o k2).1.row;exact aiv t d1 k3 QJ (q5 _ hq).1
  ·rw [hE3 f k1];obtain ⟨d1,k3⟩:=QI t c1 h1;exact h.bf t d1 f o k3 (hold f o k2).1
 ·intro f f' o o' k h1 h2 h3 h4;have h3:(E2 f).ownBlock=some k:=h3;have h4:(E2 f').ownBlock=some k:=h4;rcases uN f o h1 with ⟨k1,k2⟩|⟨k1,k2⟩<;>rcases uN f' o' h2 with ⟨k3,k4⟩|⟨k3,k4⟩
  ·rw [HZ f k1] at h3;rw [HZ f' k3] at h4;exact gy f f' o o' k k2 k4 h3 h4
  ·rw [HZ f k1] at h3;rw [hE3 f' k3] at h4;obtain ⟨I,cells,_,_,_,_,q5⟩:=(mK f o k2).1.row;exact absurd (q5 _ h3).1 (XV f' o' k k4 h4)
  ·rw [hE3 f k1] at h3;rw [HZ f' k3] at h4;obtain ⟨I,cells,_,_,_,_,q5⟩:=(mK f' o' k4).1.row;exact absurd (q5 _ h4).1 (XV f o k k2 h3)
  ·rw [hE3 f k1] at h3;rw [hE3 f' k3] at h4;exact h.ff f f' o o' k (hold f o k2).1 (hold f' o' k4).1 h3 h4
end
end Dn
/-
  The operation of a call that is handed a variable. Conditions: none.
-/
namespace Dn
open Go
section
variable {P:Program}{c:Ctx}{Z:b8} {Z':Nat->Prop} {e e':Env}{st cB:St}{a:Act} {w w':World}{R:Type}{K:St->Option R}{r:R}{Q:Exit->Act->World->Prop}{o:Oper}
theorem dw.length {key:Nat->Nat} {φ:Ph}{ms:List MV}: ∀{vs:List Value},dw key φ vs ms->vs.length=ms.length:=by
 induction ms with
 |nil=>intro vs h;cases h;rfl
 |cons m ms ih=>intro vs h;obtain ⟨v,u,rfl,_,h2⟩:=h;simp [ih h2]
theorem SX {cl:Call}{g:List MV->Option MV}{pos:Nat}{ks:List LK}{oI:Option TI}{gv:Bool}(hS:Sound P c)(hg1:gv=true-> ∀ms x,g ms=some x-> ∃f:Nat,c.g (c.key f) ms=some x/\c.iL (c.key f)=true/\c.sig (c.key f)=some (pos,ks)/\(execOp a.eval o).run P w=(callFunc f (cl.args.map a.eval)).run P w)(h:cF c Z e st a w)(hK:Xw c gv g pos ks st (kl c st cl.args.toList) oI (λs st=>bM c st o.dst s K)=some r): gv=true/\o.wp P a w (λa' w'=>Out c Z K r e.φ w a' w') Q:=by
 unfold Xw at hK;obtain ⟨vs,C9⟩: ∃vs,vs=cl.args.toList.map a.eval:=⟨_,rfl⟩
 have hlen:vs.length=(kl c st cl.args.toList).length:=by rw [C9];simp [jS]
 have iw: ∀(i:Nat) (v:Value) (s:Slot),vs[i]? =some v->(kl c st cl.args.toList)[i]? =some s->ao e v s:=by rw [C9];exact dw.map h
 generalize kl c st cl.args.toList=ss at hK hlen iw;split at hK
 ·rename_i root off jv;have aBB:pos<ss.length:=(aaO.1 jv).1;obtain ⟨v,hv⟩: ∃v,vs[pos]? =some v:=⟨vs[pos]'(by omega),IS (by omega)⟩
  have hvp:v= .pointer (some ⟨e.B root,off,none⟩):=iw pos v _ hv jv;have DU:vs=vs.take pos++v::vs.drop (pos+1):=by
   conv=>lhs;rw [<-afL pos vs]
   rw [List.drop_eq_getElem_cons (by omega)];have:=aaO.1 hv;obtain ⟨_,XD⟩:=this;rw [XD]
  obtain ⟨e1,dC,m1,h1,x1,G6,r1,ol⟩:=tN h ⟨λ_=>vs.take pos,rfl,by simp only [agM];omega,λi u s hu hs=>by
   rw [af5] at hu hs;split at hu
   ·rename_i hi;rw [if_pos hi] at hs;exact iw i u s hu hs
   ·cases hu⟩ hK
  obtain ⟨e2,eM,m2,h2,x2,af7,r2,yS⟩:=tN h1 ⟨λ_=>vs.drop (pos+1),rfl,by simp only [List.length_drop];omega,λi u s hu hs=>by rw [List.getElem?_drop] at hu hs;exact (iw _ u s hu hs).on x1.on (fv s)⟩ ol;split at yS
  ·rename_i cs hf;cases xU:gY cs||bU eM.dg root||!j6 c ks||!gv with
   |true=>simp [xU] at yS
   |false=>
   simp only [xU,cond_false] at yS;simp only [IT,aaX] at xU;obtain ⟨⟨⟨hm,hr⟩,kK⟩,hg⟩:=xU;obtain ⟨ls,ps,ht,SL⟩:=Kr yS;simp only [AN] at SL;obtain ⟨x,hx,hK4⟩:=tL SL;unfold gW at hK4;split at hK4;rotate_left
   ·simp at hK4
   rename_i r0 outs;have hB:e2.B root=e.B root:=(x2.on.B root trivial).trans (x1.on.B root trivial);let Z2:Nat->Prop:=λb=>w.heap.size<=b\/gone e2 root ps b;have Vj:m1.length=pos:=by rw [<-r1.length,agM];omega
   have aoe:e2.key=c.key:=h2.key;obtain ⟨f,hx,hg0,QK,cV⟩:=hg1 hg _ _ hx;have kL:jh c Z2 e2.φ w (c.key f) vs (m1++ .cell (.func off ls)::m2):=by
    simp only [jh,hg0,if_true];refine .inr (.inr ⟨pos,ks,off,ls,e2.B root,QK,by rw [hv,hvp,hB],by rw [abR (by omega),Vj];simp,?_,(SU h2 hf hm kK ht).wide λb hb=> .inr hb⟩);rw [List.set_append_right _ _ (by omega),Vj,Nat.sub_self,List.set_cons_zero,DU];refine dw.append ?_ ⟨v,vs.drop (pos+1),rfl,?_,?_⟩
    ·have:=r1.mono x2.on.φ;rw [h1.key] at this;exact this
    ·rw [hvp];exact ⟨rfl,.rp (e.B root) off [] [] .nil (by simp)⟩
    ·rw [<-aoe];exact r2
   have Km:=hS f _ _ hx e2.φ w Z2 vs (λb hb=> .inl hb) kL h2.q9;refine ⟨hg,?_⟩;have EX:vs.toArray=cl.args.map a.eval:=by rw [C9,<-abY,abK]
   refine EW ?_ Km ?_
   ·rw [EX];exact cV
   ·rintro v' w' ⟨φ',t1,t2,Aq,pos',OJ,bO,abi,Dd,hv',hc⟩;rw [QK] at Dd;simp only [AT,aaJ] at Dd;obtain ⟨rfl,rfl⟩:=Dd;rw [hv,hvp] at hv';simp only [AT,aho,Addr.mk.injEq] at hv';have lT:bO=e2.B root:=by rw [<-hv'.1,hB]
    subst lT;obtain ⟨e3,ra,h3,hφ3,hK5⟩:=ack h2 hf hm hr ht (λb=>Iff.rfl) t1 t2 hc hK4;have H2:Trans Z e.φ w φ' w':=by
     have t0:Trans Z e2.φ w φ' w':=by have Ap: ∀b,Z2 b->Z.In b:=λb hb=>hb.elim (h2.dp b) (QH h2 hf hr ht b);exact ⟨t1.ph,λb hb=>t1.heap b (λhz=>hb (Ap b hz)),λb o hb=>t1.free b o (λhz=>hb (Ap b hz)),t1.size,t1.rest⟩
     exact (x1.tr.trans x2.tr).trans t0
    cases oI with
    |none=>simp only at hK5;obtain ⟨e4,st4,q1,q2,q3⟩:=ec (v:=v') (s:= .sc .un) h3 (.of (by simp [ao]) trivial) hK5;exact ⟨e4,st4,q1,by rw [q3,hφ3];exact H2,q2⟩
    |some I=>simp only at hK5;obtain ⟨s,g1,g2,V6⟩:=ze (e:=e3) (st:=ra) h3.key (by rw [hφ3];exact Aq) hK5;obtain ⟨e4,st4,q1,q2,q3⟩:=ec h3 (.of g1 g2) V6;exact ⟨e4,st4,q1,by rw [q3,hφ3];exact H2,q2⟩
  ·simp at yS
 ·simp at hK
theorem ags {cl:Call}{f pos:Nat}{ks:List LK}{oI:Option TI}(hS:Sound P c)(QK:c.sig (c.key f)=some (pos,ks))(ho:o.op= .call cl)(tu:cl.callee= .value (.func f))(h:cF c Z e st a w)(hK:aid c (c.key f) pos ks st (kl c st cl.args.toList) oI (λs st=>bM c st o.dst s K)=some r): c.iL (c.key f)=true/\o.wp P a w (λa' w'=>Out c Z K r e.φ w a' w') Q:=SX hS (λhg ms x hx=>⟨f,hx,hg,QK,by simp [execOp,ho,resolve,tu,Act.eval,abZ,invoke]⟩) h hK
theorem V7: ∀{l m:List LK},lkB l m=true->l=m
 |[],[],_=>rfl
 | .k k1::r,.k k2::q,h=>by simp only [lkB,sh] at h;rw [V7 h.2];have h1:=h.1;cases k1<;>cases k2<;>simp [kdB,kB] at h1<;>first|rfl|(subst h1;rfl)
 | .own f t z::r,.own f' t' z'::q,h=>by simp only [lkB,sh,fc,decide_eq_true_eq,beq_iff_eq] at h;obtain ⟨rfl,rfl,rfl,h⟩:=h;rw [V7 h]
 |[],_::_,h=>by simp [lkB] at h
 | .k _::_,[],h=>by simp [lkB] at h
 | .k _::_,.own _ _ _::_,h=>by simp [lkB] at h
 | .own _ _ _::_,[],h=>by simp [lkB] at h
 | .own _ _ _::_,.k _::_,h=>by simp [lkB] at h
theorem aco {pos:Nat}{ks:List LK}{l:List Nat}(h:Sq c pos ks l=true): ∀k∈l,c.sig k=some (pos,ks)/\c.iL k=true:=by
 induction l with
 |nil=>simp
 |cons x l ih=>
  simp only [Sq,sh] at h;obtain ⟨h1,h2,h3⟩:=h;intro k hk;rcases AI.1 hk with rfl|hk
  ·refine ⟨?_,h2⟩;cases hs:c.sig k with
   |none=>rw [hs] at h1;cases h1
   |some sg=>rw [hs] at h1;simp only [sh] at h1;obtain ⟨p,q⟩:=sg;have e1:p=pos:=fj h1.1;have e2:q=ks:=V7 h1.2;rw [e1,e2]
  ·exact ih h3 k hk
theorem ajU {R:Type}{r:R}{l:List Nat}{k:Nat}{K:Nat->Option R}(h:YW l k K=some r):k∈l/\K k=some r:=by
 induction l with
 |nil=>simp [YW] at h
 |cons p l ih=>
  cases l with
  |nil=>
   unfold YW at h;cases hb:BY k p with
   |false=>rw [hb] at h;cases h
   |true=>rw [hb] at h;have:=fj hb;subst this;exact ⟨by simp,h⟩
  |cons q l=>
   unfold YW at h;cases hb:BY k p with
   |false=>rw [hb] at h;obtain ⟨h1,h2⟩:=ih h;exact ⟨aaI _ h1,h2⟩
   |true=>rw [hb] at h;have:=fj hb;subst this;exact ⟨by simp,h⟩
theorem agt {cl:Call}{x:Operand}{Y1:List Nat}{oI:Option TI}(hS:Sound P c)(ho:o.op= .call cl)(tu:cl.callee= .value x)(h:cF c Z e st a w)(hK:abg c Y1 st (aX c st x) (kl c st cl.args.toList) oI (λs st=>bM c st o.dst s K)=some r): o.wp P a w (λa' w'=>Out c Z K r e.φ w a' w') Q:=by
 obtain ⟨hx,_⟩:=h.eval x;generalize aX c st x=s at hx hK;unfold abg at hK;split at hK
 ·rename_i m k0 aog;simp only [ao,bo] at hx;cases hs0:c.sig k0 with
  |none=>simp [hs0] at hK
  |some sg=>
  obtain ⟨pos,ks⟩:=sg;simp only [hs0] at hK;cases Kg:Sq c pos ks (k0::aog) with
  |false=>simp [Kg] at hK
  |true=>
  simp only [Kg,cond_true] at hK;unfold Xs at hK;split at hK
  ·rename_i f dI;cases dI with
   |cons=>simp [gN] at hK
   |nil=>
   simp only [gN] at hK;obtain ⟨f',cap,hv,xl,DQ,o4⟩: ∃(f':Nat) (cap:Array Value),a.eval x= .func (.func f') #[] cap/\e.key f'=f/\jt e.key e.φ cap.toList []/\ ∀m∈([]:List MV),m.one=true:=by obtain ⟨_,hx⟩:=hx;generalize C9:[a.eval x]=vs at hx;cases hx;rename_i f' cap h1 h2 h3;exact ⟨f',cap,by simpa using C9,h1,h2,h3⟩
   have aoi:cap= #[]:=by generalize hl:cap.toList=l at DQ;cases DQ;exact aaU.1 hl
   subst aoi;have OD:c.key f'=f:=by rw [<-h.key];exact xl
   exact (SX hS (λ_ ms y hy=>by obtain ⟨hm,hy⟩:=ajU hy;obtain ⟨h1,h2⟩:=aco Kg f hm;refine ⟨f',by rw [OD];exact hy,by rw [OD];exact h2,by rw [OD];exact h1,?_⟩;simp [execOp,ho,resolve,tu,hv,abZ,invoke]) h hK).2
  ·simp at hK
 ·simp at hK
end
end Dn
/-
  Every operation. Conditions: none.
-/
namespace Dn
open Go
section
variable {P:Program}{c:Ctx} {Z Z':b8} {e e':Env}{st:St}{a:Act} {w w':World}{R:Type}{K:St->Option R}{r:R}{Q:Exit->Act->World->Prop}{o:Oper}
structure Good (P:Program) (c:Ctx):Prop where
 ti:lS P c.ti
 eq:Qs P c.ti
 fn:Sound P c
 fk: ∀t k,c.fk t=some k->P.underlying t=some (.float k)
 mt:zf P c
def Zs (c:Ctx)(o:Oper):Option MS:=match abk o with|some t=>xh c t|none=>none
def gO (c:Ctx)(o:Oper) (w w':World):Prop:=match Zs c o with|some s=>Ac s w w'|none=>fa w w'
theorem fa.trans' {w w' BT:World}(h:fa w w') (h':fa w' BT):fa w BT:=⟨adp h.size h'.size,λb hb=>(h'.xj b (Nat.lt_of_lt_of_le hb h.size)).trans (h.xj b hb),h.rest.trans h'.rest⟩
theorem fa.for {w w':World}(h:fa w w'):gO c o w w':=by
 unfold gO;split
 ·exact h.m _
 ·exact h
theorem gO.trans {w w' BT:World}(h:gO c o w w') (h':gO c o w' BT):gO c o w BT:=by
 unfold gO at *;split at h
 ·rename_i s hs;simp only [hs] at h'⊢;exact Ac.trans h h'
 ·rename_i hs;simp only [hs] at h'⊢;exact fa.trans' h h'
inductive rz (P:Program) (c:Ctx) (Z:b8) {R:Type} (K:St->Option R) (r:R) (e:Env) (a:Act) (w:World) (o:Oper) (Q:Exit->Act->World->Prop):Prop
 |rd:(mI c o=false/\nq c o=false)->Rd P c Z K r e a w o (λ_=>True)->rz P c Z K r e a w o Q
 |ld:(mI c o=true/\nq c o=false)->EV e.φ w->Rd P c Z K r e a w o (λw'=>(still c o=false->gO c o w w')/\EV e.φ w')->rz P c Z K r e a w o Q
 |gr:(rn o=false\/nq c o=true)->o.wp P a w (λa' w'=>fa w w'/\Out c Z K r e.φ w a' w') Q->rz P c Z K r e a w o Q
 |cl (f:Nat):(rn o=false/\CI c o=!c.iL (c.key f))->o.wp P a w (λa' w'=>(c.iL (c.key f)=false->fa w w')/\Out c Z K r e.φ w a' w') Q->rz P c Z K r e a w o Q
 |an:(rn o=false/\CI c o=false)->o.wp P a w (Out c Z K r e.φ w) Q->rz P c Z K r e a w o Q
 |me (t:Nat) (s:MS):afV o=some t->xh c t=some s->(rn o=false/\CI c o=false)->o.wp P a w (λa' w'=>Ac s w w'/\Out c Z K r e.φ w a' w') Q->rz P c Z K r e a w o Q
theorem V8 (hG:Good P c)(h:cF c Z e st a w)(hK:opK c o st (λs st=>bM c st o.dst s K)=some r):rz P c Z K r e a w o Q:=by
 have hT:=hG.ti;unfold opK at hK;split at hK
 ·rename_i ho;exact .rd ⟨by simp [mI,rm, *],by simp [nq, *]⟩ (Qr (.inl ho) h hK)
 ·rename_i x ho;cases hm:nq c o with
  |true=>exact .gr (.inr hm) (agl ho h hK)
  |false=>
   refine .rd ⟨by simp [mI,rm, *],hm⟩ (Qr (.inr ho) h ?_);unfold Js at hK;unfold nq at hm;rw [ho] at hm;split at hK
   ·rename_i t q hq;rw [hq] at hm;simp at hm
   ·exact hK
 ·rename_i t ho;cases hs:xh c t with
  |none=>simp [hs] at hK
  |some s=>simp only [hs] at hK;exact .an (by simp [rn,CI, *]) (VY ho (XT hs) h hK)
 ·rename_i t m k ho;unfold aia at hK;cases hs:xh c t with
  |none=>simp [hs] at hK
  |some s=>simp only [hs] at hK;obtain ⟨v,h1,h2⟩:=Zn ho (hG.mt t s hs) h hK;refine .ld ⟨by simp [mI,rm,ho],by simp [nq,ho]⟩ h.q9 ⟨v,λw' hw=>h1 w' ?_,h2⟩;have:=hw.1 (by simp [still,ho]);simpa [gO,Zs,abk,ho,hs] using this
 ·rename_i t m k v ho;unfold aib at hK;cases hs:xh c t with
  |none=>simp [hs] at hK
  |some s=>simp only [hs] at hK;exact .an (by simp [rn,CI, *]) (QA ho (hG.mt t s hs) h hK)
 ·rename_i t m k ho;unfold abc at hK;cases hs:xh c t with
  |none=>simp [hs] at hK
  |some s=>simp only [hs] at hK;exact .me t s (by simp [afV,ho]) hs (by simp [rn,CI, *]) (H4 ho (hG.mt t s hs) h hK)
 ·rename_i t m i v ho;unfold ank at hK;cases hs:xh c t with
  |none=>simp [hs] at hK
  |some s=>simp only [hs] at hK;exact .an (by simp [rn,CI, *]) (Nj (t:=t) ho h hK)
 ·rename_i ho;exact .rd ⟨by simp [mI,rm, *],by simp [nq, *]⟩ (Sz ho h hK)
 ·rename_i ho;exact .rd ⟨by simp [mI,rm, *],by simp [nq, *]⟩ (afY ho h hK)
 ·rename_i t ho;cases hI:c.tv t with
  |none=>simp [hI] at hK
  |some I=>simp only [hI] at hK;exact .gr (.inl (by simp [rn, *])) (abC ho hI hT h hK)
 ·rename_i t x ho;cases hI:c.tv t with
  |none=>simp [hI] at hK
  |some I=>simp only [hI] at hK;exact .gr (.inl (by simp [rn, *])) (ajz ho h hK)
 ·rename_i t parts ho;cases hI:c.tv t with
  |none=>simp [hI] at hK
  |some I=>simp only [hI] at hK;exact .rd ⟨by simp [mI,rm, *],by simp [nq, *]⟩ (abP ho hI hT h hK)
 ·rename_i t n parts ho;cases hI:c.tv t with
  |none=>simp [hI] at hK
  |some I=>
   simp only [hI] at hK;cases hL:I.BS with
   |false=>simp [hL] at hK
   |true=>
    simp only [hL,cond_true] at hK;cases hE:c.tv I.elem with
    |none=>simp [hE] at hK
    |some E=>
     simp only [hE] at hK;cases kZ:afA (n *E.size) 16777216 with
     |false=>simp [kZ] at hK
     |true=>simp only [kZ,cond_true] at hK;exact .gr (.inl (by simp [rn, *])) (Nh ho hI hL hE hT h kZ hK)
 ·rename_i t x y ho;cases hI:c.tv t with
  |none=>simp [hI] at hK
  |some I=>
   simp only [hI] at hK;cases hL:I.BS with
   |false=>simp [hL] at hK
   |true=>
    simp only [hL,cond_true] at hK;cases hE:c.tv I.elem with
    |none=>simp [hE] at hK
    |some E=>simp only [hE] at hK;exact .gr (.inl (by simp [rn, *])) (QC ho hI hL hE hT h hK)
 ·rename_i t x ho;cases hI:c.tv t with
  |none=>simp [hI] at hK
  |some I=>
   simp only [hI] at hK;cases hs:still c o with
   |true=>
    simp only [hs,cond_true] at hK;split at hK
    ·rename_i cs off Nd;obtain ⟨v,h1,h2⟩:=abB ho hI hT h Nd hK;exact .ld ⟨by simp [mI,rm, *],by simp [nq, *]⟩ h.q9 ⟨v,λw' hw=>h1 w' hw.2,h2⟩
    ·simp at hK
   |false=>simp only [hs,cond_false] at hK;obtain ⟨v,h1,h2⟩:=af2 ho hI hT h hK;refine .ld ⟨by simp [mI,rm, *],by simp [nq, *]⟩ h.q9 ⟨v,λw' hw=>h1 w' ?_,h2⟩;have:=hw.1 hs;simpa [gO,Zs,abk,ho] using this
 ·rename_i t x y ho;cases hI:c.tv t with
  |none=>simp [hI] at hK
  |some I=>simp only [hI] at hK;exact .an (by simp [rn,CI, *]) (abM ho hI hT h hK)
 ·rename_i op t x y t' ho;exact .rd ⟨by simp [mI,rm, *],by simp [nq, *]⟩ (abz ho h hG.eq hK)
 ·rename_i ho;exact .rd ⟨by simp [mI,rm, *],by simp [nq, *]⟩ (afZ ho h hK)
 ·rename_i s t x ho;cases hL:isLT c s with
  |true=>
   simp only [hL,cond_true] at hK;cases hY:c.tv s with
   |none=>simp [hY] at hK
   |some Y=>
    cases hI:c.tv t with
    |none=>simp [hY,hI] at hK
    |some I=>
     simp only [hY,hI] at hK;obtain ⟨v,h1,h2⟩:=ab8 ho hY hI (by simpa [isLT,hY] using hL) hT h hK;refine .ld ⟨by simp [mI,rm,ho,hL],by simp [nq,ho]⟩ h.q9 ⟨v,λw' hw=>h1 w' ?_,h2⟩;have hs:still c o=false:=by simp [still,ho]
     have:=hw.1 hs;simpa [gO,Zs,abk,ho] using this
  |false=>
   simp only [hL,cond_false] at hK;cases hS:c.ti s with
   |none=>simp [hS] at hK
   |some S=>
    simp only [hS] at hK;cases hI:c.tv t with
    |none=>simp [hI] at hK
    |some I=>simp only [hI] at hK;obtain ⟨d,i,h1,_⟩:=hT s S hS;exact .rd ⟨by simp [mI,rm,ho,hL],by simp [nq,ho]⟩ (VI ho (cz hI).1 hT ⟨d,h1⟩ (hG.fk t) h hK)
 ·rename_i t x ho;cases hI:c.tv t with
  |none=>simp [hI] at hK
  |some I=>simp only [hI] at hK;exact .an (by simp [rn,CI, *]) (ab7 ho hI hT h hK)
 ·rename_i x ho;exact .an (by simp [rn,CI, *]) (agm ho h hK)
 ·rename_i f first dI ho
  split at hK
  ·rename_i hf;have hf:first= #[]:=by apply aaU.1;simpa using hf
   subst hf;exact .rd ⟨by simp [mI,rm, *],by simp [nq, *]⟩ (SM ho h hK)
  ·simp at hK
 ·rename_i t x lo hi ho;cases hI:c.tv t with
  |none=>simp [hI] at hK
  |some I=>simp only [hI] at hK;exact .rd ⟨by simp [mI,rm, *],by simp [nq, *]⟩ (abI ho hI hT h hK)
 ·rename_i t x y z ho;cases hI:c.tv t with
  |none=>simp [hI] at hK
  |some I=>simp only [hI] at hK;exact .rd ⟨by simp [mI,rm, *],by simp [nq, *]⟩ (aga ho hI hT h hK)
 ·rename_i t x f ho;cases hI:c.tv t with
  |none=>simp [hI] at hK
  |some I=>simp only [hI] at hK;exact .rd ⟨by simp [mI,rm, *],by simp [nq, *]⟩ (Y6 ho hI hT h hK)
 ·rename_i t x f ho;cases hI:c.tv t with
  |none=>simp [hI] at hK
  |some I=>simp only [hI] at hK;exact .rd ⟨by simp [mI,rm, *],by simp [nq, *]⟩ (ajB ho hI hT h hK)
 ·rename_i t x y ho;cases hI:c.tv t with
  |none=>simp [hI] at hK
  |some I=>
   simp only [hI] at hK;cases hE:c.tv I.elem with
   |none=>simp [hE] at hK
   |some E=>simp only [hE] at hK;exact .rd ⟨by simp [mI,rm, *],by simp [nq, *]⟩ (ajD ho hI hE hT h hK)
 ·rename_i t x y ho;cases hI:c.tv t with
  |none=>simp [hI] at hK
  |some I=>simp only [hI] at hK;exact .rd ⟨by simp [mI,rm, *],by simp [nq, *]⟩ (anw ho (cz hI).1 hT h hK)
 ·rename_i ho;exact .rd ⟨by simp [mI,rm, *],by simp [nq, *]⟩ (ajy ho h hK)
 ·rename_i cl ho;split at hK
  ·rename_i f tu;cases hsg:c.sig (c.key f) with
   |some sg=>obtain ⟨pos,ks⟩:=sg;simp only [hsg] at hK;obtain ⟨hg,hw⟩:=ags hG.fn hsg ho tu h hK;exact .an (by simp [rn,CI,ho,tu,hg]) hw
   |none=>
   simp only [hsg] at hK;cases hI:c.ti o.type with
   |none=>simp [hI] at hK
   |some I=>simp only [hI] at hK;exact .cl f (by simp [rn,CI, *]) (agh hG.fn ho tu h hK)
  ·rename_i x _ tu;cases hdy:c.dyn with
   |cons k0 Y1=>simp only [hdy] at hK;exact .an (by simp [rn,CI,ho,tu,hdy]) (agt hG.fn ho tu h hK)
   |nil=>
   simp only [hdy] at hK;cases hI:c.ti o.type with
   |none=>simp [hI] at hK
   |some I=>simp only [hI] at hK;exact .gr (.inl (by simp [rn, *])) (ajN hG.fn ho tu h hK)
  ·rename_i tu;split at hK
   ·rename_i t Sc;cases hI:c.tv t with
    |none=>simp [hI] at hK
    |some I=>simp only [hI] at hK;exact .rd ⟨by simp [mI,rm, *],by simp [nq, *]⟩ (ajC ho tu Sc hI hT h hK)
   ·simp at hK
  ·rename_i tu;split at hK
   ·rename_i s x t t' Nd Sc;cases hI:c.tv t with
    |none=>simp [hI] at hK
    |some I=>
     simp only [hI] at hK;cases hL:I.BS with
     |false=>simp [hL] at hK
     |true=>
      simp only [hL,cond_true] at hK;cases hE:c.tv I.elem with
      |none=>simp [hE] at hK
      |some E=>
       simp only [hE] at hK;obtain ⟨so,xo,kL,rfl,rfl⟩: ∃so xo,cl.args.toList=[so,xo]/\aX c st so=s/\aX c st xo=x:=by
        rw [jS] at Nd;match hl:cl.args.toList,Nd with
        |[so,xo],Nd=>simp at Nd;exact ⟨so,xo,rfl,Nd.1,Nd.2⟩
        |[],Nd=>simp at Nd
        |[_],Nd=>simp at Nd
        |_::_::_::_,Nd=>simp at Nd
       exact .an (by simp [rn,CI,tu,ho]) (Zh ho tu kL Sc hI hL hE hT h hK)
   ·simp at hK
  ·rename_i tu;rw [jS] at hK;split at hK
   ·rename_i m ju;cases hl:cl.args.toList with
    |nil=>rw [hl] at ju;simp at ju
    |cons x xs=>
     rw [hl] at ju;simp only [aaQ,aav,afX] at ju;obtain ⟨he,rfl⟩:=ju;unfold gCx at hK;split at hK
     ·rename_i u v;have hx:=y8 (by have:=(h.eval x).1;rw [he] at this;exact this);have Y9:cl.args= #[x]:=by rw [<-aaU,hl]
      refine .rd ⟨by simp [mI,rm, *],by simp [nq, *]⟩ (jR h ?_ (J3 (.float .f64 u) rfl) trivial hK);have hb: ∀ts ty,Builtin.real_ ts ty #[.complex .f64 u v]=pure (.float .f64 u):=λ_ _=>rfl;simp [execOp,ho,resolve,tu,invoke,builtin,hb,Y9,hx]
     ·cases hK
   ·cases hK
  ·rename_i tu;rw [jS] at hK;split at hK
   ·rename_i m ju;cases hl:cl.args.toList with
    |nil=>rw [hl] at ju;simp at ju
    |cons x xs=>
     rw [hl] at ju;simp only [aaQ,aav,afX] at ju;obtain ⟨he,rfl⟩:=ju;unfold gCx at hK;split at hK
     ·rename_i u v;have hx:=y8 (by have:=(h.eval x).1;rw [he] at this;exact this);have Y9:cl.args= #[x]:=by rw [<-aaU,hl]
      refine .rd ⟨by simp [mI,rm, *],by simp [nq, *]⟩ (jR h ?_ (J3 (.float .f64 v) rfl) trivial hK);have hb: ∀ts ty,Builtin.imag_ ts ty #[.complex .f64 u v]=pure (.float .f64 v):=λ_ _=>rfl;simp [execOp,ho,resolve,tu,invoke,builtin,hb,Y9,hx]
     ·cases hK
   ·cases hK
  ·rename_i tu;rw [jS] at hK;split at hK
   ·rename_i u v ju;match hl:cl.args.toList,ju with
    |[x,y],ju=>
     simp only [aaQ,List.map_nil,aav,and_true] at ju;have hx:=y8 (by have:=(h.eval x).1;rw [ju.1] at this;exact this);have hy:=y8 (by have:=(h.eval y).1;rw [ju.2] at this;exact this);have Y9:cl.args= #[x,y]:=by rw [<-aaU,hl]
     refine .rd ⟨by simp [mI,rm, *],by simp [nq, *]⟩ (jR h ?_ (J3 (.complex .f64 u v) rfl) trivial hK);have hb: ∀ts ty,Builtin.complex_ ts ty #[.float .f64 u,.float .f64 v]=pure (.complex .f64 u v):=λ_ _=>rfl;simp [execOp,ho,resolve,tu,invoke,builtin,hb,Y9,hx,hy]
    |[],ju=>simp at ju
    |[_],ju=>simp at ju
    |_::_::_::_,ju=>simp at ju
   ·cases hK
  ·rename_i tu;cases hm:Vs false (kl c st cl.args.toList) with
   |none=>simp [hm] at hK
   |some m=>simp only [hm] at hK;exact .rd ⟨by simp [mI,rm, *],by simp [nq, *]⟩ (Oz (mx:=false) ho tu h hm hK)
  ·rename_i tu;cases hm:Vs true (kl c st cl.args.toList) with
   |none=>simp [hm] at hK
   |some m=>simp only [hm] at hK;exact .rd ⟨by simp [mI,rm, *],by simp [nq, *]⟩ (Oz (mx:=true) ho tu h hm hK)
  ·simp at hK
 ·simp at hK
theorem rz.wp (h:rz P c Z K r e a w o Q):o.wp P a w (Out c Z K r e.φ w) Q:=by
 cases h with
 |rd _ h=>exact h.wp trivial
 |ld _ hi h=>exact h.wp ⟨λ_=>(fa.refl w).for,hi⟩
 |me _ _ _ _ _ h=>exact adq (λa w h=>h.2) h
 |gr _ h=>exact adq (λa w h=>h.2) h
 |cl f _ h=>exact adq (λa w h=>h.2) h
 |an _ h=>exact h
theorem rz.auY (h:rz P c Z K r e a w o Q)(hr:rn o=true)(hv:nq c o=false):Rd P c Z K r e a w o (λw'=>mI c o=true->(still c o=false->gO c o w w')/\EV e.φ w'):=by
 cases h with
 |rd hl h=>obtain ⟨v,h1,h2⟩:=h;exact ⟨v,λw' _=>h1 w' trivial,h2⟩
 |ld hl _ h=>obtain ⟨v,h1,h2⟩:=h;exact ⟨v,λw' hg=>h1 w' (hg hl.1),h2⟩
 |gr hn h=>rw [hr,hv] at hn;simp at hn
 |me _ _ _ _ hn h=>rw [hr] at hn;cases hn.1
 |cl f hn h=>rw [hr] at hn;cases hn.1
 |an hn h=>rw [hr] at hn;cases hn.1
theorem rz.auZ (h:rz P c Z K r e a w o Q)(hr:rn o=true\/CI c o=true):o.wp P a w (λa' w'=>fa w w'/\Out c Z K r e.φ w a' w') Q:=by
 have rd: ∀G:World->Prop,G w->Rd P c Z K r e a w o G->o.wp P a w (λa' w'=>fa w w'/\Out c Z K r e.φ w a' w') Q:=by rintro G hG ⟨v,h1,h2⟩;unfold ahg;rw [h1 w hG,afH];exact ⟨.refl w,h2⟩
 cases h with
 |rd hl h=>exact rd _ trivial h
 |ld _ hi h=>exact rd _ ⟨λ_=>(fa.refl w).for,hi⟩ h
 |me _ _ _ _ hn h=>
  rcases hr with hr|hr
  ·rw [hr] at hn;cases hn.1
  ·rw [hr] at hn;cases hn.2
 |gr hn h=>exact h
 |cl f hn h=>
  rcases hr with hr|hr
  ·rw [hr] at hn;cases hn.1
  ·rw [hn.2] at hr;exact adq (λa w h=>⟨h.1 (by simpa using hr),h.2⟩) h
 |an hn h=>
  rcases hr with hr|hr
  ·rw [hr] at hn;cases hn.1
  ·rw [hr] at hn;cases hn.2
theorem aoj (hG:Good P c)(h:cF c Z e st a w)(hK:opK c o st (λs st=>bM c st o.dst s K)=some r){oi:Oper}(hr:C4 oi o=true):o.wp P a w (λa' w'=>gO c oi w w'/\Out c Z K r e.φ w a' w') Q:=by
 unfold C4 at hr;split at hr
 ·rename_i t t' h1 h2;have ht:=fj hr;subst ht;have Zo: ∃m k,o.op= .mapEntry t m k:=by
   unfold afV at h2;split at h2
   ·rename_i u m k ho;cases h2;exact ⟨m,k,ho⟩
   ·cases h2
  obtain ⟨m,k,ho⟩:=Zo;unfold opK at hK;simp only [ho] at hK;unfold abc at hK;cases hs:xh c t with
  |none=>simp [hs] at hK
  |some s=>simp only [hs] at hK;refine adq (λa w h=>⟨?_,h.2⟩) (H4 ho (hG.mt t s hs) h hK);simpa [gO,Zs,h1,hs] using h.1
 ·cases hr
end
end Dn
/-
  Guards; operations one behind the other. Conditions: none.
-/
namespace Dn
open Go
section
variable {P:Program}{c:Ctx} {Z Z':b8} {e e':Env}{st:St}{a:Act} {w w':World}{R:Type}{K:St->Option R}{r:R}{Q:Exit->Act->World->Prop}{o:Oper}
theorem cF.frame {rq:Fr}(h:cF c Z e st a w)(hf: ∀t,aH rq t=aH st.fr t)(hn:(bk rq).Nodup):cF c Z e {st with fr:=rq} a w:=by
 have hr: ∀s,dq st.fr s->dq rq s:=by intro s hs;cases s<;>simp only [dq,hf] at hs⊢ <;>exact hs
 exact ⟨h.defers,h.size,h.m,h.key,hn,λt=>by show cW Z e w t _ (aH rq t);rw [hf];exact h.slot t,λt=>by show dq rq (aH rq t);rw [hf];exact hr _ (h.root t),h.jr,λt t' cs j9 h1 h2=>h.bb t t' cs j9 (by rw [<-hf];exact h1) (by rw [<-hf];exact h2),λt cs f o h1=>h.bf t cs f o (by rw [<-hf];exact h1),h.ff,h.q9,h.dp⟩
theorem cF.reset {t:Nat}{s:Slot}(h:cF c Z e st a w)(hs:aH st.fr t=s):cF c Z e {st with fr:=dz st.fr t s} a w:=by
 refine h.frame (λt'=> ?_) (fZ h.nodup);rw [cE];by_cases ht:t'=t
 ·subst ht;simp [hs]
 ·simp [ht]
theorem SY {ops:Array Oper} {K':Bool->St->Option R}(h:cF c Z e st a w)(hK:Vx ops.toList o st K'=some r): ∃cB go,cF c Z e cB a w/\K' go cB=some r/\ahe o (yielded ops a.tmps)=go:=by
 unfold Vx at hK;unfold ahe;cases hg:o.guard with
 |none=>simp only [hg] at hK;exact ⟨st,true,h,hK,rfl⟩
 |some jw=>
  obtain ⟨j,want⟩:=jw;simp only [hg] at hK;cases hp:ops.toList[j]? with
  |none=>simp [hp] at hK
  |some p=>
   simp only [hp] at hK;have IU:ops[j]? =some p:=by simpa using hp
   cases hd:p.dst with
   |none=>simp [hd] at hK
   |some t=>
    simp only [hd] at hK;have nt:=h.slot t;split at hK
    ·rename_i v hv;rw [hv] at nt;have IW:a.tmps.getD t undef= .bool v:=AR nt;have hy:yielded ops a.tmps j=some v:=by
      unfold yielded;have:a.tmps[t]? =some (.bool v):=by
       rw [abA] at IW;cases ht:a.tmps[t]? with
       |none=>rw [ht] at IW;simp [undef] at IW
       |some u=>rw [ht] at IW;simpa using IW
      simp [IU,hd,this]
     simp only [hy];cases v<;>simp only [oO] at hK
     ·exact ⟨_,_,h.reset hv,hK,by cases want<;>rfl⟩
     ·exact ⟨_,_,h.reset hv,hK,by cases want<;>rfl⟩
    ·rename_i hv;rw [hv] at nt;simp only [cW,ao] at nt;have hy:yielded ops a.tmps j=none:=by
      unfold yielded;rw [abA] at nt;cases ht:a.tmps[t]? with
      |none=>simp [IU,hd,ht]
      |some u=>rw [ht] at nt;simp at nt;subst nt;simp [IU,hd,ht,undef]
     simp only [hy];exact ⟨st,false,h,hK,by cases want<;>rfl⟩
    ·simp at hK
theorem agu {ops:Array Oper}{i:Nat}(hG:Good P c)(hi:ops[i]? =some o)(h:cF c Z e st a w)(hK:Xx c ops.toList o st K=some r): wpOp P ops Q i (Out c Z K r e.φ w) a w:=by
 unfold Xx at hK;obtain ⟨cB,go,h',hK,hw⟩:=SY h hK;unfold wpOp;simp only [hi];rw [hw];cases go with
 |true=>simp only [cond_true] at hK;simp only [if_true];exact .inl (V8 hG h' hK).wp
 |false=>simp only [cond_false] at hK;simp only [aaM,if_false];obtain ⟨e2,eM,h1,h2,h3⟩:=ec (v:=undef) (s:= .skip) h' ⟨rfl,trivial⟩ hK;exact ⟨e2,eM,h1,by rw [h3];exact .refl _ _ _,h2⟩
theorem QL {ops:Array Oper}{is:List Nat}(hG:Good P c): ∀{os:List Oper} {e:Env} {st:St} {a:Act} {w:World},is.map (ops[·]?)=os.map some->cF c Z e st a w->DH c ops.toList os st K=some r-> ∀{φ0:Ph} {w0:World},Trans Z φ0 w0 e.φ w->(∀a' w',Out c Z K r φ0 w0 a' w'->Q .normal a' w')->wpOps P ops Q is a w:=by
 induction is with
 |nil=>
  intro os e st a w hm h hK φ0 w0 ht hQ;cases os with
  |nil=>exact hQ a w ⟨e,st,h,ht,hK⟩
  |cons=>simp at hm
 |cons i is ih=>
  intro os e st a w hm h hK φ0 w0 ht hQ;cases os with
  |nil=>simp at hm
  |cons o os=>simp only [aaQ,aav] at hm;simp only [DH] at hK;rw [wpOps_cons];refine wpOp_mono ?_ (agu hG hm.1 h hK);rintro a' w' ⟨e2,eM,h1,h2,h3⟩;exact ih hm.2 h1 h3 (ht.trans h2) hQ
end
end Dn
/-
  Parts of a state. Conditions: none.
-/
namespace Dn
open Go
section
variable {P:Program}{c:Ctx}{Z Zi:b8} {e e':Env}{st cB:St}{a:Act} {w w':World}{R:Type}{K:St->Option R}{r:R}{Q:Exit->Act->World->Prop}{o:Oper}
theorem Zt {fs:List Nat}: ∀{e:Env} {st:St},cF c Z e st a w->(∀f∈fs,∀o,bj st.bA f=some o->f∉Z.dt\/o.fB=true)-> ∃φ' m',tI e.φ φ'/\(∀b off,¬Z.In b->φ' b off=e.φ b off)/\cF c Z {e with φ:=φ',m:=m'} {st with bA:=m'} a w/\ (∀f,bj m' f=(bj st.bA f).map λo=>if f∈fs then ⟨o.ty,true,o.xs⟩ else o)/\ (∀f∈fs,∀o I cells,bj st.bA f=some o->c.ti o.ty=some I->w.ownsRow 0 o.ty I.size (e.E f) o.xs.length cells-> ∀bO,(e.E f).ownBlock=some bO-> ∀j,j<cells.length->φ' bO j=cells[j]?):=by
 induction fs with
 |nil=>
  intro e st h _;refine ⟨e.φ,st.bA,.refl _,λ_ _ _=>rfl,?_,λf=>by cases bj st.bA f<;>simp,λf hf=>by simp at hf⟩;have hm:e.m=st.bA:=h.m;have he:({e with φ:=e.φ,m:=st.bA}:Env)=e:=by cases e;simp at hm⊢;exact hm.symm
  rw [he];exact h
 |cons g gs ih=>
  intro e st h hp;cases hg:bj st.bA g with
  |none=>
   obtain ⟨φ',m',h1,h2,h3,h4,h5⟩:=ih h (λf hf=>hp f (by simp [hf]));refine ⟨φ',m',h1,h2,h3,λf=> ?_,λf hf o I cells ho=> ?_⟩
   ·rw [h4];by_cases Sd:f=g
    ·subst Sd;rw [hg];rfl
    ·simp [Sd]
   ·rcases AI.1 hf with rfl|hf
    ·rw [hg] at ho;cases ho
    ·exact h5 f hf o I cells ho
  |some og=>
   obtain ⟨φ1,k1,k2,k3,_,k5⟩:=freeze h hg (hp g (by simp) og hg);obtain ⟨φ',m',h1,h2,h3,h4,h5⟩:=ih k3 (by
    intro f hf o ho;have ho:bj (cN st.bA g ⟨og.ty,true,og.xs⟩) f=some o:=ho;rw [bN] at ho;by_cases Sd:f=g
    ·rw [if_pos Sd] at ho;cases ho;exact .inr rfl
    ·rw [if_neg Sd] at ho;exact hp f (by simp [hf]) o ho)
   refine ⟨φ',m',k1.trans h1,λb off hb=>(h2 b off hb).trans (k2 b off hb),h3,λf=> ?_,λf hf o I cells ho hI gh bO hb j hj=> ?_⟩
   ·rw [h4];show Option.map _ (bj (cN st.bA g ⟨og.ty,true,og.xs⟩) f)=_;rw [bN];by_cases Sd:f=g
    ·subst Sd;simp [hg]
    ·simp [Sd]
   ·by_cases Sd:f=g
    ·subst Sd;rw [hg] at ho;cases ho;exact h1.EI (k5 I cells hI gh bO hb j hj) hj
    ·rcases AI.1 hf with rfl|hf
     ·exact absurd rfl Sd
     ·refine h5 f hf o I cells ?_ hI gh bO hb j hj;show bj (cN st.bA g ⟨og.ty,true,og.xs⟩) f=_;rw [bN,if_neg Sd];exact ho
end
end Dn
/-
  What a piece of code begins with, and what stays as it was behind it. Conditions: none.
-/
namespace Dn
open Go
theorem wu {l k:List Nat}(h:meets l k=false): ∀x∈l,x∉k:=by
 induction l with
 |nil=>simp
 |cons y l ih=>
  simp only [meets] at h;cases hm:bU k y with
  |true=>simp [hm] at h
  |false=>
   simp only [hm,cond_false] at h;intro x hx;rcases AI.1 hx with rfl|hx
   ·rw [<-ck,hm];simp
   ·exact ih h x hx
theorem Kw {ks:List Nat}{r:Fr}: ∀t∈bk (qa ks r),t∈ks:=by
 induction r with
 |nil=>simp [bk,qa]
 |cons p r ih=>
  obtain ⟨k,x⟩:=p;simp only [qa];cases hb:bU ks k&&!eo x with
  |false=>simpa using ih
  |true=>
   simp only [sh] at hb;intro t ht;simp only [cond_true,bk,aaQ,AI] at ht;rcases ht with rfl|ht
   ·exact (ck _ _).1 hb.1
   ·exact ih t ht
theorem OL {qs:List Nat}{r:Fr}:bk (VC qs r)=bk r:=by simp [bk,VC]
theorem H6 {ks fs qs:List Nat}{m:List (Nat×pY)}{f:Nat}: bj (uK ks fs qs m) f=if f∈ks then (bj m f).map λo=>if f∈fs/\f∉qs then ⟨o.ty,true,o.xs⟩ else o else none:=by
 induction m with
 |nil=>simp [uK,bj]
 |cons p m ih=>
  obtain ⟨k,o⟩:=p;simp only [uK];by_cases hk:k=f
  ·subst hk;cases hm:bU ks k with
   |false=>
    have:k∉ks:=by rw [<-ck,hm];simp
    simp only [cond_false,ih,this,if_false]
   |true=>
    have:k∈ks:=(ck _ _).1 hm;simp only [cond_true,this,if_true,bj,fc,decide_true];cases hc:bU fs k&&!bU qs k with
    |true=>
     simp only [sh,aaH] at hc;have h1:=(ck _ _).1 hc.1;have h2:k∉qs:=by rw [<-ck,hc.2];simp
     simp [bj,fc,h1,h2]
    |false=>
     have: ¬(k∈fs/\k∉qs):=by
      rintro ⟨h1,h2⟩;rw [<-ck] at h1;have h2:bU qs k=false:=by cases hq:bU qs k with|false=>rfl|true=>exact absurd ((ck _ _).1 hq) h2
      simp [h1,h2] at hc
     simp [bj,fc,this]
  ·cases hm:bU ks k with
   |false=>simp only [cond_false,ih,bj,fc,hk,decide_false]
   |true=>simp only [cond_true,bj,fc,hk,decide_false,cond_false];cases bU fs k&&!bU qs k<;>simp only [cond_true,cond_false,bj,fc,hk,decide_false]<;>exact ih
theorem wv (m n:List (Nat×pY))(f:Nat):bj (m++n) f=(match bj m f with|some o=>some o|none=>bj n f):=by
 induction m with
 |nil=>simp [bj]
 |cons p m ih=>obtain ⟨k,o⟩:=p;simp only [aaN,bj,fc];by_cases hk:k=f<;>simp [hk,ih]
def qh:Slot->List aT
 | .sc l=>[l]
 | .ag cs=>cs
 | .box cs=>cs
 |_=>[]
section
variable {P:Program}{c:Ctx}{Z Zb Zi:b8} {e e':Env}{st cB B:St} {a a':Act} {w w':World}{R:Type}{K:St->Option R}{r:R}{Q:Exit->Act->World->Prop}{o:Oper}{hn:p0}
structure kN (c:Ctx) (Zb Zi:b8) (e:Env) (B:St) (hn:p0) (a:Act) (w:World):Prop where
 wo:cF c Zb e B a w
 sub: ∀b,Zi.In b->Zb.In b
 new: ∀b,w.heap.size<=b->Zi.In b
 dg: ∀t∈Zb.dg,t∈Zi.dg
 T: ∀t∈Zi.dg,a.tmps.getD t undef=Zi.T t
 keys: ∀t∈bk B.fr,t∈Zi.dg
 box: ∀t cs,aH B.fr t= .box cs-> ¬Zi.In (e.B t)
 jr: ∀f o b,bj B.bA f=some o->(e.E f).ownBlock=some b-> ¬Zi.In b
 acp: ∀t∈eB hn.all,t∉Zb.dg/\t∉Zi.dg
 Zu: ∀f∈cY hn.all,f∉Zb.dt/\bj B.bA f=none
 ptr: ∀t,eo (aH B.fr t)=false
 men: ∀t f,aT.own f∈qh (aH B.fr t)->f∉cY hn.all
theorem kN.later {φ':Ph}(h:kN c Zb Zi e B hn a w)(ht:Trans Zi.In e.φ w φ' w')(hi:EV φ' w')(hd:a'.defers=[])(hs:a'.tmps.size=c.n)(hT: ∀t∈Zi.dg,a'.tmps.getD t undef=Zi.T t): kN c Zb Zi {e with φ:=φ'} B hn a' w':=by
 have h1:=h.wo.called (Z':=Zi.In) h.sub h.box h.jr ht hi;refine ⟨?_,h.sub,λb hb=>h.new b (adp ht.size hb),h.dg,hT,h.keys,h.box,h.jr,h.acp,h.Zu,h.ptr,h.men⟩;have Aa: ∀t∈Zi.dg,a'.tmps.getD t undef=a.tmps.getD t undef:=λt ht=>(hT t ht).trans (h.T t ht).symm;refine ⟨⟨hd,h1.defers.2.1,h1.defers.2.2.1,λt ht=>(Aa t (h.dg t ht)).trans (h1.defers.2.2.2 t ht)⟩,hs,h1.m,h1.key,h1.nodup,?_,h1.root,h1.jr,h1.bb,h1.bf,h1.ff,h1.q9,h1.dp⟩;intro t;by_cases hk:t∈bk B.fr
 ·rw [Aa t (h.keys t hk)];exact h1.slot t
 ·rw [uf _ _ hk];simp [cW,ao]
theorem Zv {K2:St->St->Option R}(h:cF c Z e st a w)(hK:Vy c hn st K2=some r): ∃Zi e1 e2 dC eM,cF c Zi e1 dC a w/\Trans Z.In e.φ w e1.φ w/\e2.φ=e1.φ/\e2.key=e1.key/\kN c Z Zi e2 (yX st eM) hn a w/\kN c Zi Zi e2 eM hn a w/\(∀b,Zi.In b->Z.In b)/\fL c hn.all=true/\K2 dC eM=some r:=by
 obtain ⟨p,q,fr,m⟩:=st;unfold Vy at hK;simp only [AN,afW,ajq,abt] at hK;cases Se:!fL c hn.all||meets (eB hn.all) p||meets (cY hn.all) q||meets (eB hn.all) hn.dg||meets (cY hn.all) hn.dt with
 |true=>simp [Se] at hK
 |false=>
  simp only [Se,cond_false] at hK;simp only [IT,aaX] at Se;obtain ⟨⟨⟨⟨m0,m1⟩,m2⟩,m3⟩,m4⟩:=Se;have m1:=wu m1;have m2:=wu m2;have m3:=wu m3;have m4:=wu m4;have V9:p=Z.dg/\q=Z.dt:=⟨h.defers.2.1,h.defers.2.2.1⟩
  let mp:=uK hn.dt hn.fB q m;let mo:=uK (cY hn.all) hn.fB q m;let rp:=VC hn.dt (qa hn.dg fr);let ro:=qa (eB hn.all) fr;let fs:=hn.dt.filter λf=>match bj mp f with|some o=>o.fB|none=>false
  have DV: ∀f o,bj mp f=some o->f∈hn.dt/\ ∃o0,bj m f=some o0/\o0.ty=o.ty/\o0.xs=o.xs/\(o0.fB=true->o.fB=true)/\(f∈q->o=o0):=by
   intro f o ho;have ho:bj (uK hn.dt hn.fB q m) f=some o:=ho;rw [H6] at ho;split at ho
   ·rename_i hf;refine ⟨hf,?_⟩;cases h0:bj m f with
    |none=>rw [h0] at ho;cases ho
    |some o0=>
     rw [h0] at ho;simp only [aaZ,AT] at ho;refine ⟨o0,rfl,?_⟩;split at ho
     ·rename_i hc;subst ho;exact ⟨rfl,rfl,λ_=>rfl,λhq=>absurd hq hc.2⟩
     ·subst ho;exact ⟨rfl,rfl,id,λ_=>rfl⟩
   ·cases ho
  have hmo: ∀f o,bj mo f=some o->f∈cY hn.all/\ ∃o0,bj m f=some o0/\o0.ty=o.ty/\o0.xs=o.xs/\(o0.fB=true->o.fB=true):=by
   intro f o ho;have ho:bj (uK (cY hn.all) hn.fB q m) f=some o:=ho;rw [H6] at ho;split at ho
   ·rename_i hf;refine ⟨hf,?_⟩;cases h0:bj m f with
    |none=>rw [h0] at ho;cases ho
    |some o0=>
     rw [h0] at ho;simp only [aaZ,AT] at ho;refine ⟨o0,rfl,?_⟩;split at ho
     ·subst ho;exact ⟨rfl,rfl,λ_=>rfl⟩
     ·subst ho;exact ⟨rfl,rfl,id⟩
   ·cases ho
  obtain ⟨φ',m',f1,f2,f3,f4,f5⟩:=Zt (fs:=fs) h (by
   intro f hf o ho;simp only [fs,acZ] at hf;obtain ⟨Qx,EE⟩:=hf;by_cases hq:f∈Z.dt
   ·right;cases Nk:bj mp f with
    |none=>simp [Nk] at EE
    |some o1=>simp only [Nk] at EE;obtain ⟨_,o0,g1,_,_,_,g5⟩:=DV f o1 Nk;have ho:bj m f=some o:=ho;rw [g1] at ho;cases ho;have:=g5 (by rw [V9.2];exact hq);rw [<-this];exact EE
   ·exact .inl hq)
  let Zi:b8:=⟨λb=>Z.In b/\(∀t cs,aH rp t= .box cs->e.B t≠b)/\(∀f o,bj mp f=some o->(e.E f).ownBlock≠some b),hn.dg++p,hn.dt++q,λt=>a.tmps.getD t undef,False,λ_=>True⟩
  have ug: ∀b,w.heap.size<=b->Zi.In b:=by
   intro b hb;refine ⟨f3.dp b hb,λt cs ht=> ?_,λf o ho Nf=> ?_⟩
   ·have hrp:aH rp t=M4 hn.dt (aH (qa hn.dg fr) t):=Ot _ _ _;rw [hrp,DL _ _ h.nodup] at ht;split at ht
    ·have: ∃IV,aH fr t= .box IV:=by generalize aH fr t=s at ht;cases s<;>simp only [M4] at ht<;>first|(cases ht;done)|exact ⟨_,rfl⟩
     obtain ⟨IV,h0⟩:=this;have:=G8 (st:=⟨p,q,fr,m⟩) h h0;omega
    ·simp [M4,VB] at ht
   ·obtain ⟨_,o0,g1,_⟩:=DV f o ho;have:=G9 (st:=⟨p,q,fr,m⟩) h g1 Nf;omega
  have agv: ∀t,aH rp t=if bU hn.dg t&&!eo (aH fr t) then M4 hn.dt (aH fr t) else .sc .un:=by intro t;have hrp:aH rp t=M4 hn.dt (aH (qa hn.dg fr) t):=Ot _ _ _;rw [hrp,DL _ _ h.nodup];split<;>rfl
  have ajV: ∀t,aH ro t=if bU (eB hn.all) t&&!eo (aH fr t) then aH fr t else .sc .un:=λt=>DL _ _ h.nodup t
  have ajW: ∀t∈bk rp,t∈hn.dg:=by intro t ht;have ht:t∈bk (VC hn.dt (qa hn.dg fr)):=ht;rw [OL] at ht;exact Kw t ht
  have Kx: ∀t cs,aH rp t= .box cs->t∈hn.dg/\ ∃IV,aH fr t= .box IV:=by
   intro t cs ht;rw [agv] at ht;split at ht
   ·rename_i hc;simp only [sh] at hc;refine ⟨(ck _ _).1 hc.1,?_⟩;generalize aH fr t=s at ht;cases s<;>simp only [M4] at ht<;>first|(cases ht;done)|exact ⟨_,rfl⟩
   ·cases ht
  have au1: ∀f o,bj mp f=some o->o.fB=true->f∈fs:=by intro f o ho hz;simp only [fs,acZ];exact ⟨(DV f o ho).1,by simp only [ho];exact hz⟩
  have hm': ∀f o0,bj m f=some o0->bj m' f=some (if f∈fs then ⟨o0.ty,true,o0.xs⟩ else o0):=by intro f o0 h0;rw [f4];show Option.map _ (bj m f)=_;rw [h0];rfl
  have aiy: ∀f o,bj (mp++mo) f=some o-> ∃o1,bj m' f=some o1/\o1.ty=o.ty/\o1.xs=o.xs/\(o1.fB=true->o.fB=true):=by
   intro f o ho;rw [wv] at ho;cases Nk:bj mp f with
   |some o1=>
    simp only [Nk,AT] at ho;subst ho;obtain ⟨_,o0,g1,g2,g3,g4,_⟩:=DV f o1 Nk;refine ⟨_,hm' f o0 g1,?_⟩;split
    ·rename_i hfs;refine ⟨g2,g3,λ_=> ?_⟩;simp only [fs,acZ,Nk] at hfs;exact hfs.2
    ·exact ⟨g2,g3,g4⟩
   |none=>
    simp only [Nk] at ho;obtain ⟨g0,o0,g1,g2,g3,g4⟩:=hmo f o ho;refine ⟨_,hm' f o0 g1,?_⟩;have:f∉fs:=by intro hfs;simp only [fs,acZ] at hfs;exact m4 f g0 hfs.1
    rw [if_neg this];exact ⟨g2,g3,g4⟩
  have aok: ∀f o,bj mp f=some o-> ∃o1,bj m' f=some o1/\o1.ty=o.ty/\o1.xs=o.xs/\(o1.fB=true->o.fB=true):=by intro f o ho;exact aiy f o (by rw [wv,ho])
  have agi: ∀f o I cells b,bj mp f=some o->o.fB=true->c.ti o.ty=some I->w.ownsRow 0 o.ty I.size (e.E f) o.xs.length cells->(e.E f).ownBlock=some b-> ∀j,j<cells.length->φ' b j=cells[j]? :=by intro f o I cells b ho hz hI gh hb j hj;obtain ⟨_,o0,g1,g2,g3,_⟩:=DV f o ho;exact f5 f (au1 f o ho hz) o0 I cells g1 (by rw [g2];exact hI) (by rw [g2,g3];exact gh) b hb j hj
  have aol:(hn.dg++p)=Zi.dg/\(hn.dt++q)=Zi.dt/\ ∀t∈Zi.dg,a.tmps.getD t undef=Zi.T t:=⟨rfl,rfl,λ_ _=>rfl⟩
  have hkd:(bk rp).Nodup:=by have:bk rp=bk (qa hn.dg fr):=OL;rw [this];exact (yY _ _).nodup h.nodup
  have acr: ∀t,aH rp t= .sc .un\/(eo (aH fr t)=false/\(aH rp t=aH fr t\/ ∃qs,aH rp t=M4 qs (aH fr t))):=by
   intro t;rw [agv];cases hc:bU hn.dg t&&!eo (aH fr t) with
   |false=>exact .inl (by simp)
   |true=>simp only [sh,aaH] at hc;exact .inr ⟨hc.2,.inr ⟨hn.dt,by simp⟩⟩
  have aiz: ∀(Zb:b8) (pb qb:List Nat),pb=Zb.dg->qb=Zb.dt->(∀t∈Zb.dg,a.tmps.getD t undef=Zb.T t)->(∀t∈Z.dg,t∈Zb.dg)->(∀t cs,aH rp t= .box cs->(t∈Zb.dg/\Zb.Pr (e.B t))\/Zb.In (e.B t))-> (∀f o b,bj mp f=some o->(e.E f).ownBlock=some b->(f∈Zb.dt/\Zb.Pr b)\/Zb.In b)->(∀b,w.heap.size<=b->Zb.In b)->cF c Zb {e with φ:=φ',m:=mp} ⟨pb,qb,rp,mp⟩ a w:=by intro Zb pb qb h1 h2 h3 hpp h4 h5 h6;exact f3.sub (cB:=⟨pb,qb,rp,mp⟩) hpp ⟨h1,h2,h3⟩ hkd acr aok h4 h5 (λf o I cells b ho _ hz hI gh hb j hj=>agi f o I cells b ho hz hI gh hb j hj) h6
  have agw: ∀t f,aT.own f∈qh (aH rp t)->f∉cY hn.all:=by
   intro t f hf;have:f∈hn.dt:=by
    rw [agv] at hf;split at hf
    ·generalize aH fr t=s at hf;cases s<;>simp only [M4,qh,AI,aaW,List.not_mem_nil,or_false] at hf
     ·exact VD hn.dt _ f hf.symm
     ·obtain ⟨l,_,hl⟩:=hf;exact VD hn.dt l f hl
     ·obtain ⟨l,_,hl⟩:=hf;exact VD hn.dt l f hl
    ·simp [qh] at hf
   exact λho=>m4 f ho this
  have abN: ∀t,eo (aH rp t)=false:=by
   intro t;rw [agv];split
   ·rename_i hc;simp only [sh,aaH] at hc;generalize aH fr t=s at hc;cases s<;>simp [eo] at hc<;>rfl
   ·rfl
  have aiA: ∀b,Zi.In b->Z.In b:=λb hb=>hb.1;refine ⟨Zi,{e with φ:=φ',m:=mp++mo},{e with φ:=φ',m:=mp},⟨hn.dg++p,hn.dt++q,rp++ro,mp++mo⟩,⟨hn.dg++p,hn.dt++q,rp,mp⟩,?_,⟨f1,λ_ _ _=>rfl,f2,acO _,.refl _⟩,rfl,rfl,?_,?_,aiA,m0,hK⟩
  ·have hkk: ∀t,aH (rp++ro) t=aH rp t\/(t∈eB hn.all/\aH rp t= .sc .un/\aH (rp++ro) t=aH ro t):=by
    intro t;rw [AO];by_cases hk:t∈bk rp
    ·simp [hk]
    ·simp only [hk,if_false];have h0:=uf rp t hk;by_cases OC:t∈eB hn.all
     ·exact .inr ⟨OC,h0,trivial⟩
     ·left;rw [h0,ajV];have:bU (eB hn.all) t=false:=by cases hq:bU (eB hn.all) t with|false=>rfl|true=>exact absurd ((ck _ _).1 hq) OC
      simp [this]
   refine f3.sub (cB:=⟨hn.dg++p,hn.dt++q,rp++ro,mp++mo⟩) (λt ht=>aay _ (by rw [V9.1];exact ht)) aol ?_ ?_ aiy ?_ ?_ ?_ ug
   ·show (bk (rp++ro)).Nodup;have:bk (rp++ro)=bk rp++bk ro:=by simp [bk]
    rw [this];refine List.nodup_append.2 ⟨hkd,(yY _ _).nodup h.nodup,?_⟩;intro x hx y hy hxy;subst hxy;exact m3 x (Kw x hy) (ajW x hx)
   ·intro t;show aH (rp++ro) t=_\/(_/\(aH (rp++ro) t=_\/ ∃qs,aH (rp++ro) t=_));rcases hkk t with hk|⟨hk1,OC,hk⟩
    ·rw [hk];exact acr t
    ·rw [hk,ajV];cases hc:bU (eB hn.all) t&&!eo (aH fr t) with
     |false=>exact .inl (by simp)
     |true=>simp only [sh,aaH] at hc;exact .inr ⟨hc.2,.inl (by simp)⟩
   ·intro t cs ht;have ht:aH (rp++ro) t= .box cs:=ht;rcases hkk t with hk|⟨hk1,OC,hk⟩
    ·rw [hk] at ht;exact .inl ⟨No _ (Kx t cs ht).1,trivial⟩
    ·rw [hk,ajV] at ht;split at ht
     ·right;refine ⟨?_,?_,?_⟩
      ·have hs:=h.slot t;have EM:aH (St.fr ⟨p,q,fr,m⟩) t= .box cs:=ht;rw [EM] at hs;refine R9 hs.2.dp ?_;rw [<-V9.1];exact m1 t hk1
      ·intro t2 iM uP C7;obtain ⟨g1,IV,g2⟩:=Kx t2 iM uP;exact h.bb t2 t IV cs g2 ht (by intro he;subst he;exact m3 t2 hk1 g1) C7
      ·intro f o ho C7;obtain ⟨_,o0,g1,_⟩:=DV f o ho;exact h.bf t cs f o0 ht g1 C7
     ·cases ht
   ·intro f o b ho hb;have ho:bj (mp++mo) f=some o:=ho;rw [wv] at ho;cases Nk:bj mp f with
    |some o1=>exact .inl ⟨No _ (DV f o1 Nk).1,trivial⟩
    |none=>
     right;simp only [Nk] at ho;obtain ⟨g0,o0,g1,_⟩:=hmo f o ho;obtain ⟨I,cells,_,_,_,_,g5⟩:=(h.jr f o0 g1).row;refine ⟨R9 (g5 b hb).1 (by rw [<-V9.2];exact m2 f g0),?_,?_⟩
     ·intro t cs ht C7;obtain ⟨_,IV,k2⟩:=Kx t cs ht;exact h.bf t IV f o0 k2 g1 (by rw [C7];exact hb)
     ·intro f2 o2 dr C7;obtain ⟨k0,o20,k1,_⟩:=DV f2 o2 dr;have:=h.ff f f2 o0 o20 b g1 k1 hb C7;subst this;exact m4 f g0 k0
   ·intro f o I cells b ho hp hz hI gh hb j hj;have ho:bj (mp++mo) f=some o:=ho;rw [wv] at ho;cases Nk:bj mp f with
    |some o1=>simp only [Nk,AT] at ho;subst ho;exact agi f o1 I cells b Nk hz hI gh hb j hj
    |none=>
     simp only [Nk] at ho;obtain ⟨g0,_⟩:=hmo f o ho;exfalso;rcases aaY.1 hp with hp|hp
     ·exact m4 f g0 hp
     ·exact m2 f g0 hp
  ·refine ⟨aiz Z p q V9.1 V9.2 h.defers.2.2.2 (λ_ h=>h) ?_ ?_ f3.dp,aiA,ug,λt ht=>aay _ (by rw [V9.1];exact ht),λ_ _=>rfl,λt ht=>No _ (ajW t ht),?_,?_,?_,?_,abN,agw⟩
   ·intro t cs ht;obtain ⟨_,IV,g2⟩:=Kx t cs ht;have hs:=h.slot t;have g2':aH (St.fr ⟨p,q,fr,m⟩) t= .box IV:=g2;rw [g2'] at hs;exact hs.2.dp
   ·intro f o b ho hb;obtain ⟨_,o0,g1,_⟩:=DV f o ho;obtain ⟨I,cells,_,_,_,_,g5⟩:=(h.jr f o0 g1).row;exact (g5 b hb).1
   ·intro t cs ht hz;exact hz.2.1 t cs ht rfl
   ·intro f o b ho hb hz;exact hz.2.2 f o ho hb
   ·intro t ht;exact ⟨by rw [<-V9.1];exact m1 t ht,by show t∉hn.dg++p;simp only [aaY,not_or];exact ⟨m3 t ht,m1 t ht⟩⟩
   ·intro f hf;refine ⟨by rw [<-V9.2];exact m2 f hf,?_⟩;cases Nk:bj mp f with
    |none=>first|exact Nk|rfl
    |some o1=>exact absurd (DV f o1 Nk).1 (m4 f hf)
  ·refine ⟨aiz Zi _ _ rfl rfl (λ_ _=>rfl) (λt ht=>aay _ (by rw [V9.1];exact ht)) ?_ ?_ ug,λb hb=>hb,ug,λt ht=>ht,λ_ _=>rfl,λt ht=>No _ (ajW t ht),?_,?_,?_,?_,abN,agw⟩
   ·intro t cs ht;exact .inl ⟨No _ (Kx t cs ht).1,trivial⟩
   ·intro f o b ho hb;exact .inl ⟨No _ (DV f o ho).1,trivial⟩
   ·intro t cs ht hz;exact hz.2.1 t cs ht rfl
   ·intro f o b ho hb hz;exact hz.2.2 f o ho hb
   ·intro t ht;have:t∉hn.dg++p:=by simp only [aaY,not_or];exact ⟨m3 t ht,m1 t ht⟩
    exact ⟨this,this⟩
   ·intro f hf;refine ⟨by show f∉hn.dt++q;simp only [aaY,not_or];exact ⟨m4 f hf,m2 f hf⟩,?_⟩;cases Nk:bj mp f with
    |none=>first|exact Nk|rfl
    |some o1=>exact absurd (DV f o1 Nk).1 (m4 f hf)
theorem E1 {K2:St->St->Option R}(h:cF c Z e st a w)(hK:GZ c hn st K2=some r): ∃Zi e1 e2 dC eM,cF c Zi e1 dC a w/\Trans Z.In e.φ w e1.φ w/\e2.φ=e1.φ/\e2.key=e1.key/\kN c Z Zi e2 (yX st eM) hn a w/\kN c Zi Zi e2 eM hn a w/\(∀b,Zi.In b->Z.In b)/\fL c hn.all=true/\K2 dC eM=some r:=by unfold GZ at hK;obtain ⟨Zi,e1,e2,dC,eM,h1,t1,hφ,hk,j1,j2,lz,kK,hK⟩:=Zv h hK;obtain ⟨fr,g1,g2⟩:=Kn h (SP h.nodup) h1 hK;exact ⟨Zi,e1,e2,_,eM,g1,t1,hφ,hk,j1,j2,lz,kK,g2⟩
end
end Dn
/-
  What a piece of code hands on. Conditions: none.
-/
namespace Dn
open Go
section
variable {P:Program}{c:Ctx}{Z Zb Zi:b8} {e e' e3:Env}{st cB ra B:St} {a a':Act} {w w':World}{R:Type}{K:St->Option R}{r:R}{Q:Exit->Act->World->Prop}{o:Oper}{hn:p0}
structure Ev (S:Nat->Prop) (e e':Env):Prop where
 key:e'.key=e.key
 φ:e'.φ=e.φ
 jr: ∀f o,bj e'.m f=some o->S f->(∃o0,bj e.m f=some o0)/\e'.E f=e.E f
theorem Ev.refl (S:Nat->Prop)(e:Env):Ev S e e:=⟨rfl,rfl,λf o h _=>⟨⟨o,h⟩,rfl⟩⟩
theorem Ev.trans {S:Nat->Prop} {e e' e'':Env}(h:Ev S e e') (h':Ev S e' e''):Ev S e e'':=⟨h'.key.trans h.key,h'.φ.trans h.φ,λf o ho hs=>by obtain ⟨⟨o1,g1⟩,g2⟩:=h'.jr f o ho hs;obtain ⟨g3,g4⟩:=h.jr f o1 g1 hs;exact ⟨g3,g2.trans g4⟩⟩
theorem Ev.au2 {S S':Nat->Prop} {e e':Env}(h:Ev S e e')(hs: ∀f,S' f->S f):Ev S' e e':=⟨h.key,h.φ,λf o ho hf=>h.jr f o ho (hs f hf)⟩
theorem bo.ev {S:Nat->Prop}(h:Ev S e e'){vs:List Value}{l:aT}(hl: ∀f,l= .own f->S f)(hr:bo e vs l):bo e' vs l:=by
 cases l with
 |own f=>obtain ⟨v,rfl,hv,hf⟩:=hr;refine ⟨v,rfl,hv,λo' Nc=> ?_⟩;obtain ⟨⟨o,ho⟩,hE⟩:=h.jr f o' Nc (hl f rfl);rw [hE];exact hf o ho
 |p m=>exact ⟨hr.1,by rw [h.key,h.φ];exact hr.2⟩
 |_=>exact hr
theorem aM.ev {S:Nat->Prop}(h:Ev S e e'){cs:List aT}: ∀{vs:List Value},(∀f,aT.own f∈cs->S f)->aM e vs cs->aM e' vs cs:=by
 induction cs with
 |nil=>intro vs _ hr;exact hr
 |cons l r ih=>intro vs hl hr;obtain ⟨v,u,rfl,h1,h2⟩:=hr;exact ⟨v,u,rfl,h1.ev h (λf hf=>hl f (by simp [hf])),ih (λf hf=>hl f (by simp [hf])) h2⟩
theorem kX.ev {S:Nat->Prop}(h:Ev S e e'){ob:Obj}{cs:List aT}(hl: ∀f,aT.own f∈cs->S f)(hr:kX e ob cs):kX e' ob cs:=by
 cases ob with
 |cells arr T z=>exact ⟨hr.1,hr.2.ev h hl⟩
 |map es clock=>exact hr
 |stringIter x pos=>exact hr
 |_=>exact hr.elim
theorem ao.ev {S:Nat->Prop}(h:Ev S e e'){v:Value}{s:Slot}(hp:eo s=false)(hl: ∀f,aT.own f∈qh s->S f)(hr:ao e v s):ao e' v s:=by
 have ab6:oe (λ_=>False) (λ_=>False) e e':=⟨h.key,by rw [h.φ];exact .refl _,λ_ hf=>hf.elim,λ_ _ _ hf=>hf.elim⟩
 cases s with
 |sc l=>
  cases l<;>first|exact hr|skip
  ·exact bo.ev (l:= .p _) h (λf hf=>by cases hf) hr
  ·rename_i f;exact bo.ev (l:= .own f) h (λf hf=>hl f (by simp [qh,hf])) hr
 |ag cs=>simp only [ao] at hr⊢;obtain ⟨arr,h1,h2⟩:=hr;exact ⟨arr,h1,h2.ev h (λf hf=>hl f hf)⟩
 |ptr=>simp [eo] at hp
 |AJ=>simp [eo] at hp
 |rp=>simp [eo] at hp
 |hp=>simp [eo] at hp
 |ep=>simp [eo] at hp
 |_=>exact hr.on ab6 (by simp [hM])
theorem xV {fr:Fr}{s:Slot}(h:eo s=false):dq fr s:=by cases s<;>simp [eo] at h<;>trivial
theorem cF.agx {t:Nat}{s:Slot}(h:cF c Z e st a w)(hp: ∀t,eo (aH st.fr t)=false)(hs:eo s=false)(hb:dD s=false)(hr:ao e (a.tmps.getD t undef) s): cF c Z e {st with fr:=dz st.fr t s} a w:=by
 have hg: ∀t',aH (dz st.fr t s) t'=if t'=t then s else aH st.fr t':=λt'=>cE _ _ _ _
 have tJ: ∀t' cs,aH (dz st.fr t s) t'= .box cs->t'≠t/\aH st.fr t'= .box cs:=by
  intro t' cs ht;rw [hg] at ht;by_cases xm:t'=t
  ·rw [if_pos xm] at ht;subst ht;simp [dD] at hb
  ·rw [if_neg xm] at ht;exact ⟨xm,ht⟩
 refine ⟨h.defers,h.size,h.m,h.key,fZ h.nodup,?_,?_,h.jr,?_,?_,h.ff,h.q9,h.dp⟩
 ·intro t';show cW Z e w t' _ (aH (dz st.fr t s) t');rw [hg];by_cases xm:t'=t
  ·subst xm;simp only [if_true];cases s<;>first|exact hr|(simp [dD] at hb)
  ·simp only [xm,if_false];exact h.slot t'
 ·intro t';show dq _ (aH (dz st.fr t s) t');rw [hg];by_cases xm:t'=t
  ·simp only [xm,if_true];exact xV hs
  ·simp only [xm,if_false];exact xV (hp t')
 ·intro t1 t2 c1 c2 h1 h2 eu;exact h.bb t1 t2 c1 c2 (tJ t1 c1 h1).2 (tJ t2 c2 h2).2 eu
 ·intro t1 c1 f o h1 h2;exact h.bf t1 c1 f o (tJ t1 c1 h1).2 h2
theorem cF.ajX {t bO:Nat}{cs:List aT}(h:cF c Z e st a w)(hp: ∀t,eo (aH st.fr t)=false)(hv:tied Z t (a.tmps.getD t undef) cs bO)(ET:wg (Z.bz t) e w bO cs)(h1: ∀t' j9,aH st.fr t'= .box j9->t'≠t->e.B t'≠bO)(h2: ∀f o,bj st.bA f=some o->(e.E f).ownBlock≠some bO): cF c Z (e.EL t bO) {st with fr:=dz st.fr t (.box cs)} a w:=by
 have yR:oe (λ_=>True) (λ_=>False) e (e.EL t bO):=⟨rfl,.refl _,λr hr=>hr.elim,λf o ho _=>⟨o,ho,rfl,rfl⟩⟩
 have hg: ∀t',aH (dz st.fr t (.box cs)) t'=if t'=t then .box cs else aH st.fr t':=λt'=>cE _ _ _ _
 refine ⟨h.defers,h.size,h.m,h.key,fZ h.nodup,?_,?_,λf o ho=>(h.jr f o ho).env rfl rfl,?_,?_,h.ff,h.q9,h.dp⟩
 ·intro t';show cW Z _ w t' _ (aH (dz st.fr t (.box cs)) t');rw [hg];by_cases xm:t'=t
  ·subst xm;simp only [if_true,cW,Env.EL];exact ⟨hv,ET.env rfl rfl rfl rfl⟩
  ·simp only [xm,if_false];have hs:=h.slot t';have IU:=hp t';generalize aH st.fr t'=s at hs IU;cases s<;>simp only [cW] at hs⊢ <;>first|(simp [eo] at IU;done)|exact hs.on yR (by simp [hM,ko])|skip
   simp only [Env.EL,xm,if_false];exact ⟨hs.1,hs.2.env rfl rfl rfl rfl⟩
 ·intro t';show dq _ (aH (dz st.fr t (.box cs)) t');rw [hg];by_cases xm:t'=t
  ·simp only [xm,if_true];trivial
  ·simp only [xm,if_false];exact xV (hp t')
 ·intro t1 t2 c1 c2 g1 g2 eu;have g1:aH (dz st.fr t (.box cs)) t1= .box c1:=g1;have g2:aH (dz st.fr t (.box cs)) t2= .box c2:=g2;rw [hg] at g1 g2;simp only [Env.EL];by_cases k1:t1=t
  ·by_cases k2:t2=t
   ·exact absurd (k1.trans k2.symm) eu
   ·rw [if_neg k2] at g2;simp only [k1,k2,if_true,if_false];exact λhe=>h1 t2 c2 g2 k2 he.symm
  ·rw [if_neg k1] at g1;by_cases k2:t2=t
   ·simp only [k1,k2,if_true,if_false];exact h1 t1 c1 g1 k1
   ·rw [if_neg k2] at g2;simp only [k1,k2,if_false];exact h.bb t1 t2 c1 c2 g1 g2 eu
 ·intro t1 c1 f o g1 g2;have g1:aH (dz st.fr t (.box cs)) t1= .box c1:=g1;rw [hg] at g1;simp only [Env.EL];by_cases k1:t1=t
  ·simp only [k1,if_true];exact h2 f o g2
  ·rw [if_neg k1] at g1;simp only [k1,if_false];exact h.bf t1 c1 f o g1 g2
def Env.QM (e:Env)(f:Nat)(v:Value)(fo:pY):Env:={e with E:=λg=>if g=f then v else e.E g,m:=cN e.m f fo}
theorem cF.acu {f:Nat}{v:Value}{fo:pY}(h:cF c Z e st a w)(hp: ∀t,eo (aH st.fr t)=false)(DP:f∉Z.dt)(mK:eD c Z.nc e w v fo)(hb: ∀b,v.ownBlock=some b->(∀t cs,aH st.fr t= .box cs->e.B t≠b)/\(∀g o,g≠f->bj st.bA g=some o->(e.E g).ownBlock≠some b))(Nd:Ev (λg=> ∃t,aT.own g∈qh (aH st.fr t)) e (e.QM f v fo)):cF c Z (e.QM f v fo) {st with bA:=cN st.bA f fo} a w:=by
 refine ⟨h.defers,h.size,by show cN e.m f _=cN st.bA f _;rw [h.m],h.key,h.nodup,?_,h.root,?_,h.bb,?_,?_,h.q9,h.dp⟩
 ·intro t;have hs:=h.slot t;have hl: ∀f,aT.own f∈qh (aH st.fr t)-> ∃t,aT.own f∈qh (aH st.fr t):=λf hf=>⟨t,hf⟩
  have hpt:=hp t;show cW Z _ w t _ (aH st.fr t);generalize aH st.fr t=s at hs hpt hl;by_cases Kg: ∃cs,s= .box cs
  ·obtain ⟨cs,rfl⟩:=Kg;simp only [cW] at hs⊢;obtain ⟨o2,h1,h2⟩:=hs.2.obj;exact ⟨hs.1,hs.2.dp,⟨o2,h1,h2.ev Nd hl⟩,hs.2.free⟩
  ·have Dd:ao e (a.tmps.getD t undef) s:=by cases s<;>simp only [cW] at hs<;>first|exact hs|exact absurd ⟨_,rfl⟩ Kg
   have h2:=Dd.ev Nd hpt hl;cases s<;>first|exact h2|exact absurd ⟨_,rfl⟩ Kg
 ·intro f2 o2 dr;have dr:bj (cN st.bA f fo) f2=some o2:=dr;rw [bN] at dr;show eD c (Z.fz f2) _ w (if f2=f then v else e.E f2) o2;by_cases gy:f2=f
  ·rw [if_pos gy];rw [if_pos gy] at dr;cases dr;rw [gy];exact (mK.to DP).env rfl rfl
  ·rw [if_neg gy];rw [if_neg gy] at dr;exact (h.jr f2 o2 dr).env rfl rfl
 ·intro t c1 f2 o2 h1 h2;have h2:bj (cN st.bA f fo) f2=some o2:=h2;rw [bN] at h2;show (if f2=f then v else e.E f2).ownBlock≠some (e.B t);by_cases gy:f2=f
  ·rw [if_pos gy];intro hh;exact (hb _ hh).1 t c1 h1 rfl
  ·rw [if_neg gy] at h2⊢;exact h.bf t c1 f2 o2 h1 h2
 ·intro f1 f2 o1 o2 k h1 h2 h3 h4;have h1:bj (cN st.bA f fo) f1=some o1:=h1;have h2:bj (cN st.bA f fo) f2=some o2:=h2;have h3:(if f1=f then v else e.E f1).ownBlock=some k:=h3;have h4:(if f2=f then v else e.E f2).ownBlock=some k:=h4;rw [bN] at h1 h2;by_cases k1:f1=f
  ·by_cases k2:f2=f
   ·rw [k1,k2]
   ·rw [if_pos k1] at h3;rw [if_neg k2] at h4 h2;exact absurd h4 ((hb k h3).2 f2 o2 k2 h2)
  ·rw [if_neg k1] at h3 h1;by_cases k2:f2=f
   ·rw [if_pos k2] at h4;exact absurd h3 ((hb k h4).2 f1 o1 k1 h1)
   ·rw [if_neg k2] at h4 h2;exact h.ff f1 f2 o1 o2 k h1 h2 h3 h4
inductive TK (st:St) (ps:List (Nat×Nat)):LK->aT->MV->List (Nat×Nat)->Prop
 |QF:TK st ps (.k .l) .nil (.list []) ps
 |hs (x:lp):TK st ps (.k .h) (.hs x) (.h x) ps
 |p (x:Kd) (m:MV):TK st ps (.k x) (.p m) m ps
 |own (f ty:Nat) (fB:Bool) (g:Nat) (o:pY):bj st.bA g=some o->o.ty=ty->(o.fB=true->fB=true)->g∉st.dt->nV ps f (g+1)=true->TK st ps (.own f ty fB) (.own g) (.list o.xs) ((f,g+1)::ps)
 |zg (f ty:Nat) (fB:Bool):nV ps f 0=true->TK st ps (.own f ty fB) .nil (.list []) ((f,0)::ps)
theorem Wa {k:Kd}{m:MV} {K':aT->Option R}(h:lq k m K'=some r): ∃l,K' l=some r:=by obtain ⟨l,_,h⟩:=o6 (e:=⟨λn=>n,λ_ _=>none,λ_=>undef,λ_=>0,[]⟩) (vs:=[]) h;exact ⟨l,h⟩
theorem SZ {ps:List (Nat×Nat)}{k:LK}{l:aT} {K':MV->List (Nat×Nat)->Option R}(h:Ql st ps k l K'=some r): ∃m kM,TK st ps k l m kM/\K' m kM=some r:=by
 unfold Ql at h;split at h
 ·exact ⟨_,_,.QF,h⟩
 ·exact ⟨_,_,.hs _,h⟩
 ·obtain ⟨_,h⟩:=Wa h;exact ⟨_,_,.p _ _,h⟩
 ·rename_i f ty fB g;cases ho:bj st.bA g with
  |none=>simp [ho] at h
  |some o=>
   simp only [ho] at h;cases hc:!BY o.ty ty||(o.fB&&!fB)||bU st.dt g||!nV ps f (g+1) with
   |true=>simp [hc] at h
   |false=>
    simp only [hc,cond_false] at h;simp only [IT,aaX] at hc;obtain ⟨⟨⟨h1,h2⟩,h3⟩,h4⟩:=hc;refine ⟨_,_,.own f ty fB g o ho (fj h1) ?_ ?_ h4,h⟩
    ·intro hz;rw [hz] at h2;simpa using h2
    ·rw [<-ck,h3];simp
 ·rename_i f ty fB;cases hc:nV ps f 0 with
  |false=>simp [hc] at h
  |true=>simp only [hc,cond_true] at h;exact ⟨_,_,.zg f ty fB hc,h⟩
 ·simp at h
theorem H7 {ps:List (Nat×Nat)}{f g:Nat}(h:nV ps f g=true):(∀b,(f,b)∈ps->b=g/\g≠0)/\(∀x,(x,g)∈ps->x≠f->g=0):=by
 induction ps with
 |nil=>simp
 |cons p ps ih=>
  obtain ⟨x,y⟩:=p;simp only [nV,sh,fc] at h;obtain ⟨h1,h2⟩:=h;obtain ⟨i1,i2⟩:=ih h2;refine ⟨?_,?_⟩
  ·intro b hb;rcases AI.1 hb with hb|hb
   ·cases hb;simp at h1;exact ⟨h1.1,h1.2⟩
   ·exact i1 b hb
  ·intro z hz eu;rcases AI.1 hz with hz|hz
   ·cases hz;simp [eu] at h1;exact h1
   ·exact i2 z hz eu
structure Inv (c:Ctx) (Zb Zi:b8) (e3:Env) (ra:St) (F:List Nat) (ps:List (Nat×Nat)) (e:Env) (st:St) (a:Act) (w:World):Prop where
 wo:cF c Zb e st a w
 φ:e.φ=e3.φ
 box: ∀t cs,aH st.fr t= .box cs-> ¬Zi.In (e.B t)\/(e.B t=e3.B t/\ ∃nn,aH ra.fr t= .box nn)
 jr: ∀f o b,bj st.bA f=some o->(e.E f).ownBlock=some b-> ¬Zi.In b\/ ∃g,(f,g+1)∈ps
 pair: ∀f g,(f,g+1)∈ps->e.E f=e3.E g/\ ∃o3,bj ra.bA g=some o3
 has: ∀f x,(f,x)∈ps-> ∃o,bj st.bA f=some o
 own: ∀f∈F,∀o,bj st.bA f=some o-> ∃x,(f,x)∈ps
 ptr: ∀t,eo (aH st.fr t)=false
 men: ∀t f,aT.own f∈qh (aH st.fr t)->f∉F\/ ∃x,(f,x)∈ps
theorem Zw {F:List Nat}{ps kM:List (Nat×Nat)}{k:LK}{l:aT}{m:MV}{vs:List Value} {K':aT->St->Option R}(hi:Inv c Zb Zi e3 ra F ps e st a w)(h3:cF c Zi e3 ra a w)(lz: ∀b,Zi.In b->Zb.In b)(hF: ∀f∈dc [k],f∈F/\f∉Zb.dt)(hl:bo e3 vs l)(ht:TK ra ps k l m kM)(hK:mH st k m K'=some r)(kK: ∀f ty fB,k= .own f ty fB-> ∃I,c.ti ty=some I/\I.dJ=[]): ∃e' cB l',K' l' cB=some r/\Inv c Zb Zi e3 ra F kM e' cB a w/\bo e' vs l'/\cB.fr=st.fr/\Ev (λf=>f∉F\/ ∃x,(f,x)∈ps) e e'/\(∀p∈ps,p∈kM)/\(∀f,l'= .own f-> ∃x,(f,x)∈kM)/\e'.B=e.B/\l'≠ .un:=by
 have hkφ: ∀{vs m},nr e3.key e3.φ vs m->nr e.key e.φ vs m:=by intro vs m h;rw [hi.φ,hi.wo.key,<-h3.key];exact h
 have simple: ∀{x:Kd} {m:MV},nr e3.key e3.φ vs m->(lq x m λl=>K' l st)=some r-> ∃e' cB l',K' l' cB=some r/\Inv c Zb Zi e3 ra F ps e' cB a w/\bo e' vs l'/\cB.fr=st.fr/\Ev (λf=>f∉F\/ ∃x,(f,x)∈ps) e e'/\(∀p∈ps,p∈ps)/\(∀f,l'= .own f-> ∃x,(f,x)∈ps)/\e'.B=e.B/\l'≠ .un:=by
  intro x m hr hK;obtain ⟨l',G4,hK⟩:=o6 (e:=e) (vs:=vs) hK;refine ⟨e,st,l',hK,hi,G4.rep (hkφ hr),rfl,.refl _ _,λp hp=>hp,λf hf=> ?_,rfl,λhu=> ?_⟩
  ·have:=G4.pur;rw [hf] at this;simp [wc] at this
  ·have:=G4.pur;rw [hu] at this;simp [wc] at this
 cases ht with
 |QF=>have hl:vs=[.slice none 0 0]:=hl;subst hl;exact simple (x:= .l) (.list none 0 [] 0 0 0 (λ_=>[]) (by simp) (by simp) (by simp) (by simp) (by simp)) hK
 |hs x=>have hl:vs=bV x:=hl;subst hl;exact simple (x:= .h) (.h x) hK
 |p x m=>exact simple hl.2 hK
 |own f ty fB g o3 ho aom hfz hg hpo=>
  obtain ⟨v,rfl,hv,hE⟩:=hl;have hE:=hE o3 (by rw [h3.m];exact ho);obtain ⟨hfF,hfp⟩:=hF f (by simp [dc]);obtain ⟨p1,p2⟩:=H7 hpo;simp only [mH,gL,qc] at hK;have hgz:g∉Zi.dt:=by rw [<-h3.defers.2.2.1];exact hg
  obtain ⟨I,cells,q1,q2,q3,q4,q5⟩:=(h3.jr g o3 ho).row;have Ap: ∀b,v.ownBlock=some b->Zi.In b:=λb hb=>R9 (q5 b (by rw [<-hE];exact hb)).1 hgz;have mK:eD c Zb.nc e w v ⟨ty,fB,o3.xs⟩:=by refine ⟨I,cells,by rw [<-aom];exact q1,q2,by rw [<-aom,hE];exact q3,by rw [hi.φ,hi.wo.key,<-h3.key];exact q4,λbO hb=>⟨lz _ (Ap bO hb),λoff u hu=> ?_,λhc=>hc.elim⟩⟩;rw [hi.φ] at hu;obtain ⟨k1,k2⟩:=(q5 bO (by rw [<-hE];exact hb)).2.1 off u hu;exact ⟨hfz k1,k2⟩
  have hold: ∀x,(f,x)∈ps->e.E f=v:=by intro x hx;have:=(p1 x hx).1;subst this;rw [(hi.pair f g hx).1,hE]
  have acv: ∀S:Nat->Prop,(S f-> ∃x,(f,x)∈ps)->Ev S e (e.QM f v ⟨ty,fB,o3.xs⟩):=by
   intro S hS;refine ⟨rfl,rfl,λf2 o2 dr hs=> ?_⟩;have dr:bj (cN e.m f ⟨ty,fB,o3.xs⟩) f2=some o2:=dr;rw [bN] at dr;by_cases gy:f2=f
   ·subst gy;obtain ⟨x,hx⟩:=hS hs;obtain ⟨o0,h0⟩:=hi.has f2 x hx;exact ⟨⟨o0,by rw [hi.wo.m];exact h0⟩,by simp only [Env.QM,if_true];exact (hold x hx).symm⟩
   ·rw [if_neg gy] at dr;exact ⟨⟨o2,dr⟩,by simp only [Env.QM,gy,if_false]⟩
  have Nf: ∀b,v.ownBlock=some b->(∀t cs,aH st.fr t= .box cs->e.B t≠b)/\(∀g' o',g'≠f->bj st.bA g'=some o'->(e.E g').ownBlock≠some b):=by
   intro b hb;refine ⟨λt cs ET hbt=> ?_,λg' o' eu hog hbg=> ?_⟩
   ·rcases hi.box t cs ET with h0|⟨h0,nn,h1⟩
    ·exact h0 (by rw [hbt];exact Ap b hb)
    ·exact h3.bf t nn g o3 h1 ho (by rw [<-hE,<-h0,hbt];exact hb)
   ·rcases hi.jr g' o' b hog hbg with h0|⟨x,h0⟩
    ·exact h0 (Ap b hb)
    ·obtain ⟨h5,o5,h6⟩:=hi.pair g' x h0;rw [h5] at hbg;have:=h3.ff g x o3 o5 b ho h6 (by rw [<-hE];exact hb) hbg;subst this;have:=p2 g' h0 eu;omega
  have tP:=hi.wo.acu hi.ptr hfp mK Nf (acv _ (λ⟨t,hm⟩=>(hi.men t f hm).resolve_left (λhn=>hn hfF)));refine ⟨_,_,.own f,hK,⟨tP,hi.φ,hi.box,?_,?_,?_,?_,hi.ptr,?_⟩,?_,rfl,acv _ (λhs=>hs.resolve_left (λhn=>hn hfF)),λp hp=>by simp [hp],λf' hf'=>by cases hf';exact ⟨g+1,by simp⟩,rfl,λhu=>by cases hu⟩
  ·intro f2 o2 b dr hb;have dr:bj (cN st.bA f ⟨ty,fB,o3.xs⟩) f2=some o2:=dr;have hb:(if f2=f then v else e.E f2).ownBlock=some b:=hb;rw [bN] at dr;by_cases gy:f2=f
   ·subst gy;exact .inr ⟨g,by simp⟩
   ·rw [if_neg gy] at dr hb;rcases hi.jr f2 o2 b dr hb with h0|⟨x,h0⟩
    ·exact .inl h0
    ·exact .inr ⟨x,by simp [h0]⟩
  ·intro f2 g2 hp;show (if f2=f then v else e.E f2)=_/\_;rcases AI.1 hp with Vk|Vk
   ·simp only [aaJ,abW] at Vk;obtain ⟨rfl,rfl⟩:=Vk;simp only [if_true];exact ⟨hE,o3,ho⟩
   ·by_cases gy:f2=f
    ·subst gy;have:=(p1 _ Vk).1;have:g2=g:=by omega
     subst this;simp only [if_true];exact ⟨hE,o3,ho⟩
    ·rw [if_neg gy];exact hi.pair f2 g2 Vk
  ·intro f2 x hp;show∃o,bj (cN st.bA f ⟨ty,fB,o3.xs⟩) f2=some o;rw [bN];by_cases gy:f2=f
   ·rw [if_pos gy];exact ⟨_,rfl⟩
   ·rw [if_neg gy];rcases AI.1 hp with hp|hp
    ·exact absurd (Prod.mk.inj hp).1 gy
    ·exact hi.has f2 x hp
  ·intro f2 EE o2 dr;have dr:bj (cN st.bA f ⟨ty,fB,o3.xs⟩) f2=some o2:=dr;rw [bN] at dr;by_cases gy:f2=f
   ·subst gy;exact ⟨g+1,by simp⟩
   ·rw [if_neg gy] at dr;obtain ⟨x,hx⟩:=hi.own f2 EE o2 dr;exact ⟨x,by simp [hx]⟩
  ·intro t f2 hm;rcases hi.men t f2 hm with h0|⟨x,hx⟩
   ·exact .inl h0
   ·exact .inr ⟨x,by simp [hx]⟩
  ·exact ⟨v,rfl,hv,λo' _=>by simp [Env.QM]⟩
 |zg f ty fB hpo=>
  have hl:vs=[.slice none 0 0]:=hl;subst hl;obtain ⟨hfF,hfp⟩:=hF f (by simp [dc]);obtain ⟨p1,_⟩:=H7 hpo;have hno: ∀x,(f,x)∉ps:=λx hx=>(p1 x hx).2 rfl;simp only [mH,gL,qc] at hK;obtain ⟨I,hI,hIc⟩:=kK f ty fB rfl;have mK:eD c Zb.nc e w (.slice none 0 0) ⟨ty,fB,[]⟩:=⟨I,[],hI,hIc,⟨by simp,.inl ⟨rfl,rfl⟩⟩,rfl,λbO hb=>by simp [IN] at hb⟩
  have acv: ∀S:Nat->Prop,(S f->False)->Ev S e (e.QM f (.slice none 0 0) ⟨ty,fB,[]⟩):=by
   intro S hS;refine ⟨rfl,rfl,λf2 o2 dr hs=> ?_⟩;have dr:bj (cN e.m f ⟨ty,fB,[]⟩) f2=some o2:=dr;rw [bN] at dr;by_cases gy:f2=f
   ·subst gy;exact (hS hs).elim
   ·rw [if_neg gy] at dr;exact ⟨⟨o2,dr⟩,by simp only [Env.QM,gy,if_false]⟩
  have tP:=hi.wo.acu hi.ptr hfp mK (λb hb=>by simp [IN] at hb) (acv _ (λ⟨t,hm⟩=>(hi.men t f hm).elim (λhn=>hn hfF) (λ⟨x,hx⟩=>hno x hx)));refine ⟨_,_,.own f,hK,⟨tP,hi.φ,hi.box,?_,?_,?_,?_,hi.ptr,?_⟩,?_,rfl,acv _ (λhs=>hs.elim (λhn=>hn hfF) (λ⟨x,hx⟩=>hno x hx)),λp hp=>by simp [hp],λf' hf'=>by cases hf';exact ⟨0,by simp⟩,rfl,λhu=>by cases hu⟩
  ·intro f2 o2 b dr hb;have dr:bj (cN st.bA f ⟨ty,fB,[]⟩) f2=some o2:=dr;have hb:(if f2=f then acs none 0 0 else e.E f2).ownBlock=some b:=hb;rw [bN] at dr;by_cases gy:f2=f
   ·rw [if_pos gy] at hb;simp [IN] at hb
   ·rw [if_neg gy] at dr hb;rcases hi.jr f2 o2 b dr hb with h0|⟨x,h0⟩
    ·exact .inl h0
    ·exact .inr ⟨x,by simp [h0]⟩
  ·intro f2 g2 hp;show (if f2=f then acs none 0 0 else e.E f2)=_/\_;rcases AI.1 hp with Vk|Vk
   ·simp at Vk
   ·by_cases gy:f2=f
    ·subst gy;exact absurd Vk (hno _)
    ·rw [if_neg gy];exact hi.pair f2 g2 Vk
  ·intro f2 x hp;show∃o,bj (cN st.bA f ⟨ty,fB,[]⟩) f2=some o;rw [bN];by_cases gy:f2=f
   ·rw [if_pos gy];exact ⟨_,rfl⟩
   ·rw [if_neg gy];rcases AI.1 hp with hp|hp
    ·exact absurd (Prod.mk.inj hp).1 gy
    ·exact hi.has f2 x hp
  ·intro f2 EE o2 dr;have dr:bj (cN st.bA f ⟨ty,fB,[]⟩) f2=some o2:=dr;rw [bN] at dr;by_cases gy:f2=f
   ·subst gy;exact ⟨0,by simp⟩
   ·rw [if_neg gy] at dr;obtain ⟨x,hx⟩:=hi.own f2 EE o2 dr;exact ⟨x,by simp [hx]⟩
  ·intro t f2 hm;rcases hi.men t f2 hm with h0|⟨x,hx⟩
   ·exact .inl h0
   ·exact .inr ⟨x,by simp [hx]⟩
  ·exact ⟨_,rfl,rfl,λo' _=>by simp [Env.QM]⟩
end
end Dn
/-
  What a piece of code hands on: all of it. Conditions: none.
-/
namespace Dn
open Go
theorem Wb {c:Ctx}{ks:List LK}(h:j6 c ks=true): ∀f ty fB,LK.own f ty fB∈ks-> ∃I,c.ti ty=some I/\I.dJ=[]:=by
 induction ks with
 |nil=>intro f ty fB hm;simp at hm
 |cons k ks ih=>
  intro f ty fB hm;cases k with
  |k x=>
   simp only [j6] at h;rcases AI.1 hm with hm|hm
   ·cases hm
   ·exact ih h f ty fB hm
  |own f' ty' auP=>
   simp only [j6] at h;cases hI:c.tv ty' with
   |none=>simp [hI] at h
   |some I=>
    simp only [hI] at h;rcases AI.1 hm with hm|hm
    ·cases hm;exact ⟨I,cz hI⟩
    ·exact ih h f ty fB hm
theorem H8 (k:LK)(ks:List LK):dc (k::ks)=dc [k]++dc ks:=by cases k<;>simp [dc]
section
variable {P:Program}{c:Ctx}{Z Zb Zi:b8} {e e' e3:Env}{st cB ra B:St} {a a':Act} {w w':World}{R:Type}{K:St->Option R}{r:R}{Q:Exit->Act->World->Prop}{o:Oper}{hn:p0}
inductive TKs (st:St):List (Nat×Nat)->List LK->List aT->List MV->List (Nat×Nat)->Prop
 |nil (ps):TKs st ps [] [] [] ps
 |cons {ps ps1 ps2 k l m ks ls ms}:TK st ps k l m ps1->TKs st ps1 ks ls ms ps2->TKs st ps (k::ks) (l::ls) (m::ms) ps2
theorem zh {ks:List LK}: ∀{ps:List (Nat×Nat)} {ls:List aT} {K':List MV->List (Nat×Nat)->Option R},mb st ps ks ls K'=some r-> ∃ms kM,TKs st ps ks ls ms kM/\K' ms kM=some r:=by
 induction ks with
 |nil=>
  intro ps ls K' h;cases ls with
  |nil=>exact ⟨[],ps,.nil ps,h⟩
  |cons=>simp [mb] at h
 |cons k ks ih=>
  intro ps ls K' h;cases ls with
  |nil=>simp [mb] at h
  |cons l ls=>simp only [mb] at h;obtain ⟨m,ps1,h1,h⟩:=SZ h;obtain ⟨ms,ps2,h2,h⟩:=ih h;exact ⟨m::ms,ps2,.cons h1 h2,h⟩
theorem A0 {F:List Nat}{ks:List LK}: ∀{ps kM:List (Nat×Nat)} {ls:List aT} {ms rest:List MV} {vs:List Value} {e:Env} {st:St} {K':List aT->List MV->St->Option R},Inv c Zb Zi e3 ra F ps e st a w->cF c Zi e3 ra a w->(∀b,Zi.In b->Zb.In b)-> (∀f∈dc ks,f∈F/\f∉Zb.dt)->j6 c ks=true->aM e3 vs ls->TKs ra ps ks ls ms kM->dK st ks (ms++rest) K'=some r-> ∃e' cB Ad,K' Ad rest cB=some r/\Inv c Zb Zi e3 ra F kM e' cB a w/\aM e' vs Ad/\cB.fr=st.fr/\Ev (λf=>f∉F\/ ∃x,(f,x)∈ps) e e'/\(∀p∈ps,p∈kM)/\(∀f,aT.own f∈Ad-> ∃x,(f,x)∈kM)/\e'.B=e.B/\(∀l∈Ad,l≠ .un):=by
 induction ks with
 |nil=>intro ps kM ls ms rest vs e st K' hi h3 lz hF kK hl ht hK;cases ht;exact ⟨e,st,[],hK,hi,hl,rfl,.refl _ _,λp hp=>hp,λf hf=>by simp at hf,rfl,by simp⟩
 |cons k ks ih=>
  intro ps kM ls ms rest vs e st K' hi h3 lz hF kK hl ht hK;cases ht with
  |cons H9 uP=>
   obtain ⟨v,u,rfl,Vj,DM⟩:=hl;simp only [dK,aaN,gC] at hK;have mz:=Wb kK;obtain ⟨e1,dC,l',ol,xW,AW,G6,agy,acw,Df,hB1,acx⟩:=Zw hi h3 lz (λf hf=>hF f (by rw [H8];exact No _ hf)) Vj H9 hK (λf ty fB hk=>mz f ty fB (by rw [hk];simp));have Wc:j6 c ks=true:=by
    cases k with
    |k x=>exact kK
    |own f ty fB=>
     simp only [j6] at kK;cases hI:c.tv ty with
     |none=>simp [hI] at kK
     |some I=>simpa [hI] using kK
   obtain ⟨e2,eM,Ad,yS,hi2,Ju,af7,aoq,aor,aos,hB2,au6⟩:=ih xW h3 lz (λf hf=>hF f (by rw [H8];exact aay _ hf)) Wc DM uP ol;refine ⟨e2,eM,l'::Ad,yS,hi2,⟨v,u,rfl,?_,Ju⟩,af7.trans G6,agy.trans (aoq.au2 ?_),λp hp=>aor p (acw p hp),?_,hB2.trans hB1,by intro l hl;rcases AI.1 hl with rfl|hl<;>first|exact acx|exact au6 l hl⟩
   ·exact AW.ev aoq (λf hf=> .inr (Df f hf))
   ·rintro f (hf|⟨x,hx⟩)
    ·exact .inl hf
    ·exact .inr ⟨x,acw _ hx⟩
   ·intro f hf;rcases AI.1 hf with hf|hf
    ·obtain ⟨x,hx⟩:=Df f hf.symm;exact ⟨x,aor _ hx⟩
    ·exact aos f hf
inductive TO (st:St):List (Nat×Nat)->List (Nat×OK)->List MV->Prop
 |nil (ps):TO st ps [] []
 |sc {ps kM t k l ms r ns}:aH st.fr t= .sc l->TKs st ps [k] [l] ms kM->TO st kM r ns->TO st ps ((t,.sc k)::r) (ms++ns)
 |ag {ps kM t ks ls ms r ns}:aH st.fr t= .ag ls->TKs st ps ks ls ms kM->TO st kM r ns->TO st ps ((t,.ag ks)::r) (ms++ns)
 |box {ps kM t ks ls ms r ns}:aH st.fr t= .box ls->TKs st ps ks ls ms kM->TO st kM r ns->TO st ps ((t,.box ks)::r) (ms++ns)
 |mp {ps t s es r ns}:aH st.fr t= .box [.mp s es]->TO st ps r ns->TO st ps ((t,.mp s)::r) (.list es::ns)
 |pt {ps t root off r ns}:aH st.fr t= .ptr root off->AE root=false->GU (aH st.fr root)=true->TO st ps r ns->TO st ps ((t,.pt root off)::r) ns
theorem o7 {os:List (Nat×OK)}: ∀{ps:List (Nat×Nat)} {R:Type} {r:R} {K':List MV->Option R},nM st ps os K'=some r-> ∃ms,TO st ps os ms/\K' ms=some r:=by
 induction os with
 |nil=>intro ps R r K' h;exact ⟨[],.nil ps,h⟩
 |cons p os ih=>
  intro ps R r K' h;obtain ⟨t,k⟩:=p;simp only [nM] at h;split at h
  ·rename_i k l hf;obtain ⟨ms,kM,h1,h⟩:=zh h;obtain ⟨ns,h2,h⟩:=ih h;simp only [AN] at h;exact ⟨_,.sc hf h1 h2,h⟩
  ·rename_i ks ls hf;obtain ⟨ms,kM,h1,h⟩:=zh h;obtain ⟨ns,h2,h⟩:=ih h;simp only [AN] at h;exact ⟨_,.ag hf h1 h2,h⟩
  ·rename_i ks ls hf;obtain ⟨ms,kM,h1,h⟩:=zh h;obtain ⟨ns,h2,h⟩:=ih h;simp only [AN] at h;exact ⟨_,.box hf h1 h2,h⟩
  ·rename_i s s' es hf;cases hm:msB s s' with
   |false=>simp [hm] at h
   |true=>simp only [hm,cond_true] at h;have:=VW hm;subst this;obtain ⟨ns,h2,h⟩:=ih h;exact ⟨_,.mp hf h2,h⟩
  ·rename_i root off abh abi hf;cases hc:BY root abh&&(BY off abi&&(!AE root&&GU (aH st.fr root))) with
   |false=>simp [hc] at h
   |true=>rw [hc] at h;simp only [sh,aaH] at hc;obtain ⟨k1,k2,k3,k4⟩:=hc;have k1:=fj k1;have k2:=fj k2;subst k1 k2;obtain ⟨ns,h2,h⟩:=ih h;exact ⟨_,.pt hf k3 k4 h2,h⟩
  ·simp at h
theorem acy {os:List (Nat×OK)}: ∀{ps:List (Nat×Nat)} {ms:List MV} {st:St},cF c Zb e st a w->cF c Zi e3 ra a w->TO ra ps os ms->abj os ms st K=some r-> ∃cB,cF c Zb e cB a w/\K cB=some r:=by
 induction os with
 |nil=>intro ps ms st h h3 ht hK;cases ht;exact ⟨st,h,hK⟩
 |cons p os ih=>
  obtain ⟨t,k⟩:=p;intro ps ms st h h3 ht hK;cases k with
  |pt root off=>
   cases ht with
   |pt hf hp hb uP=>
    obtain ⟨pr,q,fr,m⟩:=st;simp only [abj] at hK;cases hc:!AE root&&(GU (aH fr root)&&!dD (aH fr t)) with
    |false=>simp [hc] at hK
    |true=>
     rw [hc] at hK;simp only [sh,aaH] at hc;obtain ⟨_,xS,hn⟩:=hc;simp only [cond_true,oO] at hK;obtain ⟨cs,Qx,_⟩:=BV xS;have hB:=SO h3 h hp hb xS;have hv:ao e (a.tmps.getD t undef) (.ptr root off):=by have:=h3.slot t;rw [hf] at this;simp only [cW,ao] at this⊢;rw [hB];exact this
     exact ih (h.ab4 Qx hn hv) h3 uP hK
  |_=>simp [abj] at hK
theorem Zx {F:List Nat}{os:List (Nat×OK)}: ∀{ps:List (Nat×Nat)} {ms:List MV} {e:Env} {st:St},Inv c Zb Zi e3 ra F ps e st a w->cF c Zi e3 ra a w->(∀b,Zi.In b->Zb.In b)-> (∀f∈cY os,f∈F/\f∉Zb.dt)->(∀t∈eB os,t∉Zi.dg)->fL c os=true->TO ra ps os ms->od st os ms K=some r-> ∃e' cB,cF c Zb e' cB a w/\e'.φ=e3.φ/\K cB=some r:=by
 induction os with
 |nil=>intro ps ms e st hi h3 lz hF hk kK ht hK;cases ht;exact ⟨e,st,hi.wo,hi.φ,hK⟩
 |cons p os ih=>
  intro ps ms e st hi h3 lz hF hk kK ht hK;obtain ⟨t,k⟩:=p;have h3t:=h3.slot t;have next: ∀{kM:List (Nat×Nat)} {s:Slot} {e1:Env} {dC:St} {ns:List MV},Inv c Zb Zi e3 ra F kM e1 dC a w->eo s=false->dD s=false->ao e1 (a.tmps.getD t undef) s->(∀f,aT.own f∈qh s-> ∃x,(f,x)∈kM)-> (∀f∈cY os,f∈F/\f∉Zb.dt)->fL c os=true->TO ra kM os ns->(Sr dC t s λst=>od st os ns K)=some r-> ∃e' cB,cF c Zb e' cB a w/\e'.φ=e3.φ/\K cB=some r:=by
   intro kM s e1 dC ns xW hp hb hr agw hF2 Wc uP hK;simp only [Sr,oO] at hK;have hg: ∀t',aH (dz dC.fr t s) t'=if t'=t then s else aH dC.fr t':=λt'=>cE _ _ _ _
   refine ih ⟨xW.wo.agx xW.ptr hp hb hr,xW.φ,?_,xW.jr,xW.pair,xW.has,xW.own,?_,?_⟩ h3 lz hF2 (λt' EM=>hk t' (by simp [eB,EM])) Wc uP hK
   ·intro t' cs ET;have ET:aH (dz dC.fr t s) t'= .box cs:=ET;rw [hg] at ET;by_cases xm:t'=t
    ·rw [if_pos xm] at ET;subst ET;simp [dD] at hb
    ·rw [if_neg xm] at ET;exact xW.box t' cs ET
   ·intro t';show eo (aH (dz dC.fr t s) t')=false;rw [hg];by_cases xm:t'=t
    ·rw [if_pos xm];exact hp
    ·rw [if_neg xm];exact xW.ptr t'
   ·intro t' f hm;have hm:aT.own f∈qh (aH (dz dC.fr t s) t'):=hm;rw [hg] at hm;by_cases xm:t'=t
    ·rw [if_pos xm] at hm;exact .inr (agw f hm)
    ·rw [if_neg xm] at hm;exact xW.men t' f hm
  have acz: ∀{kM:List (Nat×Nat)} {ls Ad:List aT} {ob:Obj} {e1:Env} {dC:St} {ns:List MV},Inv c Zb Zi e3 ra F kM e1 dC a w->aH ra.fr t= .box ls->tied Zb t (a.tmps.getD t undef) Ad (e3.B t)->w.heap[e3.B t]? =some ob->kX e1 ob Ad-> (∀f,aT.own f∈Ad-> ∃x,(f,x)∈kM)->(∀f∈cY os,f∈F/\f∉Zb.dt)->fL c os=true->TO ra kM os ns->(Sr dC t (.box Ad) λst=>od st os ns K)=some r-> ∃e' cB,cF c Zb e' cB a w/\e'.φ=e3.φ/\K cB=some r:=by
   intro kM ls Ad ob e1 dC ns xW hf hv fD AW Df hF2 Wc uP ol;rw [hf] at h3t;have ET:=h3t.2;simp only [Sr,oO] at ol;have htp:t∉Zi.dg:=hk t (by simp [eB]);have Ap:Zi.In (e3.B t):=R9 ET.dp htp;have hg: ∀t',aH (dz dC.fr t (.box Ad)) t'=if t'=t then .box Ad else aH dC.fr t':=λt'=>cE _ _ _ _
   have xO:=xW.wo.ajX (t:=t) (bO:=e3.B t) (cs:=Ad) xW.ptr hv ⟨.inr (lz _ Ap),⟨ob,fD,AW⟩,λoff=>by rw [xW.φ];exact ET.free off⟩ (by
     intro t' j9 EO eu VT;rcases xW.box t' j9 EO with h0|⟨h0,nn,h1⟩
     ·exact h0 (by rw [VT];exact Ap)
     ·exact h3.bb t' t nn ls h1 hf eu (by rw [<-h0];exact VT))
    (by
     intro f o ho VT;rcases xW.jr f o _ ho VT with h0|⟨g,h0⟩
     ·exact h0 Ap
     ·obtain ⟨h5,o5,h6⟩:=xW.pair f g h0;rw [h5] at VT;exact h3.bf t ls g o5 hf h6 VT)
   refine ih (e:=e1.EL t (e3.B t)) ⟨xO,xW.φ,?_,xW.jr,xW.pair,xW.has,xW.own,?_,?_⟩ h3 lz hF2 (λt' EM=>hk t' (by simp [eB,EM])) Wc uP ol
   ·intro t' cs EO;have EO:aH (dz dC.fr t (.box Ad)) t'= .box cs:=EO;rw [hg] at EO;show¬Zi.In (if t'=t then e3.B t else e1.B t')\/((if t'=t then e3.B t else e1.B t')=e3.B t'/\_);by_cases xm:t'=t
    ·subst xm;simp only [if_true];exact .inr ⟨trivial,ls,hf⟩
    ·rw [if_neg xm] at EO⊢;exact xW.box t' cs EO
   ·intro t';show eo (aH (dz dC.fr t (.box Ad)) t')=false;rw [hg];by_cases xm:t'=t
    ·rw [if_pos xm];rfl
    ·rw [if_neg xm];exact xW.ptr t'
   ·intro t' f hm;have hm:aT.own f∈qh (aH (dz dC.fr t (.box Ad)) t'):=hm;rw [hg] at hm;by_cases xm:t'=t
    ·rw [if_pos xm] at hm;exact .inr (Df f hm)
    ·rw [if_neg xm] at hm;exact xW.men t' f hm
  cases ht with
  |sc hf H9 uP=>
   rename_i kM k l ms ns;rw [hf] at h3t;simp only [fL] at kK;cases Ky:j6 c [k] with
   |false=>simp [Ky] at kK
   |true=>
    simp only [Ky,cond_true] at kK;have hF1: ∀f∈dc [k],f∈F/\f∉Zb.dt:=λf hf=>hF f (by simp only [cY];exact No _ hf);have hF2: ∀f∈cY os,f∈F/\f∉Zb.dt:=λf hf=>hF f (by simp only [cY];exact aay _ hf);simp only [od] at hK;have C8: ∃vs,bo e3 vs l/\ ∀(e1:Env) (l':aT),bo e1 vs l'->(∀m,l'= .p m->m.one=true)->l'≠ .un->ao e1 (a.tmps.getD t undef) (.sc l'):=by
     have h3s:ao e3 (a.tmps.getD t undef) (.sc l):=h3t;cases H9 with
     |cons hk1 _=>
      generalize a.tmps.getD t undef=v at h3s;by_cases hh: ∃x,l= .hs x
      ·obtain ⟨x,rfl⟩:=hh;refine ⟨bV x,rfl,λe1 l' G4 ho hu=> ?_⟩;have hv:v= .agg (bV x).toArray:=h3s;have hlen:=dL x;cases l' with
       |un=>exact absurd rfl hu
       |hs y=>have G4:bV x=bV y:=G4;show v=_;rw [<-G4];exact hv
       |nil=>have G4:bV x=[_]:=G4;rw [G4] at hlen;simp at hlen
       |mp s es=>exact G4.elim
       |own f=>obtain ⟨u,hu2,_⟩:=G4;rw [hu2] at hlen;simp at hlen
       |p m=>obtain ⟨u,hu2,_⟩:=G4.2.one (ho m rfl);rw [hu2] at hlen;simp at hlen
      ·have hun:l≠ .un:=by intro he;subst he;cases hk1
       have iw:bo e3 [v] l:=(ao.ajr (λx he=>hh ⟨x,he⟩) hun).1 h3s;refine ⟨[v],iw,λe1 l' G4 ho hu=> ?_⟩;cases l' with
       |un=>exact absurd rfl hu
       |hs y=>have G4:[v]=bV y:=G4;have:=dL y;rw [<-G4] at this;simp at this
       |nil=>exact G4
       |mp s es=>exact G4
       |own f=>exact G4
       |p m=>exact G4
    obtain ⟨vs,tM,aou⟩:=C8;obtain ⟨e1,dC,Ad,ol,xW,AW,G6,agy,acw,Df,hB1,acx⟩:=A0 (vs:=vs) hi h3 lz hF1 Ky (show aM e3 vs [l] from ⟨vs,[],by simp,tM,rfl⟩) H9 hK;split at ol
    ·rename_i l';obtain ⟨v1,u1,hvu,Vj,hu1⟩:=AW;have hu1:u1=[]:=hu1;subst hu1;have hvu:vs=v1:=by simpa using hvu
     subst hvu;refine next xW rfl rfl ?_ (λf hf=>Df f (by simpa [qh] using hf)) hF2 kK uP ol
     refine aou e1 l' Vj ?_ ?_
     ·intro m hm;subst hm;exact Vj.1
     ·exact acx l' (by simp)
    ·cases ol
  |ag hf H9 uP=>
   rename_i kM ks ls ms ns;rw [hf] at h3t;simp only [fL] at kK;cases Ky:j6 c ks with
   |false=>simp [Ky] at kK
   |true=>simp only [Ky,cond_true] at kK;simp only [od] at hK;have h3s:ao e3 (a.tmps.getD t undef) (.ag ls):=h3t;simp only [ao] at h3s;obtain ⟨arr,hv,tM⟩:=h3s;obtain ⟨e1,dC,Ad,ol,xW,AW,G6,agy,acw,Df,hB1,acx⟩:=A0 hi h3 lz (λf hf=>hF f (by simp only [cY];exact No _ hf)) Ky tM H9 hK;exact next (s:= .ag Ad) xW rfl rfl ⟨arr,hv,AW⟩ Df (λf hf=>hF f (by simp only [cY];exact aay _ hf)) kK uP ol
  |box hf H9 uP=>
   rename_i kM ks ls ms ns;rw [hf] at h3t;simp only [fL] at kK;cases Ky:j6 c ks with
   |false=>simp [Ky] at kK
   |true=>
    simp only [Ky,cond_true] at kK;simp only [od] at hK;have xJ:gY ls=false:=by
     cases hm:gY ls with
     |false=>rfl
     |true=>obtain ⟨s,es,rfl⟩:=Qp hm;cases H9;rename_i h1 _;cases h1
    obtain ⟨hv,ET⟩:=h3t;cases Db:AE t&&!bU st.dg (posOf t) with
    |true=>simp [Db] at hK
    |false=>
    simp only [Db,cond_false] at hK;have qe: ∀Ad,gY Ad=false->tied Zb t (a.tmps.getD t undef) Ad (e3.B t):=λAd hm'=>⟨λhp=>by rw [hv.1 hp,xi xJ,xi hm'],λhp=>by
     obtain ⟨k1,k2⟩:=hv.2 hp;rw [hp] at Db;have k3:posOf t∈Zb.dg:=by rw [<-hi.wo.defers.2.1,<-ck];simpa using Db
     exact ⟨k3,by rw [<-hi.wo.defers.2.2.2 _ k3,h3.defers.2.2.2 _ k1,k2]⟩⟩
    obtain ⟨arr,T,fD,tM⟩:=ET.cells xJ;obtain ⟨e1,dC,Ad,ol,xW,AW,G6,agy,acw,Df,hB1,acx⟩:=A0 hi h3 lz (λf hf=>hF f (by simp only [cY];exact No _ hf)) Ky tM H9 hK;exact acz xW hf (qe _ AW.AU) fD ⟨rfl,AW⟩ Df (λf hf=>hF f (by simp only [cY];exact aay _ hf)) kK uP ol
  |mp hf uP=>
   rename_i s es ns;rw [hf] at h3t;simp only [fL] at kK;simp only [od] at hK;cases Db:AE t with
   |true=>simp [Db] at hK
   |false=>
   simp only [Db,cond_false,gC,gL] at hK;obtain ⟨hv0,ET⟩:=h3t;have hv:tied Zb t (a.tmps.getD t undef) [aT.mp s es] (e3.B t):= .own Db (hv0.1 Db);obtain ⟨ob,fD,hob⟩:=ET.obj;cases ob with
   |cells arr T z=>exact absurd hob.2.AU (by simp [gY])
   |map arr n=>exact acz hi hf hv fD hob (λf hf=>by simp at hf) (λf hf=>hF f (by simp only [cY];exact hf)) kK uP hK
   |stringIter x n=>exact acz hi hf hv fD hob (λf hf=>by simp at hf) (λf hf=>hF f (by simp only [cY];exact hf)) kK uP hK
   |_=>exact hob.elim
  |pt hf hp hb uP=>simp only [od] at hK;obtain ⟨cB,g1,g2⟩:=acy hi.wo h3 (.pt hf hp hb uP) hK;exact ⟨e,cB,g1,hi.φ,g2⟩
theorem E3 {os:List (Nat×OK)}{ms:List MV}(hJ:kN c Zb Zi e B hn a w)(h3:cF c Zi e3 ra a w) (hφ:e3.φ=e.φ)(hos:(∀t∈eB os,t∈eB hn.all)/\(∀f∈cY os,f∈cY hn.all))(kK:fL c os=true)(ht:TO ra [] os ms)(hK:od B os ms K=some r): ∃e' cB,cF c Zb e' cB a w/\e'.φ=e.φ/\K cB=some r:=by
 rw [<-hφ];refine Zx (F:=cY hn.all) ⟨hJ.wo,hφ.symm,λt cs hb=> .inl (hJ.box t cs hb),λf o b ho hb=> .inl (hJ.jr f o b ho hb),λf g hp=>by simp at hp,λf x hp=>by simp at hp,?_,hJ.ptr,λt f hm=> .inl (hJ.men t f hm)⟩ h3 hJ.sub ?_ ?_ kK ht hK
 ·intro f hf o ho;rw [(hJ.Zu f hf).2] at ho;cases ho
 ·intro f hf;exact ⟨hos.2 f hf,(hJ.Zu f (hos.2 f hf)).1⟩
 ·intro t EM;exact (hJ.acp t (hos.1 t EM)).2
end
end Dn
/-
  Code. Conditions: none.
-/
namespace Dn
open Go
theorem wz {os:List (Nat×OK)}{t:Nat}:t∈eB os↔ ∃k,(t,k)∈os:=by
 induction os with
 |nil=>simp [eB]
 |cons p os ih=>
  obtain ⟨t',k'⟩:=p;simp only [eB,AI,ih,aaJ];constructor
  ·rintro (rfl|⟨k,h⟩)
   ·exact ⟨k',.inl ⟨rfl,rfl⟩⟩
   ·exact ⟨k,.inr h⟩
  ·rintro ⟨k,⟨rfl,_⟩|h⟩
   ·exact .inl rfl
   ·exact .inr ⟨k,h⟩
def acA:OK->List Nat
 | .sc k=>dc [k]
 | .ag ks=>dc ks
 | .box ks=>dc ks
 | .mp _=>[]
 | .pt _ _=>[]
theorem QN (t:Nat)(k:OK)(os:List (Nat×OK)):cY ((t,k)::os)=acA k++cY os:=by cases k<;>rfl
theorem wA {os:List (Nat×OK)}{f:Nat}:f∈cY os↔ ∃p∈os,f∈acA p.2:=by
 induction os with
 |nil=>simp [cY]
 |cons p os ih=>obtain ⟨t',k'⟩:=p;rw [QN];simp [ih]
def Kz (c:Ctx):OK->Bool
 | .sc k=>j6 c [k]
 | .ag ks=>j6 c ks
 | .box ks=>j6 c ks
 | .mp _=>true
 | .pt _ _=>true
theorem S0 {c:Ctx}(t:Nat)(k:OK)(os:List (Nat×OK)):fL c ((t,k)::os)=(Kz c k&&fL c os):=by
 cases k with
 |sc k=>simp only [fL,Kz];cases j6 c [k]<;>rfl
 |ag k=>simp only [fL,Kz];cases j6 c k<;>rfl
 |box k=>simp only [fL,Kz];cases j6 c k<;>rfl
 |mp s=>simp only [fL,Kz,ahf]
 |pt r o=>simp only [fL,Kz,ahf]
theorem KA {c:Ctx}{os:List (Nat×OK)}:fL c os=true↔ ∀p∈os,Kz c p.2=true:=by
 induction os with
 |nil=>simp [fL]
 |cons p os ih=>obtain ⟨t',k'⟩:=p;rw [S0,sh,ih,List.forall_mem_cons]
theorem acB {l:List (Nat×List (Nat×OK))}{e:Nat}{p:Nat×OK}(h:p∈aa2 l e):p∈Xt l:=by
 induction l with
 |nil=>simp [aa2] at h
 |cons q l ih=>
  obtain ⟨k,m⟩:=q;simp only [aa2] at h;simp only [Xt,aaY];cases hb:BY k e with
  |true=>simp [hb] at h;exact .inl h
  |false=>simp [hb] at h;exact .inr (ih h)
theorem QO {hn:p0}{e:Nat}:(∀t∈eB (hn.ex e),t∈eB hn.all)/\(∀f∈cY (hn.ex e),f∈cY hn.all)/\ ∀{c:Ctx},fL c hn.all=true->fL c (hn.ex e)=true:=by
 have hm: ∀p∈hn.ex e,p∈hn.all:=λp hp=>aay _ (acB hp);refine ⟨λt ht=> ?_,λf hf=> ?_,λh=> ?_⟩
 ·obtain ⟨k,hk⟩:=wz.1 ht;exact wz.2 ⟨k,hm _ hk⟩
 ·obtain ⟨p,hp,hf⟩:=wA.1 hf;exact wA.2 ⟨p,hm _ hp,hf⟩
 ·rw [KA] at h⊢;exact λp hp=>h p (hm p hp)
theorem acC {hn:p0}:(∀t∈eB hn.outs,t∈eB hn.all)/\(∀f∈cY hn.outs,f∈cY hn.all)/\ ∀{c:Ctx},fL c hn.all=true->fL c hn.outs=true:=by
 have hm: ∀p∈hn.outs,p∈hn.all:=λp hp=>No _ hp;refine ⟨λt ht=> ?_,λf hf=> ?_,λh=> ?_⟩
 ·obtain ⟨k,hk⟩:=wz.1 ht;exact wz.2 ⟨k,hm _ hk⟩
 ·obtain ⟨p,hp,hf⟩:=wA.1 hf;exact wA.2 ⟨p,hm _ hp,hf⟩
 ·rw [KA] at h⊢;exact λp hp=>h p (hm p hp)
theorem KB {R:Type}{r:R}{l:List Nat}{e:Nat}{K:Nat->Option R}(h:YW l e K=some r):K e=some r:=by
 induction l with
 |nil=>simp [YW] at h
 |cons p l ih=>
  cases l with
  |nil=>
   simp only [YW,fc] at h;by_cases he:e=p
   ·subst he;simpa using h
   ·simp [he] at h
  |cons q l=>
   simp only [YW,fc] at h;by_cases he:e=p
   ·subst he;simpa using h
   ·simp only [he,decide_false,cond_false] at h;exact ih h
theorem Zy {σ R:Type}{r:R}{body:σ->Option (Sum σ R)}{s:σ}(h:Loop body s=some r): ∃n,iter body n s=some r:=by
 unfold Loop at h;split at h
 ·rename_i hx;obtain ⟨n,hn⟩:=aaS hx;exact ⟨n,by rw [hn];exact h⟩
 ·cases h
def lU:Nat->Exit
 |0=> .normal
 |1=> .ret
 |n+2=> .exit n
section
variable {P:Program}{c:Ctx}{Z Zb Zi:b8} {e e' e3:Env}{st cB ra B:St} {a a':Act} {w w':World}{R:Type}{r:R}{Q:Exit->Act->World->Prop}{o:Oper}{hn:p0}
def QP (P:Program)(c:Ctx)(id:Nat)(ops:Array Oper)(d:Bool)(l:List Oper):Prop:=∀{Z:b8} {e:Env} {st:St} {a:Act} {w:World} {R:Type} {K:St->Option R} {r:R} {Q:Exit->Act->World->Prop},cF c Z e st a w->DH c ops.toList l st K=some r-> (∀a' w',Out c Z K r e.φ w a' w'->Q .normal a' w')->(afP id ops d).wp P Q a w
theorem Zz (hG:Good P c)(id:Nat)(ops:Array Oper):QP P c id ops false ops.toList:=by
 intro Z e st a w R K r Q h hK hQ;refine wp_region (QL hG (os:=ops.toList) ?_ h hK (.refl _ _ _) hQ);apply agG;intro i;simp only [aaT];by_cases hi:i<ops.size
 ·simp [afQ hi,hi]
 ·have h1:(agf ops.size)[i]? =none:=by simp;omega
  have h2:ops.toList[i]? =none:=by simp;omega
  rw [h1,h2];rfl
theorem OM {id:Nat}{ops:Array Oper}{d:Bool}{l:List Oper}{K:St->Option R}(hr:QP P c id ops d l)(h:cF c Z e st a w)(hK:Jt c id ops.toList l st K=some r)(hQ: ∀a' w',Out c Z K r e.φ w a' w'->Q .normal a' w'):(afP id ops d).wp P Q a w:=by
 unfold Jt at hK;cases hg:guarded ops.toList with
 |false=>simp only [hg,cond_false] at hK;obtain ⟨cB,h',hK⟩:=AZ h hK;exact hr h' hK hQ
 |true=>
  simp only [hg,cond_true] at hK;obtain ⟨Zi,e1,e2,dC,eM,h1,t1,hφ,hk,j1,j2,lz,kK,hK⟩:=E1 h hK;obtain ⟨vs,hv,hK⟩:=tL hK;obtain ⟨aBL,Jv,hv⟩:=AZ h1 hv;refine hr Jv hv ?_;rintro a' w' ⟨e3,ra,h3,t3,hv3⟩;obtain ⟨ms,ht,XR⟩:=o7 hv3;cases XR;have t3':Trans Zi.In e2.φ w e3.φ w':=by rw [hφ];exact t3
  have jl:=j1.later t3' h3.q9 h3.defers.1 h3.size h3.defers.2.2.2;obtain ⟨s1,s2,s3⟩:=QO (hn:=c.CH id) (e:=0);obtain ⟨e5,st5,g1,g2,g3⟩:=E3 jl h3 rfl ⟨s1,s2⟩ (s3 kK) ht hK;refine hQ a' w' ⟨e5,st5,g1,?_,g3⟩;rw [g2];exact t1.trans ⟨t3.ph,λb hb=>t3.heap b (λhz=>hb (lz b hz)),λb o hb=>t3.free b o (λhz=>hb (lz b hz)),t3.size,t3.rest⟩
theorem Trans.sup {I J:Nat->Prop} {φ φ':Ph}(h:Trans I φ w φ' w')(hs: ∀b,I b->J b):Trans J φ w φ' w':=⟨h.ph,λb hb=>h.heap b (λhz=>hb (hs b hz)),λb o hb=>h.free b o (λhz=>hb (hs b hz)),h.size,h.rest⟩
theorem xX {n:Nat}{next:Act->World->Prop}(hn:n≠0):Exit.then next Q (lU n)=Q (lU n):=by
 match n,hn with
 |1,_=>rfl
 |n+2,_=>rfl
def S1 (P:Program)(c:Ctx)(id:Nat)(ops:Array Oper):Prop:=∀{Z:b8} {e:Env} {st:St} {a:Act} {w:World} {R:Type} {K:St->Option R} {r:R} {Q:Exit->Act->World->Prop},cF c Z e st a w->abm c id ops.toList st K=some r-> (∀a' w',Out c Z K r e.φ w a' w'->Q .normal a' w')->(afP id ops false).wp P Q a w
def KC (P:Program)(c:Ctx):Prop:=(∀(id:Nat) (ops:Array Oper),S1 P c id ops)/\(∀(id:Nat) (ops:Array Oper) (l:List Oper),DK c ops (c.ord id)=true->rU ops.toList (c.ord id)=some l->QP P c id ops true l)/\ ∀(id:Nat) (ops:Array Oper) (k:Nat) (l:List Nat) {Z:b8} {e:Env} {st:St} {a:Act} {w:World} {R:Type} {K:St->Option R} {r:R} {Q:Exit->Act->World->Prop},cF c Z e st a w->Sw c st K k ops l=some r-> (∀a' w',Out c Z K r e.φ w a' w'->Q .normal a' w')->(afP id ops true).wp P Q a w
theorem ZA {R:Type}{x y:Option R}{r:R}(h:both x y=some r):x=some r/\y=some r:=by
 unfold both at h;split at h
 ·rename_i he;exact ⟨h,by rw [<-he];exact h⟩
 ·cases h
theorem Wd {n:Nat}{l o1 o2:List Nat}{A B:Nat}(h:abn n l=some (o1,o2,A,B)):A≠B/\A<n/\B<n:=by
 unfold abn at h;split at h
 ·rename_i A' B' _;cases hb:BY A' B'||(afA n A'||afA n B') with
  |true=>rw [hb] at h;cases h
  |false=>
   rw [hb] at h;simp only [cond_false,AT,aaJ] at h;obtain ⟨_,_,rfl,rfl⟩:=h;simp only [IT] at hb;obtain ⟨h1,h2,h3⟩:=hb;refine ⟨λhe=> ?_,?_,?_⟩
   ·rw [he] at h1;simp [fc] at h1
   ·by_cases hh:A'<n
    ·exact hh
    ·rw [afM (by omega)] at h2;cases h2
   ·by_cases hh:B'<n
    ·exact hh
    ·rw [afM (by omega)] at h3;cases h3
 ·cases h
theorem ajZ {ts:List Nat}{K:St->Option R}(h:cF c Z e st a w)(hK:fzK c ts st K=some r): ∃e' cB,cF c Z e' cB a w/\Trans Z.In e.φ w e'.φ w/\K cB=some r:=by
 unfold fzK at hK;split at hK
 ·exact ⟨e,st,h,.refl _ _ _,hK⟩
 ·obtain ⟨e',cB,ms,h1,h2,_,h3,_⟩:=Kk h hK;exact ⟨e',cB,h1,h2.tr,h3⟩
theorem wB (hG:Good P c)(hD:KC P c): ∀(code:Code) {R:Type} {r:R} {Z:b8} {e:Env} {st:St} {a:Act} {w:World} {K:Nat->St->Option R} {Q:Exit->Act->World->Prop},cF c Z e st a w->lu c code R st K=some r-> (∀n e' cB a' w',cF c Z e' cB a' w'->Trans Z.In e.φ w e'.φ w'->K n cB=some r->Q (lU n) a' w')->code.wp P Q a w:=by
 intro code;induction code with
 |skip=>intro R r Z e st a w K Q h hK hQ;exact wp_skip (hQ 0 e st a w h (.refl _ _ _) hK)
 |exit id=>intro R r Z e st a w K Q h hK hQ;exact wp_exit (hQ (id+2) e st a w h (.refl _ _ _) hK)
 |ret=>intro R r Z e st a w K Q h hK hQ;exact wp_ret (hQ 1 e st a w h (.refl _ _ _) hK)
 |region id ops d=>
  intro R r Z e st a w K Q h hK hQ;have Nl: ∀a' w',Out c Z (λst=>K 0 st) r e.φ w a' w'->Q .normal a' w':=by rintro a' w' ⟨e2,eM,h1,h2,h3⟩;exact hQ 0 e2 eM a' w' h1 h2 h3
  simp only [lu,Xz] at hK;obtain ⟨e0,JQ,h0,t0,hK⟩:=ajZ h hK;have Nl: ∀a' w',Out c Z (λst=>K 0 st) r e0.φ w a' w'->Q .normal a' w':=by rintro a' w' ⟨e2,eM,h1,h2,h3⟩;exact Nl a' w' ⟨e2,eM,h1,t0.trans h2,h3⟩
  replace h:=h0
  cases d with
  |false=>exact hD.1 id ops h hK Nl
  |true=>
   simp only [cond_true] at hK;cases h2:!BY (c.ord id).length ops.toList.length with
   |true=>
    simp only [h2,cond_true] at hK;unfold anp at hK;cases hg:guarded ops.toList with
    |true=>simp [hg] at hK
    |false=>simp only [hg,cond_false] at hK;obtain ⟨cB,h',hK⟩:=AZ h hK;exact hD.2.2 id ops _ _ h' hK Nl
   |false=>
   simp only [h2,cond_false] at hK;cases hd:DK c ops (c.ord id) with
   |false=>simp [hd] at hK
   |true=>
    simp only [hd,cond_true] at hK;cases hp:rU ops.toList (c.ord id) with
    |none=>simp [hp] at hK
    |some l=>simp only [hp] at hK;exact OM (hD.2.1 id ops l hd hp) h hK Nl
 |seq x y ihx ihy=>
  intro R r Z e st a w K Q h hK hQ;refine wp_seq (ihx h hK ?_);intro n e1 dC a1 w1 h1 t1 ol;by_cases hn:n=0
  ·subst hn;exact ihy h1 ol (λn e2 eM a2 w2 h2 t2 yS=>hQ n e2 eM a2 w2 h2 (t1.trans t2) yS)
  ·rw [xX hn];have:BY n 0=false:=by rw [fc];simp [hn]
   simp only [this,cond_false] at ol;exact hQ n e1 dC a1 w1 h1 t1 ol
 |cond x y z ihy ihz=>
  intro R r Z e st a w K Q h hK hQ;simp only [lu] at hK;obtain ⟨hx,_⟩:=h.eval x;split at hK
  ·rename_i v hv;rw [hv] at hx;have hxv:=AR hx;refine wp_cond hxv ?_;cases hj:bU (lR y) 0&&bU (lR z) 0 with
   |false=>
    simp only [hj,cond_false] at hK;cases v with
    |true=>exact ihy h hK hQ
    |false=>exact ihz h hK hQ
   |true=>
    simp only [hj,cond_true] at hK;generalize hh:c.BQ ((gZ (.seq y z)).getD 0)=hn at hK;obtain ⟨Zi,e1,e2,dC,eM,h1,t1,hφ,hk,j1,j2,lz,kK,hK⟩:=E1 h hK;obtain ⟨⟨n,vs⟩,hv,hK⟩:=tL hK;have hK:=KB hK;have fin: ∀n' e3 ra a3 w3,cF c Zi e3 ra a3 w3->Trans Zi.In e1.φ w e3.φ w3->nM ra [] (hn.ex n') (λvs=>some (n',vs))=some (n,vs)->Q (lU n') a3 w3:=by
     intro n' e3 ra a3 w3 h3 t3 hv3;obtain ⟨ms,ht,XR⟩:=o7 hv3;cases XR;have t3':Trans Zi.In e2.φ w e3.φ w3:=by rw [hφ];exact t3
     have jl:=j1.later t3' h3.q9 h3.defers.1 h3.size h3.defers.2.2.2;obtain ⟨s1,s2,s3⟩:=QO (hn:=hn) (e:=n);obtain ⟨e5,st5,g1,g2,g3⟩:=E3 jl h3 rfl ⟨s1,s2⟩ (s3 kK) ht hK;refine hQ n e5 st5 a3 w3 g1 ?_ g3;rw [g2];exact t1.trans (t3.sup lz)
    cases v with
    |true=>exact ihy h1 hv fin
    |false=>exact ihz h1 hv fin
  ·simp at hK
 |block id b ih=>
  intro R r Z e st a w K Q h hK hQ;refine wp_block (ih h hK ?_);intro n e1 dC a1 w1 h1 t1 ol;by_cases hn:n=id+2
  ·subst hn;simp only [fc,decide_true,cond_true] at ol;have:=hQ 0 e1 dC a1 w1 h1 t1 ol;simpa [lU,ahj] using this
  ·simp only [fc,hn,decide_false,cond_false] at ol;have:=hQ n e1 dC a1 w1 h1 t1 ol;match n,hn,this with
   |0,_,this=>exact this
   |1,_,this=>exact this
   |i+2,hn,this=>have hi:i≠id:=λhe=>hn (by rw [he]);simpa [lU,ahj,hi] using this
 |loop b ih=>
  intro R r Z e st a w K Q h hK hQ;simp only [lu] at hK;generalize hh:c.xI ((gZ b).getD 0)=hn at hK;obtain ⟨Zi,e1,e2,dC,eM,h1,t1,hφ,hk,j1,j2,lz,kK,hK⟩:=E1 h hK;obtain ⟨vs,ht,hK⟩:=o7 hK;obtain ⟨⟨n,ms⟩,hl,hK⟩:=tL hK;obtain ⟨k,OC⟩:=Zy hl;have hK:=KB hK;refine wp_loop_rounds k ?_;have key: ∀(k:Nat) (vs:List MV) (e2 e3:Env) (ra:St) (a3:Act) (w3:World),cF c Zi e3 ra a3 w3->e3.φ=e2.φ->TO ra [] hn.outs vs->kN c Z Zi e2 (yX st eM) hn a3 w3->kN c Zi Zi e2 eM hn a3 w3->Trans Z.In e.φ w e2.φ w3-> iter (λms=>od eM hn.outs ms λst=>lu c b (Sum (List MV) (Nat×List MV)) st λe st=>bif BY e 0 then nM st [] hn.outs λvs=>some (.inl vs) else nM st [] (hn.ex e) λvs=>some (.inr (e,vs))) k vs=some (n,ms)->ahn P b Q k a3 w3:=by
   intro k;induction k with
   |zero=>intro vs e2 e3 ra a3 w3 _ _ _ _ _ _ hi;simp [iter] at hi
   |succ k ihk=>
    intro vs e2 e3 ra a3 w3 h3 hφ3 ht3 j1 j2 t3 hi;simp only [iter] at hi;obtain ⟨s1,s2,s3⟩:=acC (hn:=hn);rw [rounds_succ];have go: ∀(res:Sum (List MV) (Nat×List MV)),(od eM hn.outs vs λst=>lu c b (Sum (List MV) (Nat×List MV)) st λe st=>
     bif BY e 0 then nM st [] hn.outs λvs=>some (.inl vs) else nM st [] (hn.ex e) λvs=>some (.inr (e,vs)))=some res->
     (∀Vi,res= .inl Vi->iter (λms=>od eM hn.outs ms λst=>lu c b (Sum (List MV) (Nat×List MV)) st λe st=>bif BY e 0 then nM st [] hn.outs λvs=>some (.inl vs) else nM st [] (hn.ex e) λvs=>some (.inr (e,vs))) k Vi=some (n,ms))->
     (∀q,res= .inr q->q=(n,ms))->b.wp P (Exit.then (ahn P b Q k) Q) a3 w3:=by
     intro res Aq hl hr;obtain ⟨e5,st5,g1,g2,g3⟩:=E3 j2 h3 hφ3 ⟨s1,s2⟩ (s3 kK) ht3 Aq;refine ih g1 g3 ?_;intro n' e6 st6 a6 w6 h6 t6 V6;have t6':Trans Zi.In e2.φ w3 e6.φ w6:=by rw [<-g2];exact t6
     have jl1:=j1.later t6' h6.q9 h6.defers.1 h6.size h6.defers.2.2.2;have jl2:=j2.later t6' h6.q9 h6.defers.1 h6.size h6.defers.2.2.2;by_cases hn0:n'=0
     ·subst hn0;obtain ⟨Vi,ht6,hv6⟩:=o7 V6;cases hv6;exact ihk Vi {e2 with φ:=e6.φ} e6 st6 a6 w6 h6 rfl ht6 jl1 jl2 (t3.trans (t6'.sup lz)) (hl Vi rfl)
     ·rw [xX hn0];have:BY n' 0=false:=by rw [fc];simp [hn0]
      simp only [this,cond_false] at V6;obtain ⟨Vi,ht6,hv6⟩:=o7 V6;cases hv6;cases hr _ rfl;obtain ⟨x1,x2,x3⟩:=QO (hn:=hn) (e:=n);obtain ⟨e7,st7,q1,q2,q3⟩:=E3 jl1 h6 rfl ⟨x1,x2⟩ (x3 kK) ht6 hK;refine hQ n e7 st7 a6 w6 q1 ?_ q3;rw [q2];exact t3.trans (t6'.sup lz)
    split at hi
    ·rename_i s' hs;exact go _ hs (λVi he=>by cases he;exact hi) (λq he=>by cases he)
    ·rename_i q hs;cases hi;exact go _ hs (λVi he=>by cases he) (λq he=>by cases he;rfl)
    ·cases hi
  refine key k vs e2 e1 dC a w h1 hφ.symm ht j1 j2 ?_ OC;rw [hφ];exact t1
 |_=>intros;rename_i hK _;simp [lu] at hK
end
end Dn
/-
  Whole functions. Conditions: none.
-/
namespace Dn
open Go
section
variable {P:Program}{c:Ctx}{Z Zb Zi:b8} {e e' e3:Env}{st cB ra B:St} {a a':Act} {w w':World}{R:Type}{r:R}{Q:Exit->Act->World->Prop}{o:Oper}
theorem Ia {ts:List Nat}: ∀{n:Nat} {vs:List Value} {ms:List MV} {K:Fr->List MV->Option R},dw e.key e.φ vs ms->JS c ts n ms K=some r-> ∃fr rest fO pP,K fr rest=some r/\vs=fO++pP/\fO.length=ts.length/\dw e.key e.φ pP rest/\bk fr=afB n ts.length/\ (∀p∈fr,eo p.2=false/\dD p.2=false/\ ∃v,fO[p.1-n]? =some v/\ao e v p.2):=by
 induction ts with
 |nil=>intro n vs ms K h hK;exact ⟨[],ms,[],vs,hK,rfl,rfl,h,rfl,by simp⟩
 |cons t ts ih=>
  intro n vs ms K h hK;simp only [JS] at hK;cases hI:c.tv t with
  |none=>simp [hI] at hK
  |some I=>
   simp only [hI] at hK;cases ms with
   |nil=>simp [gC] at hK
   |cons m ms=>
    simp only [gC] at hK;obtain ⟨v,u,rfl,h1,h2⟩:=h;obtain ⟨s,g1,g2,hK⟩:=DS h1 hK;obtain ⟨fr,rest,fO,pP,hK,rfl,q1,q2,q3,q4⟩:=ih h2 hK;refine ⟨(n,s)::fr,rest,v::fO,pP,hK,rfl,by simp [q1],q2,?_,?_⟩
    ·simp only [bk,aaQ,acn] at q3⊢;rw [q3,agO]
    ·intro p hp;rcases AI.1 hp with rfl|hp
     ·refine ⟨?_,?_,v,by simp,g1⟩
      ·cases s<;>simp [C5] at g2<;>rfl
      ·cases s<;>simp [C5] at g2<;>rfl
     ·obtain ⟨k1,k2,v',k3,k4⟩:=q4 p hp;refine ⟨k1,k2,v',?_,k4⟩;have hk:p.1∈bk fr:=aaW.2 ⟨p,hp,rfl⟩;rw [q3,afJ] at hk;obtain ⟨i,hi,he⟩:=hk;have:p.1-n=(p.1-(n+1))+1:=by omega
      rw [this];simpa using k3
theorem ON {jx:List (List Kd)}: ∀{n:Nat} {vs:List Value} {ms:List MV} {K:Fr->Option R},dw e.key e.φ vs ms->VA jx n ms K=some r-> ∃fr,K fr=some r/\vs.length=jx.length/\bk fr=afB n jx.length/\ (∀p∈fr,eo p.2=false/\(∀cs,p.2≠ .box cs)/\ ∃v,vs[p.1-n]? =some v/\ao e v p.2):=by
 induction jx with
 |nil=>
  intro n vs ms K h hK;cases ms with
  |nil=>cases h;exact ⟨[],hK,rfl,rfl,by simp⟩
  |cons m ms=>simp [VA,gN] at hK
 |cons ks jx ih=>
  intro n vs ms K h hK;cases ms with
  |nil=>simp [VA,gC] at hK
  |cons m ms=>
   simp only [VA,gC] at hK;obtain ⟨v,u,rfl,h1,h2⟩:=h;unfold gP at hK;split at hK
   ·rename_i cs;obtain ⟨_,h1⟩:=h1;obtain ⟨bO,off,us,hv,hr,hφ⟩: ∃bO off us,v= .pointer (some ⟨bO,off,none⟩)/\jt e.key e.φ us cs/\ ∀j,j<us.length->e.φ bO (off+j)=us[j]? :=by
     generalize C9:[v]=ws at h1;cases h1 with
     |rp bO off us _ hr hφ=>exact ⟨bO,off,us,by simpa using C9,hr,hφ⟩
    obtain ⟨ls,SE,hK⟩:=za (e:=e) (vs:=us) hK;obtain ⟨fr,hK,q1,q3,q4⟩:=ih h2 hK;refine ⟨(n,.AH ls)::fr,hK,by simp [q1],?_,?_⟩
    ·simp only [bk,aaQ,acn] at q3⊢;rw [q3,agO]
    ·intro p hp;rcases AI.1 hp with rfl|hp
     ·refine ⟨rfl,λcs he=>(by cases he),v,by simp,?_⟩;simp only [ao];exact ⟨bO,off,us,hv,SE.rep hr,SE.pur,hφ⟩
     ·obtain ⟨k1,k2,v',k3,k4⟩:=q4 p hp;refine ⟨k1,k2,v',?_,k4⟩;have hk:p.1∈bk fr:=aaW.2 ⟨p,hp,rfl⟩;rw [q3,afJ] at hk;obtain ⟨i,hi,he⟩:=hk;have:p.1-n=(p.1-(n+1))+1:=by omega
      rw [this];simpa using k3
   ·simp at hK
theorem E4 {r:Fr}{t:Nat}(ht:t∈bk r):(t,aH r t)∈r:=by
 induction r with
 |nil=>simp [bk] at ht
 |cons p r ih=>
  obtain ⟨k,x⟩:=p;simp only [aH,fc];by_cases h:k=t
  ·simp [h]
  ·simp only [h,decide_false,cond_false];simp only [bk,aaQ,AI] at ht;exact aaI _ (ih (ht.resolve_left (λe=>h e.symm)))
def lV (tmps:Array Value):ResultVar->Sem Value
 | .tmp t=>pure (tmps.getD t undef)
 | .cell a t=>do loadVar t (<-asAddr (tmps.getD a undef))
theorem ZB {rs:List ResultVar}(hT:lS P c.ti): ∀{e:Env} {st:St} {K:List MV->Option R},cF c Z e st a w->G0 c st none rs K=some r-> ∃e' cB ms vs,cF c Z e' cB a w/\Ext Z.In e e'/\(rs.mapM (lV a.tmps)).run P w= .ok vs w/\dw e'.key e'.φ vs ms/\K ms=some r:=by
 induction rs with
 |nil=>intro e st K h hK;exact ⟨e,st,[],[],h,.refl _ _,by simp,rfl,hK⟩
 |cons x rs ih=>
  intro e st K h hK;have go: ∀(s:Slot) (v:Value),ao e v s->(lV a.tmps x).run P w= .ok v w->(nS st s λm st=>G0 c st none rs λms=>K (m::ms))=some r-> ∃e' cB ms vs,cF c Z e' cB a w/\Ext Z.In e e'/\((x::rs).mapM (lV a.tmps)).run P w= .ok vs w/\dw e'.key e'.φ vs ms/\K ms=some r:=by
   intro s v hs cV hK;obtain ⟨e1,dC,m,h1,h2,h3,h4,hK⟩:=pn h hs hK;obtain ⟨e2,eM,ms,vs,q1,q2,q3,q4,hK⟩:=ih h1 hK;refine ⟨e2,eM,m::ms,v::vs,q1,h2.trans q2,?_,⟨v,vs,rfl,?_,q4⟩,hK⟩
   ·simp [agZ,cV,q3]
   ·have:=h4.mono q2.on.φ;rw [<-q2.on.key] at this;exact this
  simp only [G0] at hK;cases x with
  |tmp t=>
   simp only at hK;have hs:=h.slot t;by_cases hb: ∃cs,aH st.fr t= .box cs
   ·obtain ⟨cs,hb⟩:=hb;rw [hb] at hK;simp [nS] at hK
   ·refine go (aH st.fr t) (a.tmps.getD t undef) ?_ rfl hK;generalize aH st.fr t=s at hs hb;cases s<;>first|exact hs|exact absurd ⟨_,rfl⟩ hb
  |cell b t=>
   simp only at hK;have hs:=h.slot b;split at hK
   ·rename_i I cs hI hb;obtain ⟨VJ,Vg⟩:=cz hI;rw [hb] at hs;obtain ⟨hv,ET⟩:=hs;cases DV:gY cs||AE b with
    |true=>simp [DV] at hK
    |false=>
    obtain ⟨xJ,hpb⟩:=IT.1 DV;simp only [DV,cond_false] at hK;have hv:=hv.1 hpb;rw [xi xJ] at hv;obtain ⟨arr,T,fD,tM⟩:=ET.cells xJ;have hm:w.rangeAt (e.B b) 0 arr.toList:=by intro j v hj;rw [aaV,cell_of fD];simpa using hj
    obtain ⟨v,s,h1,h2,h3,h4⟩:=kY (P:=P) (st:=st) (s:= .skip) (hT t I VJ) Vg tM hm hK;refine go s v h2 ?_ h4;simpa [lV,hv,asAddr,ahk,ag0] using h1 w hm
   ·simp at hK
theorem ZC {x:ResultVar}{ty:Nat}{I:TI}{K:List MV->Option R}(hI:c.tv ty=some I)(hT:lS P c.ti)(DP:Z.dt=[])(h:cF c Z e st a w)(hK:G0 c st (some ty) [x] K=some r): ∃v xs,([x].mapM (lV a.tmps)).run P w= .ok [v] w/\eD c Z.nc e w v ⟨ty,false,xs⟩/\K [.fresh xs]=some r:=by
 obtain ⟨qe,hc⟩:=cz hI;have go: ∀(s:Slot) (v:Value),ao e v s->(lV a.tmps x).run P w= .ok v w->(match s with
  | .sc (.own f)=>(match bj st.bA f with|some o=>bif o.fB||!BY o.ty ty then none else G0 c st (some ty) [] λms=>K (.fresh o.xs::ms)|none=>none)
  | .sc .nil=>G0 c st (some ty) [] λms=>K (.fresh []::ms)
  |_=>none)=some r-> ∃v xs,([x].mapM (lV a.tmps)).run P w= .ok [v] w/\eD c Z.nc e w v ⟨ty,false,xs⟩/\K [.fresh xs]=some r:=by
  intro s v hs cV hK;have hr:([x].mapM (lV a.tmps)).run P w= .ok [v] w:=by simp [agZ,cV]
  split at hK
  ·rename_i f;cases hf:bj st.bA f with
   |none=>simp [hf] at hK
   |some o=>
    simp only [hf] at hK;cases hb:o.fB||!BY o.ty ty with
    |true=>simp [hb] at hK
    |false=>simp only [hb,cond_false,G0] at hK;obtain ⟨h1,h2⟩:=IT.1 hb;have kK:o.ty=ty:=fj (by simpa using h2);obtain ⟨hv,_⟩:=tO h hs hf;obtain ⟨J,cells,k1,k2,k3,k4,k5⟩:=(h.jr f o hf).row;refine ⟨v,o.xs,hr,⟨J,cells,by rw [<-kK];exact k1,k2,by rw [hv,<-kK];exact k3,k4,λbO hb=> ?_⟩,hK⟩;rw [hv] at hb;obtain ⟨q1,q2,_⟩:=k5 bO hb;refine ⟨R9 q1 (by rw [DP];simp),λoff u hu=> ?_,λhc=>hc.elim⟩;have:=(q2 off u hu).1;rw [h1] at this;cases this
  ·simp only [G0] at hK;simp only [ao] at hs;have hs:[v]=[acs none 0 0]:=hs;simp at hs;refine ⟨v,[],hr,⟨I,[],qe,hc,by rw [hs];exact World.ownsRow_nil w 0 ty I.size,rfl,λbO hb=> ?_⟩,hK⟩;rw [hs] at hb;simp [IN] at hb
  ·cases hK
 simp only [G0] at hK;cases x with
 |tmp t=>
  simp only at hK;have hs:=h.slot t;by_cases hb: ∃cs,aH st.fr t= .box cs
  ·obtain ⟨cs,hb⟩:=hb;rw [hb] at hK;simp at hK
  ·refine go (aH st.fr t) (a.tmps.getD t undef) ?_ rfl hK;generalize aH st.fr t=s at hs hb;cases s<;>first|exact hs|exact absurd ⟨_,rfl⟩ hb
 |cell b t=>
  simp only at hK;have hs:=h.slot b;split at hK
  ·rename_i I cs hI hb;obtain ⟨VJ,Vg⟩:=cz hI;rw [hb] at hs;obtain ⟨hv,ET⟩:=hs;cases DV:gY cs||AE b with
   |true=>simp [DV] at hK
   |false=>
   obtain ⟨xJ,hpb⟩:=IT.1 DV;simp only [DV,cond_false] at hK;have hv:=hv.1 hpb;rw [xi xJ] at hv;obtain ⟨arr,T,fD,tM⟩:=ET.cells xJ;have hm:w.rangeAt (e.B b) 0 arr.toList:=by intro j v hj;rw [aaV,cell_of fD];simpa using hj
   obtain ⟨v,s,h1,h2,h3,h4⟩:=kY (P:=P) (st:=st) (s:= .skip) (hT t I VJ) Vg tM hm hK;refine go s v h2 ?_ h4;simpa [lV,hv,asAddr,ahk,ag0] using h1 w hm
  ·simp at hK
theorem S2 {X:Code->St->(Nat->St->Option MV)->Option MV}(hX: ∀(b:Code){r:MV}{Z:b8}{e:Env}{st:St}{a:Act}{w:World}{K:Nat->St->Option MV}{Q:Exit->Act->World->Prop},cF c Z e st a w->X b st K=some r-> (∀n e' cB a' w',cF c Z e' cB a' w'->Trans Z.In e.φ w e'.φ w'->K n cB=some r->Q (lU n) a' w')->b.wp P Q a w)
 {f:FuncId} {fn:Func} {dI:List (List Kd)} {ms:List MV} {m:MV} (hG:Good P c) (hf:P.funcs[f]? =some fn) (E5:(fn.name== "runtime.NumGoroutine")=false)
 (hn:c.n=fn.ntmps) (ug:fn.params.size+dI.length<=fn.ntmps) (hg:c.iL (c.key f)=false) {fresh:Option Nat} (IR: ∀ty,fresh=some ty->ty=c.tq (c.key f)/\fn.results.toList.length=1/\ ∃I,c.tv ty=some I) (hb:XA X c dI fresh fn ms=some m):mL P c f ms m:=by
 intro φ w Z vs hz kL pO;simp only [jh,hg,aaM,if_false] at kL;unfold XA at hb;cases uQ:fn.body with
 |none=>simp [uQ] at hb
 |some b=>
  simp only [uQ] at hb;have cV:(callFunc f vs.toArray).run P w= .ok (.enter f vs.toArray) w:=by
   have Qt: ¬fn.name= "runtime.NumGoroutine" :=by simpa using E5
   simp [callFunc,hf,Qt,uQ]
  unfold lc;rw [cV];refine calls_of_wp hf uQ ?_;let e:Env:=vN c.key φ;have kL:dw e.key e.φ vs ms:=kL;obtain ⟨fr,rest,fO,pP,hb,rfl,l1,a2,k1,s1⟩:=Ia kL hb;obtain ⟨rq,hb,l2,k2,s2⟩:=ON a2 hb;simp only [AN] at hb;have htn:(fO++pP).toArray.size=fn.params.size+dI.length:=by simp [l1,l2]
  let a:Act:={tmps:=(fO++pP).toArray++afK (fn.ntmps-(fO++pP).toArray.size) undef,defers:=[]}
  have Sc: ∀(t:Nat) (v:Value),(fO++pP)[t]? =some v->a.tmps.getD t undef=v:=by intro t v ht;have eE:t<(fO++pP).length:=(aaO.1 ht).1;rw [abA];show (((fO++pP).toArray++afK _ undef)[t]?).getD undef=v;rw [Array.getElem?_append_left (by simpa using eE)];simp only [List.getElem?_toArray];rw [ht];rfl
  have KD: ∀t,eo (aH (fr++rq) t)=false/\(∀cs,aH (fr++rq) t≠ .box cs)/\ao e (a.tmps.getD t undef) (aH (fr++rq) t):=by
   intro t;rw [AO];by_cases h1:t∈bk fr
   ·simp only [h1,if_true];obtain ⟨g1,g2,v,g3,g4⟩:=s1 _ (E4 h1);refine ⟨g1,?_,?_⟩
    ·intro cs hc;simp only [hc,dD] at g2;cases g2
    ·rw [Sc t v ?_];exact g4;have eE:t<fO.length:=(aaO.1 g3).1;rw [abU eE];exact g3
   ·simp only [h1,if_false];by_cases h2:t∈bk rq
    ·obtain ⟨g1,g2,v,g3,g4⟩:=s2 _ (E4 h2);refine ⟨g1,g2,?_⟩;rw [Sc t v ?_];exact g4;have hk:=h2;rw [k2,afJ] at hk;obtain ⟨i,hi,he⟩:=hk;have Db:fn.params.size=fO.length:=by rw [l1];simp
     rw [abR (by omega),<-Db];exact g3
    ·rw [uf _ _ h2];exact ⟨rfl,λcs hc=>(by cases hc),by simp [ao]⟩
  have acD: ∀t cs,aH (fr++rq) t= .box cs->False:=λt cs hc=>(KD t).2.1 cs hc;have tP:cF c (b8.plain Z) e ⟨[],[],fr++rq,[]⟩ a w:=by
   refine ⟨⟨rfl,rfl,rfl,λt ht=>by simp [b8.plain] at ht⟩,?_,rfl,rfl,?_,?_,λt=>xV (KD t).1,λf o ho=>by simp [bj] at ho,λt t' cs j9 h1=>(acD t cs h1).elim,λt cs f o h1=>(acD t cs h1).elim,λf f' o o' k h1=>by simp [bj] at h1,pO,hz⟩
   ·show ((fO++pP).toArray++afK (fn.ntmps-(fO++pP).toArray.size) undef).size=c.n;rw [Array.size_append,Array.size_replicate,htn,hn];omega
   ·show (bk (fr++rq)).Nodup;have:bk (fr++rq)=bk fr++bk rq:=by simp [bk]
    rw [this,k1,k2];have:afB 0 fn.params.toList.length++afB fn.params.size dI.length=afB 0 (fn.params.toList.length+dI.length):=by have:=List.range'_append_1 (s:=0) (m:=fn.params.toList.length) (n:=dI.length);simpa using this
    rw [this];exact List.nodup_range'
   ·intro t;obtain ⟨g1,g2,g3⟩:=KD t;show cW _ e w t _ (aH (fr++rq) t);generalize aH (fr++rq) t=s at g1 g2 g3;cases s<;>first|exact g3|exact absurd rfl (g2 _)
  refine hX b tP hb ?_;intro n e' cB a' w' h' t' hK;cases hle:afA n 1 with
  |false=>simp [hle] at hK
  |true=>
   simp only [hle,cond_true] at hK;have avg: ∃φ' us,Trans Z e'.φ w' φ' w'/\EV φ' w'/\(fn.results.toList.mapM (lV a'.tmps)).run P w'= .ok us w'/\kp c Z φ' w' (c.key f) (if h:us.toArray.size=1 then us.toArray[0] else .tuple us.toArray) m:=by
    cases fresh with
    |some ty=>
     obtain ⟨h1,h2,I,h3⟩:=IR ty rfl;match hrs:fn.results.toList,h2 with
     |[x],_=>rw [hrs] at hK;obtain ⟨v,xs,g1,g2,g3⟩:=ZC (P:=P) h3 hG.ti rfl h' hK;have g3:some (MV.fresh xs)=some m:=g3;cases g3;refine ⟨e'.φ,[v],.refl _ _ _,h'.q9,g1,?_⟩;simp only [agH,afN,dite_true];show eD c (b8.plain Z) (vN c.key e'.φ) w' v ⟨c.tq (c.key f),false,xs⟩;rw [<-h1];exact g2.env (e':=vN c.key e'.φ) h'.key.symm rfl
    |none=>
    obtain ⟨e2,eM,ns,us,q1,q2,q3,q4,hK⟩:=ZB (P:=P) hG.ti h' hK;refine ⟨e2.φ,us,q2.tr,q1.q9,q3,?_⟩;have OC:e2.key=c.key:=q1.key;rw [OC] at q4;split at hK
    ·rename_i m';cases hK;obtain ⟨v,u,rfl,g1,g2⟩:=q4;have g2:u=[]:=g2;subst g2;simp only [agH,afN,dite_true];cases m<;>first|exact g1|exact absurd g1.1 (by simp [MV.one])
    ·rename_i ns' eu;cases hK;have eu:us.toArray.size≠1:=by
      intro h1;cases us with
      |nil=>simp at h1
      |cons v us=>
       cases us with
       |cons=>simp at h1
       |nil=>
        cases ns with
        |nil=>cases q4
        |cons m1 ns1=>
         obtain ⟨v',u',h2,g1,g2⟩:=q4;simp at h2;obtain ⟨rfl,rfl⟩:=h2;cases ns1 with
         |nil=>exact eu m1 rfl
         |cons=>obtain ⟨_,_,h3,_⟩:=g2;simp at h3
     rw [dif_neg eu];exact ⟨us.toArray,rfl,by simpa using q4⟩
   obtain ⟨φ2,us,p1,p2,q3,p4⟩:=avg;have Aq:(results fn a'.tmps).run P w'= .ok (if h:us.toArray.size=1 then us.toArray[0] else .tuple us.toArray) w':=by
    have hm:(fn.results.mapM (lV a'.tmps)).run P w'= .ok us.toArray w':=by rw [Array.mapM_eq_mapM_toList];simp [q3]
    have XC:results fn a'.tmps=(do let vs<-fn.results.mapM (lV a'.tmps);pure (if h:vs.size=1 then vs[0] else .tuple vs)):=by unfold results;congr 1
    rw [XC];simp [hm]
   have S3: ∃φ',Trans Z φ w φ' w'/\EV φ' w'/\kp c Z φ' w' (c.key f) (if h:us.toArray.size=1 then us.toArray[0] else .tuple us.toArray) m:=⟨φ2,t'.trans p1,p2,p4⟩
   match n,hle with
   |0,_=>exact ⟨h'.defers.1,_,Aq,_,rfl,S3.imp λφ' h=>⟨h.1,h.2.1,.plain h.2.2⟩⟩
   |1,_=>exact ⟨h'.defers.1,_,Aq,_,rfl,S3.imp λφ' h=>⟨h.1,h.2.1,.plain h.2.2⟩⟩
   |n+2,hle=>simp [afA] at hle
theorem agz {f:FuncId}{fn:Func}{dI:List (List Kd)}{ms:List MV}{m:MV}(hG:Good P c)(hD:KC P c)(hf:P.funcs[f]? =some fn)(E5:(fn.name== "runtime.NumGoroutine")=false)
 (hn:c.n=fn.ntmps) (ug:fn.params.size+dI.length<=fn.ntmps) (hg:c.iL (c.key f)=false) {fresh:Option Nat} (IR: ∀ty,fresh=some ty->ty=c.tq (c.key f)/\fn.results.toList.length=1/\ ∃I,c.tv ty=some I) (hb:Oo c dI fresh fn ms=some m):mL P c f ms m:=
 S2 (λb {r Z e st a w K Q} h hK hQ=>wB hG hD b h hK hQ) hG hf E5 hn ug hg IR hb
end
end Dn
/-
  What arguments read as: values of their types. Conditions: none.
-/
namespace Dn
open Go Go.WideShapes
def Hb (W:World):Ph:=λb o=>W.cell? ⟨b,o,none⟩
theorem acE (W:World):EV (Hb W) W:=λb o v h=>h
def QQ (P:Program):List Field->Nat->Nat->Bool
 |[],o,n=>BY o n
 |f::fs,o,n=>BY f.offset o&&QQ P fs (o+P.cellsOf f.type) n
def okT (P:Program):Nat->TypeId->Bool
 |0,_=>false
 |d+1,t=>match P.underlying t with
  |some .bool=>true
  |some (.int _)=>true
  |some .string=>true
  |some (.slice e)=>okT P d e&&afA 1 (P.cellsOf e)
  |some (.struct fs)=>QQ P fs.toList 0 (P.cellsOf t)&&fs.toList.all λf=>okT P d f.type
  |some (.array n e)=>BY n 32&&(match P.underlying e with|some (.int .u8)=>true|_=>false)&&BY (P.cellsOf e) 1&&BY (P.cellsOf t) 32
  |_=>false
def ME (P:Program)(F:TypeId->List MV->Prop)(e:TypeId)(x:MV):Prop:=match P.underlying e with
 |some (.struct _)=> ∃cs,x= .agg cs/\F e cs
 |_=>F e [x]
def FT (F:TypeId->List MV->Prop):List TypeId->List MV->Prop
 |[],ms=>ms=[]
 |t::ts,ms=> ∃a b,ms=a++b/\F t a/\FT F ts b
def MT (P:Program):Nat->TypeId->List MV->Prop
 |0,_,_=>False
 |d+1,t,ms=>match P.underlying t with
  |some .bool=> ∃b,ms=[.b b]
  |some (.int k)=> ∃n,ms=[.i k n]/\(Lit.int k n).wf=true
  |some .string=> ∃l:List UInt8,ms=[.s l]/\l.length<=maxLen
  |some (.slice e)=> ∃xs,ms=[.list xs]/\xs.length<=maxLen/\ ∀x∈xs,ME P (MT P d) e x
  |some (.struct fs)=>FT (MT P d) (fs.toList.map (·.type)) ms
  |some (.array _ _)=> ∃h,ms=[.h h]
  |_=>False
section
variable {H:Type}{enc:TypeId×Value->H}{P:Program}{W:World}{base:Nat}{sp:Nat->Bool}{held:Bool}{key:Nat->Nat}
theorem jt.append {key:Nat->Nat} {φ:Ph}{ms ns:List MV}: ∀{vs us:List Value},jt key φ vs ms->jt key φ us ns->jt key φ (vs++us) (ms++ns):=by
 induction ms with
 |nil=>intro vs us h h';cases h;simpa using h'
 |cons m ms ih=>
  intro vs us h h';cases h with
  |cons v _ vs _ h1 h2=>rw [agA];exact .cons v m _ _ h1 (ih h2 h')
theorem jt.acF {key:Nat->Nat} {φ:Ph}{v:Value}{m:MV}(h:nr key φ [v] m):jt key φ [v] [m]:=by have:=jt.cons [v] m [] [] h .nil;simpa using this
theorem jt.single {key:Nat->Nat} {φ:Ph}{vs:List Value}{m:MV}(h:jt key φ vs [m]):nr key φ vs m:=by
 cases h with
 |cons v _ vs _ h1 h2=>cases h2;simpa using h1
theorem Hc {a:Addr}{n:Nat}{cs:List Value}(h:W.cells? base a n=some cs):cs.length=n/\ ∀j,j<n->W.cell? (a.add j)=cs[j]? :=by
 unfold World.cells? at h;split at h
 ·have hl:=mapM_some_length h;refine ⟨by simpa using hl,λj hj=> ?_⟩;exact mapM_some_get h j j (by simp [hj])
 ·cases h
theorem S4 {F:TypeId->List MV->Prop}{fuel:Nat}{cs:List Value}: ∀(fs:List Field) (o n:Nat) (xs:List (DataW H×List MemPlace)),QQ P fs o n=true->cs.length=n-> (∀(i:Nat) (f:Field),fs[i]? =some f->DataW.trod enc P W base sp held fuel f.type ((cs.drop f.offset).take (P.cellsOf f.type))=xs[i]?)->xs.length=fs.length-> (∀f∈fs,∀j9 x,DataW.trod enc P W base sp held fuel f.type j9=some x-> ∃ms,jt key (Hb W) j9 ms/\F f.type ms)-> ∃ms,jt key (Hb W) (cs.drop o) ms/\FT F (fs.map (·.type)) ms:=by
 intro fs;induction fs with
 |nil=>intro o n xs hc hl _ _ _;have:o=n:=fj hc;subst this;refine ⟨[],?_,rfl⟩;rw [<-hl,List.drop_length];exact .nil
 |cons f fs ih=>
  intro o n xs hc hl hx hxl hF;simp only [QQ,sh] at hc;have ho:=fj hc.1;cases xs with
  |nil=>simp at hxl
  |cons x xs=>have h0:=hx 0 f rfl;rw [ho] at h0;obtain ⟨m1,r1,t1⟩:=hF f (by simp) _ x (by simpa using h0);obtain ⟨m2,r2,t2⟩:=ih (o+P.cellsOf f.type) n xs hc.2 hl (λi g hg=>by have:=hx (i+1) g (by simpa using hg);simpa using this) (by simpa using hxl) (λg hg=>hF g (by simp [hg]));refine ⟨m1++m2,?_,m1,m2,rfl,t1,t2⟩;have:=r1.append r2;rw [<-List.drop_drop,afL] at this;exact this
theorem acG: ∀(fuel D:Nat) (t:TypeId) (cs:List Value) (x:DataW H×List MemPlace),okT P D t=true->DataW.trod enc P W base sp held fuel t cs=some x-> ∃ms,jt key (Hb W) cs ms/\MT P fuel t ms:=by
 intro fuel;induction fuel with
 |zero=>intro D t cs x _ h;simp [DataW.trod] at h
 |succ fuel ih=>
  intro D t cs x hD h;cases D with
  |zero=>simp [okT] at hD
  |succ D=>
   unfold okT at hD;cases hu:P.underlying t with
   |none=>simp [hu] at hD
   |some d=>
    cases d<;>simp only [hu] at hD<;>try (cases hD;done)
    case bool=>obtain ⟨b,rfl,_⟩:=DataW.trod_bool hu h;exact ⟨[.b b],.acF (.b b),by simp only [MT,hu];exact ⟨b,rfl⟩⟩
    case int k=>obtain ⟨n,rfl,_,hw⟩:=DataW.trod_int hu h;exact ⟨[.i k n],.acF (.i k n),by simp only [MT,hu];exact ⟨n,rfl,hw⟩⟩
    case string=>obtain ⟨s,rfl,_,hw⟩:=DataW.trod_string hu h;exact ⟨[.s s.data.toList],.acF (.s s),by simp only [MT,hu];exact ⟨_,rfl,by simpa using hw⟩⟩
    case struct fs=>
     obtain ⟨xs,n,hn,_,hl,hxl,hx⟩:=DataW.trod_struct hu h;have hn:n=fuel:=by omega
     subst hn;simp only [sh] at hD;obtain ⟨ms,r1,t1⟩:=S4 (F:=MT P n) (key:=key) fs.toList 0 (P.cellsOf t) xs hD.1 hl (λi f hf=>hx i f (by simpa using hf)) (by simpa using hxl) (λf hf j9 x' h'=>ih D f.type j9 x' (ab9.1 hD.2 f hf) h');exact ⟨ms,by simpa using r1,by simp only [MT,hu];exact t1⟩
    case slice e=>
     simp only [sh] at hD;have jv:1<=P.cellsOf e:=abf hD.2;rcases DataW.trod_slice hu h with ⟨rfl,_⟩|⟨a,len,cap,elems,rest,n,hn,rfl,_,_,hlc,Sa,hel,hx,_⟩
     ·refine ⟨[.list []],.acF (.list none 0 [] 0 0 0 (λ_=>[]) (by simp) (by simp) (by simp) (by simp) (by simp)),?_⟩;simp only [MT,hu];exact ⟨[],rfl,ahm _,by simp⟩
     ·have hn:n=fuel:=by omega
      subst hn;have o4: ∀i,i<len-> ∃j9 m,W.cells? base (a.add (i *P.cellsOf e)) (P.cellsOf e)=some j9/\nr key (Hb W) j9 m/\ME P (MT P n) e m:=by
       intro i hi;have h1:=hx i hi;cases hc:W.cells? base (a.add (i *P.cellsOf e)) (P.cellsOf e) with
       |none=>
        rw [hc] at h1;have:elems[i]? =none:=by simpa using h1.symm
        rw [adO] at this;omega
       |some j9=>
        rw [hc] at h1;have eE:i<elems.length:=by omega
        rw [IS eE] at h1;obtain ⟨ms,r1,t1⟩:=ih D e j9 _ hD.1 (by simpa using h1);have QB:=hD.1;by_cases hs: ∃fs,P.underlying e=some (.struct fs)
        ·obtain ⟨fs,hs⟩:=hs;exact ⟨j9,.agg ms,rfl,.agg j9 ms r1,by simp only [ME,hs];exact ⟨ms,rfl,t1⟩⟩
        ·have h1m: ∃m,ms=[m]:=by
          cases n with
          |zero=>exact t1.elim
          |succ n=>
           simp only [MT] at t1;cases hue:P.underlying e with
           |none=>simp [hue] at t1
           |some de=>
            cases de<;>simp only [hue] at t1<;>first
             |exact t1.elim
             |(obtain ⟨y,hy,_⟩:=t1;exact ⟨_,hy⟩)
             |(obtain ⟨y,hy⟩:=t1;exact ⟨_,hy⟩)
             |exact absurd ⟨_,hue⟩ hs
         obtain ⟨m,rfl⟩:=h1m;refine ⟨j9,m,rfl,r1.single,?_⟩;unfold ME;cases hue:P.underlying e with
         |none=>exact t1
         |some de=>cases de<;>first|exact t1|exact absurd ⟨_,hue⟩ hs
      let f:Nat->List Value:=λi=>(W.cells? base (a.add (i *P.cellsOf e)) (P.cellsOf e)).getD [];let g:Nat->MV:=λi=>if hi:i<len then afG (aaS (o4 i hi)) else default
      have Sd: ∀i,i<len->W.cells? base (a.add (i *P.cellsOf e)) (P.cellsOf e)=some (f i)/\nr key (Hb W) (f i) (g i)/\ME P (MT P n) e (g i):=by
       intro i hi;have hsp:=aaS (aaS (o4 i hi));have hf:f i=afG (o4 i hi):=by show (W.cells? base (a.add (i *P.cellsOf e)) (P.cellsOf e)).getD []=_;exact congrArg (λo=>o.getD []) hsp.1
       have hg:g i=afG (aaS (o4 i hi)):=by show (if hi:i<len then _ else _)=_;rw [dif_pos hi]
       rw [hf,hg];exact hsp
      have aiG:0<len->a=⟨a.block,a.off,none⟩:=by
       intro h0;obtain ⟨h1,_,_⟩:=Sd 0 h0;obtain ⟨tu,hcg⟩:=Hc h1;have:=hcg 0 (by omega);rw [Nat.zero_mul] at this;have hz:(a.add 0).add 0=a:=rfl;rw [hz] at this;have eE:0<(f 0).length:=by omega
       rw [IS eE] at this;unfold World.cell? at this;split at this
       ·cases hsp:a.spot with
        |none=>cases a;simp at hsp;subst hsp;rfl
        |some s=>simp [hsp] at this
       ·cases this
      have aow: ∀i j,i<len->j<P.cellsOf e->Hb W a.block (a.off+i *P.cellsOf e+j)=(f i)[j]? :=by intro i j hi hj;obtain ⟨h1,_,_⟩:=Sd i hi;obtain ⟨tu,hcg⟩:=Hc h1;have:=hcg j hj;rw [<-this];unfold Hb;congr 1;have ha:=aiG (by omega);rw [ha];rw [ahl,ahl]
      refine ⟨[.list ((agf len).map g)],.acF ?_,?_⟩
      ·have hlen:((agf len).map g).length=len:=by simp
       have:=nr.list (key:=key) (φ:=Hb W) (some a) cap ((agf len).map g) a.block a.off (P.cellsOf e) f (by rw [hlen];exact hlc) (λh0=>by rw [hlen] at h0;exact congrArg some (aiG h0)) (λi hi=>by rw [hlen] at hi;exact (Hc (Sd i hi).1).1) (λi j hi hj=>aow i j (by rw [hlen] at hi;exact hi) hj) (λi hi=>by simp at hi;simpa using (Sd i hi).2.1);rw [hlen] at this;exact this
      ·simp only [MT,hu];refine ⟨_,rfl,by simp;omega,λy hy=> ?_⟩;obtain ⟨i,hi,rfl⟩:=aaW.1 hy;exact (Sd i (by simpa using hi)).2.2
    case array n e=>
     simp only [sh] at hD;obtain ⟨⟨⟨h1,h2⟩,h3⟩,h4⟩:=hD;have h1:=fj h1;have h3:=fj h3;have h4:=fj h4;subst h1;obtain ⟨xs,m,hm,_,hl,hxl,hx⟩:=DataW.trod_array hu h;rw [h4] at hl;split at h2
     ·rename_i hue;have C8: ∀i (hi:i<cs.length),∃b:UInt8,cs[i]= .int .u8 (b.toNat:Int):=by
       intro i hi;have VK:i<32:=by omega
       have:=hx i VK;rw [h3,Nat.mul_one] at this;have M6:(cs.drop i).take 1=[cs[i]]:=by rw [List.take_one,List.head?_drop,IS hi];rfl
       rw [M6,IS (by omega)] at this;obtain ⟨k,hk,_,hw⟩:=DataW.trod_int hue this;simp only [aav,and_true] at hk;refine ⟨afs k.toNat,?_⟩;rw [hk];simp only [Lit.wf,sh,decide_eq_true_eq] at hw;have abH:IntKind.u8.min=0:=by decide
       have avi:IntKind.u8.max=255:=by decide
       rw [abH,avi] at hw;congr 1;have:(afs k.toNat).toNat=k.toNat:=by rw [UInt8.toNat_ofNat'];omega
       rw [this];omega
      have: ∃l:List UInt8,cs=l.map λb=>ahq .u8 (b.toNat:Int):=by
       clear hx hl h;induction cs with
       |nil=>exact ⟨[],rfl⟩
       |cons c cs ihc=>obtain ⟨b,hb⟩:=C8 0 (by simp);obtain ⟨l,hl⟩:=ihc (λi hi=>by have:=C8 (i+1) (by simpa using hi);simpa using this);exact ⟨b::l,by simp at hb;rw [hb,hl];rfl⟩
      obtain ⟨l,rfl⟩:=this;have aj0:l.length=32:=by simpa using hl
      refine ⟨[.h ⟨l,aj0⟩],?_,by simp only [MT,hu];exact ⟨_,rfl⟩⟩;have:=jt.cons (key:=key) (φ:=Hb W) _ (.h ⟨l,aj0⟩) [] [] (.h ⟨l,aj0⟩) .nil;simpa using this
     ·cases h2
theorem acH {r:Reach}{b0 D:Nat}{t:TypeId}{v:Value}{d:DataW H}{ps:List MemPlace}(hD:okT P D t=true)(hv:adr P W r b0 t v)(h:DataW.Trod enc P W base sp held t v d ps): ∃m n,jQ key (Hb W) v m/\ME P (MT P n) t m:=by
 obtain ⟨fuel,hf⟩:=h;obtain ⟨ms,r1,t1⟩:=acG (key:=key) fuel D t _ _ hD hf;cases fuel with
 |zero=>exact t1.elim
 |succ fuel=>
  have t2:=t1;simp only [MT] at t1;cases hu:P.underlying t with
  |none=>simp [hu] at t1
  |some k=>
   simp only [hu] at t1;cases k<;>simp only at t1<;>try (exact t1.elim)
   case bool=>obtain ⟨b,rfl⟩:=t1;obtain ⟨b',rfl⟩:=okWide_bool hu hv;refine ⟨.b b,fuel+1,⟨rfl,r1.single⟩,by unfold ME;simp only [hu];exact t2⟩
   case int k=>obtain ⟨n,rfl,_⟩:=t1;obtain ⟨n',rfl⟩:=okWide_int hu hv;refine ⟨.i k n,fuel+1,⟨rfl,r1.single⟩,by unfold ME;simp only [hu];exact t2⟩
   case string=>obtain ⟨l,rfl,_⟩:=t1;obtain ⟨s',rfl⟩:=okWide_string hu hv;refine ⟨.s l,fuel+1,⟨rfl,r1.single⟩,by unfold ME;simp only [hu];exact t2⟩
   case slice e=>
    obtain ⟨xs,rfl,_⟩:=t1;have hvc:v.cells.toList=[v]:=by simp only [adr,hu,Cell.okWide] at hv;cases v<;>simp_all [Cell.ok,acW]
    rw [hvc] at r1;refine ⟨.list xs,fuel+1,⟨rfl,r1.single⟩,by unfold ME;simp only [hu];exact t2⟩
   case struct fs=>obtain ⟨arr,rfl,_⟩:=okWide_struct hu hv;refine ⟨.agg ms,fuel+1,⟨arr,rfl,by simpa [acW] using r1⟩,by unfold ME;simp only [hu];exact ⟨ms,rfl,t2⟩⟩
   case array n e=>
    obtain ⟨h,rfl⟩:=t1;have: ∃arr,v= .agg arr:=by simp only [adr,hu] at hv;obtain ⟨arr,rfl,_⟩:=hv;exact ⟨arr,rfl⟩
    obtain ⟨arr,rfl⟩:=this;refine ⟨.h h,fuel+1,?_,by unfold ME;simp only [hu];exact t2⟩;have hr:=r1.single;simp only [acW] at hr;generalize C9:arr.toList=vs at hr;cases hr;show Value.agg arr= .agg _;rw [<-C9]
end
end Dn
/-
  A law of plain data, out of its function's contract. Conditions: none.
-/
namespace Dn
open Go Go.WideShapes Go.ChangeShapes Go.RowKit
section
variable {H:Type}{enc:TypeId×Value->H}{P:Program} {W W':World}{c:Ctx}
theorem Dg (hl:laidOutB P=true)(hb:Below W.heap.size W W'): ∀{ts:List TypeId} {vs:List Value} {ds:List (DataW H)} {ps:List MemPlace},(∀t∈ts,P.readableRec t=true/\t<P.types.size)-> DataW.TrodAll enc P W 0 (λ_=>true) true ts vs ds ps->(∀x∈ps,x.block<W.heap.size)->DataW.TrodAll enc P W' 0 (λb=>decide (b<W.heap.size)) true ts vs ds ps
 |[],[],[],_,_,h,_=>h
 |t::ts,v::vs,d::ds,_,ht,⟨p,q,h1,h2,e⟩,hs=>⟨p,q,Below.trod hl (ht t (by simp)).1 (ht t (by simp)).2 h1 hb (λx hx=>hs x (by rw [e];exact No _ hx)),Dg hl hb (λu hu=>ht u (by simp [hu])) h2 (λx hx=>hs x (by rw [e];exact aay _ hx)),e⟩
def E6 (P:Program):List TypeId->List MV->Prop
 |[],ms=>ms=[]
 |t::ts,ms=> ∃m r,ms=m::r/\(∃n,ME P (MT P n) t m)/\E6 P ts r
theorem OO {base:Nat}{sp:Nat->Bool}{held:Bool}{key:Nat->Nat}{r:Reach}{b0:Nat}: ∀{ts:List TypeId} {vs:List Value} {ds:List (DataW H)} {ps:List MemPlace},(∀t∈ts,∃D,okT P D t=true)-> (∀(j:Nat) t v,ts[j]? =some t->vs[j]? =some v->adr P W r b0 t v)->DataW.TrodAll enc P W base sp held ts vs ds ps-> ∃ms,dw key (Hb W) vs ms/\E6 P ts ms/\ds.length=ts.length
 |[],[],[],_,_,_,_=>⟨[],rfl,rfl,rfl⟩
 |t::ts,v::vs,d::ds,_,ht,hv,⟨p,q,h1,h2,e⟩=>by obtain ⟨D,hD⟩:=ht t (by simp);obtain ⟨m,n,r1,t1⟩:=acH (key:=key) hD (hv 0 t v rfl rfl) h1;obtain ⟨ms,r2,t2,hl⟩:=OO (key:=key) (λu hu=>ht u (by simp [hu])) (λj u x hu hx=>hv (j+1) u x (by simpa using hu) (by simpa using hx)) h2;exact ⟨m::ms,⟨v,vs,rfl,r1,r2⟩,⟨m,ms,rfl,⟨n,t1⟩,t2⟩,by simp [hl]⟩
theorem ZD {fn:Func}{f:FuncId}{s:ChangeSpec}{args:Array Value}{ds gs:List (DataW H)}{before:List MemPlace}{tb:TypeId}{base:Nat}(hf:P.funcs[f]? =some fn)(uQ:fn.body.isSome=true)(E5:(fn.name== "runtime.NumGoroutine")=false)
 (hl:laidOutB P=true) (aox: ∀t∈fn.params.toList,(∃D,okT P D t=true)/\P.readableRec t=true/\t<P.types.size) (Aq:fn.resultTypes= #[tb]) (htb:P.underlying tb=some .bool) (hv:s.vars=[])
 (hfn: ∀ds:List (DataW H),ds.length=fn.params.toList.length->s.fn H ds={results:=[.lit (.bool true)],args:=ds})
 (IW: ∀(j:Nat) t v,fn.params[j]? =some t->args[j]? =some v->adr P W .any base t v)
 (hW:DataW.Whole enc P fn.params.toList s.vars false W args.toList ds gs before) (hg:c.iL (c.key f)=false)
 (Km: ∀ms,E6 P fn.params.toList ms->mL P c f ms (.b true)):
 Calls P f args W λe W'=> ∃v,e= .returned v/\s.post enc P fn false true false false W args v W':=by
 have hW':=hW;obtain ⟨p,q,hA,hV,rfl,hfz,hnd⟩:=hW;rw [hv] at hV;obtain ⟨rfl,rfl⟩:=trodVars_none hV;have eE: ∀x∈p,x.block<W.heap.size:=λx hx=>by simpa using hW'.lt x (by simp [hx])
 obtain ⟨ms,r1,t1,hdl⟩:=OO (key:=c.key) (λt ht=>(aox t ht).1) (λj t v h1 h2=>IW j t v (by simpa using h1) (by simpa using h2)) hA;have hc:=Km ms t1 (Hb W) W (λb=>W.heap.size<=b) args.toList (λb hb=>hb) (by simp only [jh,hg,aaM,if_false];exact r1) (acE W);have cV:(callFunc f args).run P W= .ok (.enter f args) W:=by
  have Qt: ¬fn.name= "runtime.NumGoroutine" :=by simpa using E5
  cases hb:fn.body with
  |none=>rw [hb] at uQ;cases uQ
  |some b=>simp [callFunc,hf,Qt,hb]
 unfold lc at hc;rw [abK,cV] at hc;refine hc.mono ?_;rintro x W' ⟨v,rfl,φ',ht,pO,hr⟩;have hvb:v= .bool true:=by obtain ⟨_,hr⟩:=hr;generalize C9:[v]=vs at hr;cases hr;simpa using C9
 subst hvb;have acI:Below W.heap.size W W':=⟨ht.rest.1,ht.rest.2.1,ht.rest.2.2.1,ht.size,λk hk=>ht.heap k (by omega) hk⟩
 have aj1:=hfn (ds++[]) (by simpa using hdl);refine ⟨_,rfl,ds,[],_,[],p,[],hW',?_,?_,?_,acI.frame _,λh=>by cases h⟩
 ·rw [aj1,Aq];exact trodAll_mk1 (shut_bool htb _)
 ·rw [aj1];simpa using Dg hl acI (λt ht=>(aox t ht).2) hA eE
 ·rw [aj1,hv];rfl
end
theorem E7 {α:Type}{f:α->MV}{Q:α->Prop}{R:MV->Prop}{xs:List MV}(h: ∀x,R x-> ∃y,x=f y/\Q y)(hx: ∀x∈xs,R x): ∃L:List α,xs=L.map f/\ ∀y∈L,Q y:=by
 induction xs with
 |nil=>exact ⟨[],rfl,by simp⟩
 |cons x xs ih=>obtain ⟨y,rfl,hq⟩:=h x (hx x (by simp));obtain ⟨L,rfl,hL⟩:=ih λz hz=>hx z (by simp [hz]);exact ⟨y::L,rfl,by simp only [AI];rintro z (rfl|hz);exact hq;exact hL z hz⟩
end Dn
/-
  A program's type table, looked through. Conditions: none.
-/
namespace Dn
open Go
theorem acJ {a b:Kd}(h:kdB a b=true):a=b:=by cases a<;>cases b<;>simp [kdB,kB] at h<;>first|rfl|(subst h;rfl)
def mN:List Kd->Kd->Bool
 |[k],k'=>kdB k k'
 |_,_=>false
theorem fF {l:List Kd}{k:Kd}(h:mN l k=true):l=[k]:=by
 cases l with
 |nil=>simp [mN] at h
 |cons a l=>cases l with
  |nil=>simp only [mN] at h;rw [acJ h]
  |cons=>simp [mN] at h
def Ib:List Nat->List Nat->Bool
 |[],[]=>true
 |a::l,b::m=>BY a b&&Ib l m
 |_,_=>false
theorem KE {l m:List Nat}(h:Ib l m=true):l=m:=by
 induction l generalizing m with
 |nil=>cases m<;>simp [Ib] at h;rfl
 |cons a l ih=>
  cases m with
  |nil=>simp [Ib] at h
  |cons b m=>simp only [Ib,sh] at h;rw [fj h.1,ih h.2]
def zi {α:Type}:List α->Bool
 |[]=>true
 |_=>false
theorem rW {α:Type}{l:List α}(h:zi l=true):l=[]:=by cases l<;>simp [zi] at h;rfl
def QR (ti:Nat->Option TI)(t:Nat):Bool:=match ti t with|some J=>zi J.dJ&&afA 1 J.size|none=>false
theorem OP {ti:Nat->Option TI}{t:Nat}(h:QR ti t=true): ∃J,ti t=some J/\J.dJ=[]/\0<J.size:=by
 unfold QR at h;cases hJ:ti t with
 |none=>simp [hJ] at h
 |some J=>simp only [hJ,sh] at h;exact ⟨J,rfl,rW h.1,abf h.2⟩
def KF:List Value->Nat->Bool
 |[],n=>BY n 0
 | .int .u8 k::r,n+1=>decide (k=0)&&KF r n
 |_,_=>false
theorem S5 {l:List Value}{n:Nat}(h:KF l n=true):l=aaR n (.int .u8 0):=by
 induction l generalizing n with
 |nil=>have:=fj h;subst this;rfl
 |cons v l ih=>
  cases n with
  |zero=>cases v<;>simp [KF] at h
  |succ n=>
   unfold KF at h;split at h
   ·rename_i h1;simp at h1
   ·rename_i k _ _ h1 h2;simp only [aav] at h1;obtain ⟨rfl,rfl⟩:=h1;cases h2;simp only [sh,decide_eq_true_eq] at h;rw [h.1,ih h.2];rfl
   ·cases h
def Hd:List aT->aT->Bool
 |[.nil],.nil=>true
 |[.p (.b false)],.p (.b false)=>true
 |[.p (.i k n)],.p (.i k' m)=>kB k k'&&decide (n=m)
 |[.p (.s [])],.p (.s [])=>true
 |_,_=>false
theorem B0 {l:List aT}{x:aT}(h:Hd l x=true):l=[x]:=by
 unfold Hd at h;split at h<;>first|rfl|skip
 ·simp [kB] at h;rw [h.1,h.2]
 ·cases h
def acK:List aT->Bool
 |[.hs x]=>decide (x=lp.zero)
 |_=>false
theorem acL {l:List aT}(h:acK l=true):l=[.hs lp.zero]:=by
 unfold acK at h;split at h
 ·rw [of_decide_eq_true h]
 ·cases h
def acM (ti:Nat->Option TI)(P:Program)(I:TI)(z:Option Value):TypeDesc->Bool
 | .struct fs=>I.st&&zi I.dJ&&afA 1 I.size&&BY (IQ I.lay) I.size&&Ib (fs.toList.map (·.offset)) I.Si&&Ib (fs.toList.map (·.type)) I.YV&& (fs.toList.all λf=>QR ti f.type)&&(match z with|some (.agg cs)=>we I.zero cs.toList&&BY cs.size I.size|_=>false)
 | .tuple ts=>Ib I.dJ ts.toList&&!zi I.dJ&&zi I.lay&&!I.st
 | .slice el=>!I.st&&zi I.dJ&&BY I.size 1&&BY I.elem el&&QR ti el&&(match z with|some (.slice none 0 0)=>true|_=>false)&&Hd I.zero .nil&&mN I.lay .l
 | .array n el=>!I.st&&zi I.dJ&&BY I.size 32&&BY n 32&&BY I.elem el&&(match P.underlying el with|some (.int .u8)=>true|_=>false)&&(match P.info? el with|some i=>BY i.size 1|none=>false)&& mN I.lay .h&&acK I.zero&&(match z with|some (.agg cs)=>KF cs.toList 32|_=>false)
 | .bool=>!I.st&&zi I.dJ&&BY I.size 1&&mN I.lay .b&&Hd I.zero (.p (.b false))&&(match z with|some (.bool false)=>true|_=>false)
 | .int k=>!I.st&&zi I.dJ&&BY I.size 1&&mN I.lay (.i k)&&Hd I.zero (.p (.i k 0))&&(match z with|some (.int k' n)=>kB k' k&&decide (n=0)|_=>false)
 | .string=>!I.st&&zi I.dJ&&BY I.size 1&&mN I.lay .s&&Hd I.zero (.p (.s []))&&(match z with|some (.string b)=>zi b.data.toList|_=>false)
 |_=>!I.st&&zi I.dJ&&BY I.size 1&&mN I.lay .raw&&(match z with|some v=>v.oneCell'&&we I.zero [v]|none=>false)
theorem acN {ti:Nat->Option TI}{P:Program}{I:TI}{z:Option Value}{d:TypeDesc}(h:acM ti P I z d=true):uL ti P I z d:=by
 cases d<;>simp only [acM,sh,aaH] at h<;>simp only [uL];case struct fs=>
  obtain ⟨⟨⟨⟨⟨⟨⟨h1,h2⟩,h3⟩,h4⟩,h5⟩,h6⟩,h7⟩,h8⟩:=h;refine ⟨h1,rW h2,⟨abf h3,fj h4⟩,KE h5,KE h6,λk f hk=> ?_,?_⟩
  ·exact OP (ab9.1 h7 f (by
    have:fs.toList[k]? =some f:=by simpa using hk
    exact afO this))
  ·split at h8
   ·rename_i cs;simp only [sh] at h8;exact ⟨cs,rfl,h8.1,fj h8.2⟩
   ·cases h8
 case tuple ts=>obtain ⟨⟨⟨h1,h2⟩,h3⟩,h4⟩:=h;exact ⟨KE h1,λhe=>(by rw [he] at h2;simp [zi] at h2),rW h3,h4⟩
 case slice el=>
  obtain ⟨⟨⟨⟨⟨⟨⟨h1,h2⟩,h3⟩,h4⟩,h5⟩,h6⟩,h7⟩,h8⟩:=h;refine ⟨h1,rW h2,fj h3,fj h4,OP h5,?_,B0 h7,.l,fF h8,rfl⟩;split at h6
  ·rfl
  ·cases h6
 case array n el=>
  obtain ⟨⟨⟨⟨⟨⟨⟨⟨⟨h1,h2⟩,h3⟩,h4⟩,h5⟩,h6⟩,h7⟩,h8⟩,h9⟩,h10⟩:=h;refine ⟨h1,rW h2,fj h3,fj h4,fj h5,?_,fF h8,acL h9,?_⟩
  ·split at h6
   ·rename_i hu;split at h7
    ·rename_i i hi;exact ⟨i,hu,hi,fj h7⟩
    ·cases h7
   ·cases h6
  ·split at h10
   ·rename_i cs;have:=S5 h10;congr 1;congr 1;apply aaU.1;rw [this];rfl
   ·cases h10
 case bool=>
  obtain ⟨⟨⟨⟨⟨h1,h2⟩,h3⟩,h4⟩,h5⟩,h6⟩:=h;refine ⟨h1,rW h2,fj h3,fF h4,B0 h5,?_⟩;split at h6
  ·rfl
  ·cases h6
 case int k=>
  obtain ⟨⟨⟨⟨⟨h1,h2⟩,h3⟩,h4⟩,h5⟩,h6⟩:=h;refine ⟨h1,rW h2,fj h3,fF h4,B0 h5,?_⟩;split at h6
  ·simp only [kB,sh,decide_eq_true_eq] at h6;rw [h6.1,h6.2]
  ·cases h6
 case string=>
  obtain ⟨⟨⟨⟨⟨h1,h2⟩,h3⟩,h4⟩,h5⟩,h6⟩:=h;refine ⟨h1,rW h2,fj h3,fF h4,B0 h5,?_⟩;split at h6
  ·rename_i b;exact ⟨b,rfl,rW h6⟩
  ·cases h6
 all_goals
  obtain ⟨⟨⟨⟨h1,h2⟩,h3⟩,h4⟩,h5⟩:=h;refine ⟨h1,rW h2,fj h3,fF h4,?_⟩;split at h5
  ·rename_i v;simp only [sh] at h5;exact ⟨v,rfl,h5.1,h5.2⟩
  ·cases h5
def aj3 (ti:Nat->Option TI)(P:Program)(t:Nat)(I:TI):Bool:=match P.underlying t,P.info? t with
 |some d,some i=>(!zi I.dJ||(BY i.size I.size&&BY i.bytes I.bytes))&&acM ti P I i.zero d
 |_,_=>false
theorem agB {ti:Nat->Option TI}{P:Program}{t:Nat}{I:TI}(h:aj3 ti P t I=true):rf ti P t I:=by
 unfold aj3 at h;split at h
 ·rename_i d i hu hi;simp only [sh,Bool.or_eq_true,aaH] at h;refine ⟨d,i,hu,hi,λhc=> ?_,acN h.2⟩;rcases h.1 with h1|h1
  ·rw [hc] at h1;simp [zi] at h1
  ·exact ⟨fj h1.1,fj h1.2⟩
 ·cases h
def wC:List (Nat×TI)->Nat->Option TI
 |[],_=>none
 |(k,s)::r,t=>bif BY k t then some s else wC r t
def S7 (P:Program)(tab:List (Nat×TI)):Bool:=tab.all λp=>aj3 (wC tab) P p.1 p.2
theorem OQ {l:List (Nat×TI)}{t:Nat}{I:TI}(h:wC l t=some I):(t,I)∈l:=by
 induction l with
 |nil=>simp [wC] at h
 |cons p l ih=>
  obtain ⟨k,s⟩:=p;simp only [wC,fc] at h;by_cases hk:k=t
  ·subst hk;simp at h;subst h;simp
  ·simp only [hk,decide_false,cond_false] at h;exact aaI _ (ih h)
theorem QS {P:Program}{tab:List (Nat×TI)}(h:S7 P tab=true):lS P (wC tab):=λt I hI=>agB (ab9.1 h (t,I) (OQ hI))
end Dn
