import Derived.Test.YtmdlghpieagfhaaGreatDnA
import Derived.MapKept
import Derived.Carry
import Derived.Laws.StructEq
import Derived.Laws.RangeAny
import Derived.Laws.BytesArg
import Derived.Laws.MakeOwn
import Derived.LoopN
import Derived.Laws.Sem
import Derived.ProofKit
import Derived.OpenShut
/- How code runs. Conditions: none. -/
set_option linter.unusedSimpArgs false
set_option linter.unusedVariables false
set_option linter.constructorNameAsVariable false
open Nat renaming eq_of_beq_eq_true→cV,beq→BY,le_of_ble_eq_true→ac1,zero_add→ac5,add_right_cancel_iff→ac8,le_trans→adr,le_refl→adP,ble→adY,not_lt_zero→aed,ble_eq_true_of_le→aej,add_assoc→aga,add_comm→agk,zero_le→agp
open Bool renaming and_eq_true→sh,or_eq_false_iff→OF,not_eq_true'→aaP,false_eq_true→abF,not_eq_false'→acW,true_and→afy,not_true→afG
open List renaming mem_cons→AI,getElem?_eq_getElem→No,mem_append_left→aau,mem_append_right→aaJ,mem_cons_of_mem→abz,cons_append→abG,getElem?_eq_some_iff→abJ,map_cons→acE,replicate→acN,mem_map→acU,getElem?_map→acV,mem_append→acX,getElem?_append_right→ac4,getElem?_append_left→ac7,all_eq_true→ada,length_cons→adb,mem_filter→adl,getD_eq_getElem?_getD→adM,getElem?_eq_none_iff→adN,range'→ad1,mem_range'→aee,take_append_drop→aeg,length_singleton→aek,mem_of_getElem?→aer,mapM_cons→aev,getElem?_range→aeO,map_eq_nil_iff→aeU,getElem?_take→afO,range→afP,append_assoc→afS,getElem?_set→afT,ext_getElem?→afV,size_toArray→afZ,filter_cons→af1,length_take→af5,range'_succ→af6,length_map→af7,append_nil→af8
open Option.some renaming injEq→AT
open Go.Value renaming ownBlock→IT,slice→adf,cells→adg,okWide→adx,int→agC
open Go.Result renaming andThen→aaK
open List.cons renaming injEq→aaU
open Prod.mk renaming injEq→abB
open Go.MapKept renaming run_getObj_map→abC,run_setObj_map→acv
open Go.Instr renaming sameBits→abE,sameNow→acZ,findNow→ade,findKey→ad9,sureAddr→aeN,loadAt→afW
open Classical renaming choose_spec→acT,choose→aeb
open Option renaming map_some→acY
open Array renaming getElem?_modify→ac0,getD_eq_getD_getElem?→ac2,toArray_toList→ac3,toList_inj→ac6,toList_map→ac9,replicate→aef,length_toList→aeT,ext_getElem?→afN
open Go.Oper renaming wp_mono→ads,upon_value→aec,wp→agf
open UInt8 renaming ofNat→adW
open Go.Deferred renaming ofValue→aea
open Go.Code renaming region→aet,rounds→agr
open Go.World renaming frozen?→afH
open False renaming elim→afM
open Go.Sem renaming run_bind→afR
open Go.Op renaming equal→af9
open Go.Region renaming wanted→age
open Ne renaming symm→agl
open Go.Exit renaming inBlock→agm
open Go.Addr renaming add_mid→agn
open Go.Value.pointer renaming injEq→ags
namespace Dn
open Go
def qy (φ:Ph)(w:World):Prop:= ∀b o v,φ b o=some v->w.cell? ⟨b,o,none⟩=some v
def oO (key:Nat->Nat) (φ:Ph):Env:=⟨key,φ,λ_=>undef,λ_=>0,[]⟩
def dQ (P:Program)(f:FuncId)(args:Array Value)(w:World)(R:Value->World->Prop):Prop:=match (callFunc f args).run P w with
 | .ok (.enter g as) w'=>Calls P g as w' λx Bp=> ∃v,x= .returned v/\R v Bp
 | .ok (.value v) w'=>R v w'
 |_=>False
def Iv (ks:List LK)(ls:List MV):Option (List aE×List (Nat×pn)):=dh ⟨[],[],[],[]⟩ ks ls λcs rest st=>gN rest (some (cs,st.bo))
def gz (c:Ctx)(Z:Nat->Prop) (φ:Ph)(w:World)(bt:Nat)(ks:List LK)(ls:List MV):Prop:=∃cs m,∃E:Nat->Value,∃arr T,Iv ks ls=some (cs,m)/\w.heap[bt]? =some (.cells arr T (0,0))/\Z bt/\(∀o,φ bt o=none)/\ay ⟨c.key,φ,E,λ_=>bt,m⟩ arr.toList cs/\ (∀f o,aQ m f=some o->cT c (bI.plain Z) ⟨c.key,φ,E,λ_=>bt,m⟩ w (E f) o/\(E f).ownBlock≠some bt)/\ (∀f f' o o' k,aQ m f=some o->aQ m f'=some o'->(E f).ownBlock=some k->(E f').ownBlock=some k->f=f')
def afX (c:Ctx)(Z:Nat->Prop) (φ:Ph)(w:World)(k:Nat)(vs:List Value)(ms:List MV):Prop:=∃pos ks off ls bt,c.sig k=some (pos,ks)/\vs[pos]? =some (.pointer (some ⟨bt,off,none⟩))/\ms[pos]? =some (.cell (.func off ls))/\bV c.key φ vs (ms.set pos (.rp []))/\gz c Z φ w bt ks ls
def fJ (c:Ctx)(Z:Nat->Prop) (φ:Ph)(w:World)(k:Nat)(vs:List Value)(ms:List MV):Prop:=if c.fF k then (∃v0 v1 v2 xs m1 ys,vs=[v0,v1,v2]/\ms=[.fresh xs,m1,.fresh ys]/\cT c (bI.plain Z) (oO c.key φ) w v0 ⟨c.nT k,false,xs⟩/\fZ c.key φ v1 m1/\ cT c (bI.plain Z) (oO c.key φ) w v2 ⟨c.nT k,false,ys⟩/\ ∀b,v0.ownBlock=some b->v2.ownBlock≠some b)\/ (∃v0 v1 v2 xs m1 m2,vs=[v0,v1,v2]/\ms=[.fresh xs,m1,m2]/\m2.one=true/\cT c (bI.plain Z) (oO c.key φ) w v0 ⟨c.nT k,false,xs⟩/\fZ c.key φ v1 m1/\fZ c.key φ v2 m2)\/ afX c Z φ w k vs ms
 else bV c.key φ vs ms
def Lo (c:Ctx)(Z:Nat->Prop) (φ:Ph)(w:World)(k:Nat)(v:Value):List MV->Prop
 | .fresh xs::ms=> ∃v0 us,v= .tuple (v0::us).toArray/\cT c (bI.plain Z) (oO c.key φ) w v0 ⟨c.nT k,false,xs⟩/\bV c.key φ us ms
 |ms=> ∃arr,v= .tuple arr/\bV c.key φ arr.toList ms
theorem Lo.args {c:Ctx}{Z:Nat->Prop} {φ:Ph}{w:World}{k:Nat}{arr:Array Value}{ms:List MV}(h:bV c.key φ arr.toList ms):Lo c Z φ w k (.tuple arr) ms:=by
 cases ms with
 |nil=>exact ⟨arr,rfl,h⟩
 |cons m r=>
  cases m<;>first|exact ⟨arr,rfl,h⟩|skip
  obtain ⟨_,_,_,h1,_⟩:=h;have h1:(MV.fresh _).one=true/\_:=h1;simp [MV.one] at h1
def iG (c:Ctx)(Z:Nat->Prop) (φ:Ph)(w:World)(k:Nat)(v:Value):MV->Prop
 | .fresh xs=>cT c (bI.plain Z) (oO c.key φ) w v ⟨c.nT k,false,xs⟩
 | .eu ms=>Lo c Z φ w k v ms
 |m=>fZ c.key φ v m
def vq (c:Ctx)(Z:Nat->Prop) (φ:Ph)(w:World)(k:Nat)(vs:List Value)(v:Value):MV->Prop
 | .ew r outs=>iG c Z φ w k v r/\ ∃pos ks bt off,c.sig k=some (pos,ks)/\vs[pos]? =some (.pointer (some ⟨bt,off,none⟩))/\gz c Z φ w bt ks outs
 |r=>iG c Z φ w k v r
def j8 (P:Program)(c:Ctx)(f:Nat)(ms:List MV)(r:MV):Prop:=∀(φ:Ph) (w:World) (Z:Nat->Prop) (vs:List Value),(∀b,w.heap.size<=b->Z b)->fJ c Z φ w (c.key f) vs ms->qy φ w-> dQ P f vs.toArray w λv w'=> ∃φ',Trans Z φ w φ' w'/\qy φ' w'/\vq c Z φ' w' (c.key f) vs v r
def Sound (P:Program)(c:Ctx):Prop:= ∀f ms r,c.g (c.key f) ms=some r->j8 P c f ms r
section
variable {P:Program}{c:Ctx}{Z:bI} {Z':Nat->Prop} {e e':Env}{st:St}{a:Act} {w w':World}{R:Type}{K:St->Option R}{r:R}{Q:Exit->Act->World->Prop}{o:Oper}
theorem vq.plain {c:Ctx}{Z:Nat->Prop} {φ:Ph}{w:World}{k:Nat}{vs:List Value}{v:Value}{r:MV}(h:iG c Z φ w k v r):vq c Z φ w k vs v r:=by cases r<;>first|exact h|exact absurd h.1 (by simp [MV.one])
def isW:MV->Bool
 | .ew _ _=>true
 |_=>false
theorem vq.of {c:Ctx}{Z:Nat->Prop} {φ:Ph}{w:World}{k:Nat}{vs:List Value}{v:Value}{r:MV}(h:vq c Z φ w k vs v r)(hr:isW r=false):iG c Z φ w k v r:=by cases r<;>first|exact h|cases hr
theorem b9.called {φ':Ph}(h:b9 c Z e st a w)(hz: ∀b,Z' b->Z.In b)(uZ: ∀t cs,av st.fr t= .box cs-> ¬Z' (e.B t))(jK: ∀f o k,aQ st.bo f=some o->(e.E f).ownBlock=some k-> ¬Z' k)(ht:Trans Z' e.φ w φ' w')(hi:qy φ' w'):b9 c Z {e with φ:=φ'} st a w':=by
 have uX:mF (λ_=>True) (λ_=>True) e {e with φ:=φ'}:=⟨rfl,ht.ph,λ_ _=>rfl,λf o ho _=>⟨o,ho,rfl,rfl⟩⟩
 refine ⟨h.defers,h.size,h.m,h.key,h.nodup,?_,h.root,?_,h.bb,h.bf,h.ff,hi,λb hb=>h.cS b (adr ht.size hb)⟩
 ·intro t;have hs:=h.slot t;have hb:=uZ t;generalize av st.fr t=s at hs hb;cases s<;>simp only [cn] at hs⊢ <;>try exact hs.on uX (eX _)
  rename_i cs;refine ⟨hs.1,hs.2.cS,?_,?_⟩
  ·obtain ⟨o2,h1,h2⟩:=hs.2.obj;exact ⟨o2,by rw [ht.heap _ (hb cs rfl) (aZ h1)];exact h1,h2.on uX (λl _ f _=>trivial)⟩
  ·intro off;show φ' (e.B t) off=none;rw [ht.free _ off (hb cs rfl)];exact hs.2.free off
 ·intro f o ho;obtain ⟨I,cells,h1,h2,h3,h4,h5⟩:=(h.iC f o ho).row;refine ⟨I,cells,h1,h2,?_,h4.mono ht.ph,?_⟩
  ·show w'.ownsRow 0 o.ty I.size (e.E f) o.xs.length cells;refine ⟨h3.1,?_⟩;rcases h3.2 with h6|⟨g,cap,fI,g1,g2,g3,g4⟩
   ·exact .inl h6
   ·refine .inr ⟨g,cap,fI,g1,g2,?_,g4⟩;rw [ht.heap g (jK f o g ho (by rw [g1];rfl)) (aZ g3)];exact g3
  ·intro bt hb;refine ⟨(h5 bt hb).1,λoff u hu=>(h5 bt hb).2.1 off u ?_,λg1 g2 j hj=>ht.ph.Bn ((h5 bt hb).2.2 g1 g2 j hj) hj⟩;have hu:φ' bt off=some u:=hu;rw [ht.free _ off (jK f o bt ho hb)] at hu;exact hu
theorem b9.S9 {f:Nat}{fo:pn} {v':Value}(h:b9 c Z e st a w)(zN:f∉Z.db)(jK:cT c Z.nc e w v' fo)(hb: ∀b,v'.ownBlock=some b->(∀t cs,av st.fr t= .box cs->e.B t≠b)/\(∀g o,aQ st.bo g=some o->(e.E g).ownBlock≠some b)): b9 c Z (e.wU f v' fo) (st.wU f fo) a w:=by
 have uX:mF (· ≠f) (λ_=>True) e (e.wU f v' fo):=by refine ⟨rfl,.refl _,λ_ _=>rfl,λf2 o2 cU di=> ?_⟩;have cU:aQ (cb e.m f fo) f2=some o2:=cU;rw [bx] at cU;simp only [di,if_false] at cU;exact ⟨o2,cU,by simp [Env.wU,di],rfl⟩
 refine ⟨h.defers,h.size,by show cb e.m f _=cb st.bo f _;rw [h.m],h.key,?_,?_,?_,?_,?_,?_,?_,h.kP,h.cS⟩
 ·show (aU (mj f st.fr)).Nodup;have:aU (mj f st.fr)=aU st.fr:=by simp [aU,mj]
  rw [this];exact h.nodup
 ·intro t;show cn Z _ _ t _ (av (mj f st.fr) t);rw [iX];have hs:=h.slot t;generalize av st.fr t=s at hs;by_cases NZ: ∃cs,s= .box cs
  ·obtain ⟨cs,rfl⟩:=NZ;simp only [cn,Bo] at hs⊢;refine ⟨hs.1.mC (SO f _),hs.2.cS,?_,hs.2.free⟩;obtain ⟨o2,h1,h2⟩:=hs.2.obj;refine ⟨o2,h1,?_⟩;refine (h2.map (λ_ _=>aX.kill f) (λ_ _=>rfl)).on uX ?_;intro l hl;obtain ⟨x,_,rfl⟩:=acU.1 hl;exact Fc f x
  ·have zb:ah e (a.tmps.getD t undef) s:=by cases s<;>simp only [cn] at hs<;>first|exact hs|exact absurd ⟨_,rfl⟩ NZ
   have h2:=(zb.kill f).on uX (Zf f _ s (eX s));generalize Sv:Bo f s=s2 at h2;cases s2<;>first|exact h2|(exfalso;simp [ah] at h2)
 ·intro t;show dc (mj f st.fr) (av (mj f st.fr) t);rw [iX];have sM:=h.root t;generalize av st.fr t=s at sM;have hk: ∀q,dy (av (mj f st.fr) q)=dy (av st.fr q):=λq=>by rw [iX,Fm]
  cases s with
  |ptr q o=>show dy (av (mj f st.fr) q)=true;rw [hk];exact sM
  |hp q o i=>show dy (av (mj f st.fr) q)=true;rw [hk];exact sM
  |zT q=>show dy (av (mj f st.fr) q)=true;rw [hk];exact sM
  |ep g' _ _ _ _=>simp only [Bo];cases BY g' f<;>trivial
  |_=>trivial
 ·intro f2 o2 cU;have cU:aQ (cb st.bo f fo) f2=some o2:=cU;rw [bx] at cU;show cT c (Z.fz f2) _ w (if f2=f then v' else e.E f2) o2;by_cases ga:f2=f
  ·rw [if_pos ga];rw [if_pos ga] at cU;cases cU;rw [ga];exact (jK.to zN).env rfl rfl
  ·rw [if_neg ga];simp only [ga,if_false] at cU;exact (h.iC f2 o2 cU).env rfl rfl
 ·intro t t' c1 c2 h1 h2 di;have h1:av (mj f st.fr) t= .box c1:=h1;have h2:av (mj f st.fr) t'= .box c2:=h2;rw [iX] at h1 h2;obtain ⟨d1,g1,_⟩:=vo h1;obtain ⟨d2,g2,_⟩:=vo h2;exact h.bb t t' d1 d2 g1 g2 di
 ·intro t c1 f2 o2 h1 h2;have h1:av (mj f st.fr) t= .box c1:=h1;have h2:aQ (cb st.bo f fo) f2=some o2:=h2;rw [iX] at h1;rw [bx] at h2;obtain ⟨d1,g1,_⟩:=vo h1;show (if f2=f then v' else e.E f2).ownBlock≠some (e.B t);by_cases ga:f2=f
  ·rw [if_pos ga];intro hh;exact (hb _ hh).1 t d1 g1 rfl
  ·rw [if_neg ga];simp only [ga,if_false] at h2;exact h.bf t d1 f2 o2 g1 h2
 ·intro f1 f2 o1 o2 k h1 h2 h3 h4;have h1:aQ (cb st.bo f fo) f1=some o1:=h1;have h2:aQ (cb st.bo f fo) f2=some o2:=h2;have h3:(if f1=f then v' else e.E f1).ownBlock=some k:=h3;have h4:(if f2=f then v' else e.E f2).ownBlock=some k:=h4;rw [bx] at h1 h2;by_cases N0:f1=f
  ·by_cases Dt:f2=f
   ·rw [N0,Dt]
   ·rw [if_pos N0] at h3;rw [if_neg Dt] at h4;simp only [Dt,if_false] at h2;exact absurd h4 ((hb k h3).2 f2 o2 h2)
  ·rw [if_neg N0] at h3;simp only [N0,if_false] at h1;by_cases Dt:f2=f
   ·rw [if_pos Dt] at h4;exact absurd h3 ((hb k h4).2 f1 o1 h1)
   ·rw [if_neg Dt] at h4;simp only [Dt,if_false] at h2;exact h.ff f1 f2 o1 o2 k h1 h2 h3 h4
theorem xW {I:TI}{x:MV}{v:Value} {K':Slot->Option R}(hv:fZ e.key e.φ v x)(hK:zW I x K'=some r): ∃s,ah e v s/\Cd s=true/\K' s=some r:=by
 unfold zW at hK;cases iF:I.st with
 |true=>
  simp only [iF,cond_true] at hK;unfold gA at hK;split at hK
  ·rename_i ms;obtain ⟨arr,rfl,hr⟩:=hv;obtain ⟨ls,K8,nX⟩:=xT (e:=e) (vs:=arr.toList) hK;exact ⟨.ag ls,⟨arr,rfl,K8.Ws hr⟩,K8.Yy,nX⟩
  ·simp at hK
 |false=>
  simp only [iF,cond_false] at hK;split at hK
  ·rename_i k hl;obtain ⟨l,y9,nX⟩:=oN (e:=e) (vs:=[v]) hK;refine ⟨.sc l,?_,y9.Yy,nX⟩;have hp:=y9.Yy;have hm:=y9.mv;cases l<;>simp [uc] at hp<;>simp [bS] at hm
   ·subst hm;have h1:=y9.one _ rfl;rename_i m;have:m.one=true/\jz e.key e.φ [v] m:=by cases m<;>simp [MV.one] at h1<;>exact ⟨rfl,hv.2⟩
    exact this
   ·subst hm;exact hv
  ·simp at hK
theorem Qh {ts:List Nat}: ∀{vs:List Value} {ms:List MV} {K':List Slot->Option R},bV e.key e.φ vs ms->zX c ts ms K'=some r-> ∃ss,lu e vs ss/\K' ss=some r:=by
 induction ts with
 |nil=>
  intro vs ms K' h hK;cases ms with
  |nil=>cases h;exact ⟨[],rfl,hK⟩
  |cons m ms=>simp [zX,gN] at hK
 |cons t ts ih=>
  intro vs ms K' h hK;simp only [zX] at hK;cases hI:c.tv t with
  |none=>simp [hI] at hK
  |some I=>
   simp only [hI] at hK;cases ms with
   |nil=>simp [gC] at hK
   |cons m ms=>simp only [gC] at hK;obtain ⟨v,u,rfl,h1,h2⟩:=h;obtain ⟨s,g1,g2,hK⟩:=xW h1 hK;obtain ⟨ss,g3,hK⟩:=ih h2 hK;exact ⟨s::ss,⟨v,u,rfl,g1,g2,g3⟩,hK⟩
theorem Ta {fr:Fr}{s:Slot}(h:Cd s=true):dc fr s:=by cases s<;>simp [Cd] at h<;>trivial
theorem Qi {I:TI}{xs:List MV} {K':Slot->Option R}:zW I (.fresh xs) K'=none:=by
 unfold zW gA;cases I.st<;>simp;split<;>(try rfl)
 unfold kn;rename_i k _;cases k<;>simp [gB,gI,gS,gL,gH,gR]
theorem N6 {ts:List Nat}{xs:List MV}{ms:List MV} {K':List Slot->Option R}:zX c ts (.fresh xs::ms) K'=none:=by
 cases ts with
 |nil=>simp [zX,gN]
 |cons t ts=>simp only [zX,gC,Qi];cases c.tv t<;>rfl
theorem Qj {ts:List Nat}: ∀{vs:List Value} {ms:List MV} {K':List aE->Option R},bV e.key e.φ vs ms->H2 c ts ms K'=some r-> ∃ls,ay e vs ls/\jr ls=true/\K' ls=some r:=by
 induction ts with
 |nil=>
  intro vs ms K' h hK;cases ms with
  |nil=>cases h;exact ⟨[],rfl,rfl,hK⟩
  |cons m ms=>simp [H2,gN] at hK
 |cons t ts ih=>
  intro vs ms K' h hK;simp only [H2] at hK;cases hI:c.tv t with
  |none=>simp [hI] at hK
  |some I=>
   simp only [hI] at hK;cases ms with
   |nil=>simp [gC] at hK
   |cons m ms=>
    simp only [gC] at hK;obtain ⟨v,u,rfl,h1,h2⟩:=h;obtain ⟨s,g1,g2,hK⟩:=xW h1 hK;split at hK
    ·rename_i x;obtain ⟨ls,g3,g4,hK⟩:=ih h2 hK;simp only [ah] at g1;exact ⟨.p x::ls,⟨[v],u,rfl,g1,g3⟩,by simp only [jr,uc,afy];exact g4,hK⟩
    ·cases hK
theorem xX {I:TI}{x:MV}{v:Value}{k:Nat} {K':Slot->Option R}(hk:e.key=c.key)(hv:iG c Z' e.φ w k v x)(hK:s5 c I x K'=some r): ∃s,ah e v s/\dc st.fr s/\K' s=some r:=by
 unfold s5 at hK;split at hK
 ·rename_i hc;have Sq:fZ e.key e.φ v x:=by
   rw [hk];cases x<;>first|exact hv|skip
   ·exfalso;unfold zW gA at hK;cases iF:I.st<;>simp [iF] at hK;split at hK<;>(try (simp at hK;done));unfold kn at hK;rename_i k _;cases k<;>simp [gB,gI,gS,gL,gH,gR] at hK
   ·exfalso;unfold zW gA at hK;cases iF:I.st<;>simp [iF] at hK;split at hK<;>(try (simp at hK;done));unfold kn at hK;rename_i k _;cases k<;>simp [gB,gI,gS,gL,gH,gR] at hK
  obtain ⟨s,h1,h2,hK⟩:=xW Sq hK;exact ⟨s,h1,Ta h2,hK⟩
 ·unfold gT at hK;split at hK
  ·rename_i vs;have hv:Lo c Z' e.φ w k v vs:=hv;have hv: ∃arr,v= .tuple arr/\bV c.key e.φ arr.toList vs:=by
    cases vs with
    |nil=>exact hv
    |cons m ms=>cases m<;>first|exact hv|(simp only [N6] at hK;cases hK)
   obtain ⟨arr,rfl,h1⟩:=hv;obtain ⟨ss,h2,hK⟩:=Qh (by rw [hk];exact h1) hK;exact ⟨.eu ss,⟨arr,rfl,h2⟩,trivial,hK⟩
  ·simp at hK
end
end Dn
/-
  Calls as operations. Conditions: none.
-/
namespace Dn
open Go
section
variable {P:Program}{c:Ctx}{Z:bI} {Z':Nat->Prop} {e e':Env}{st:St}{a:Act} {w w':World}{R:Type}{K:St->Option R}{r:R}{Q:Exit->Act->World->Prop}{o:Oper}
theorem Fp (h:b9 c Z e st a w){t:Nat}{cs:List aE}(ht:av st.fr t= .box cs):e.B t<w.heap.size:=by have hs:=h.slot t;rw [ht] at hs;obtain ⟨o2,h1,_⟩:=hs.2.obj;exact aZ h1
theorem N7 {base:Nat}{ty:TypeId}{size n:Nat}{v:Value}{xs:List Value}(h:w.ownsRow base ty size v n xs){b:Nat}(hb:v.ownBlock=some b):b<w.heap.size:=by
 rcases h.2 with ⟨h1,_⟩|⟨g,cap,fI,h1,_,h2,_⟩
 ·rw [h1] at hb;simp [IT] at hb
 ·rw [h1] at hb;simp only [IT,AT] at hb;subst hb;exact aZ h2
theorem Fq (h:b9 c Z e st a w){f:Nat}{o:pn}(hf:aQ st.bo f=some o){b:Nat}(hb:(e.E f).ownBlock=some b):b<w.heap.size:=by obtain ⟨I,cells,_,_,h3,_⟩:=(h.iC f o hf).row;exact N7 h3 hb
structure Handed (c:Ctx) (Z:bI) (Z':Nat->Prop) (e:Env) (st:St) (a:Act) (w:World) (k:Nat) (vs:List Value) (ms:List MV):Prop where
 uh:b9 c Z e st a w
 new: ∀b,w.heap.size<=b->Z' b
 sub: ∀b,Z' b->Z.In b
 box: ∀t cs,av st.fr t= .box cs-> ¬Z' (e.B t)
 iC: ∀f o b,aQ st.bo f=some o->(e.E f).ownBlock=some b-> ¬Z' b
 args:fJ c Z' e.φ w k vs ms
 grow:c.fF k=false-> ∀b,Z' b->w.heap.size<=b
structure apz (c:Ctx) (Z:bI) (e e':Env) (st bZ:St) (a:Act) (w:World) (k:Nat) (v:Value) (xs:List MV):Prop where
 uh:b9 c Z e' bZ a w
 φ:e'.φ=e.φ
 row:cT c (bI.plain λb=>v.ownBlock=some b) (oO c.key e.φ) w v ⟨c.nT k,false,xs⟩
 In: ∀b,v.ownBlock=some b->Z.In b
 box: ∀t cs,av bZ.fr t= .box cs->v.ownBlock≠some (e'.B t)
 iC: ∀f o b,aQ bZ.bo f=some o->(e'.E f).ownBlock=some b->v.ownBlock≠some b
 keep: ∀(u:Value) (s:Slot) (g:Nat),s= .sc (.own g)->ah e u s->(∃o,aQ bZ.bo g=some o/\o.fb=false)->ah e' u s
 boxes: ∀t cs,av bZ.fr t= .box cs-> ∃Hp,av st.fr t= .box Hp/\e'.B t=e.B t
 bo: ∀f o b,aQ bZ.bo f=some o->(e'.E f).ownBlock=some b-> ∃o0,aQ st.bo f=some o0/\(e.E f).ownBlock=some b
theorem CX {k:Nat}{s:Slot}{v:Value} {K':MV->St->Option R}(h:b9 c Z e st a w)(hs:ah e v s)(hK:H0 c k st s K'=some r): ∃e' bZ xs,apz c Z e e' st bZ a w k v xs/\K' (.fresh xs) bZ=some r:=by
 unfold H0 at hK;split at hK
 ·rename_i f;cases hf:aQ st.bo f with
  |none=>simp [hf] at hK
  |some o=>
   simp only [hf] at hK;cases hz:o.fb||!BY o.ty (c.nT k) with
   |true=>simp [hz] at hK
   |false=>
    simp only [hz,cond_false] at hK;simp only [OF,acW] at hz;have jJ:=cV hz.2;have hv:v=e.E f:=(s9 h hs hf).1;have jK:=h.iC f o hf;have S2:cT c Z.nc e w (.slice none 0 0) ⟨o.ty,true,[]⟩:=by obtain ⟨I,cells,g1,g2,_⟩:=jK.row;exact ⟨I,[],g1,g2,⟨by simp,.inl ⟨rfl,rfl⟩⟩,rfl,λbt hb=>by simp [IT] at hb⟩
    have zN:=h.npf hK;have h5:=h.S9 (f:=f) zN S2 (λb hb=>by simp [IT] at hb);refine ⟨_,_,o.xs,⟨h5,rfl,?_,?_,?_,?_,?_,?_,?_⟩,qL hK⟩
    ·obtain ⟨I,cells,g1,g2,g3,g4,g5⟩:=jK.row;rw [<-jJ];refine ⟨I,cells,g1,g2,by rw [hv];exact g3,by show bA c.key e.φ _ _ _;rw [<-h.key];exact g4,λbt hb=>⟨hb,λoff u hu=> ?_,λhc=>afM hc⟩⟩;have:=((g5 bt (by rw [<-hv];exact hb)).2.1 off u hu).1;rw [hz.1] at this;cases this
    ·intro b hb;obtain ⟨I,cells,_,_,_,_,g5⟩:=jK.row;exact Sp (g5 b (by rw [<-hv];exact hb)).1 zN
    ·intro t cs ht hb;have ht:av (mj f st.fr) t= .box cs:=ht;rw [iX] at ht;obtain ⟨d1,g1,_⟩:=vo ht;exact h.bf t d1 f o g1 hf (by rw [<-hv];exact hb)
    ·intro f2 o2 b cU hb hvb;have cU:aQ (cb st.bo f ⟨o.ty,true,[]⟩) f2=some o2:=cU;have hb:(if f2=f then adf none 0 0 else e.E f2).ownBlock=some b:=hb;rw [bx] at cU;by_cases ga:f2=f
     ·rw [if_pos ga] at hb;simp [IT] at hb
     ·rw [if_neg ga] at hb cU;exact ga (h.ff f2 f o2 o b cU hf hb (by rw [<-hv];exact hvb))
    ·rintro u s g rfl qv ⟨o2,cU,hz2⟩;have cU:aQ (cb st.bo f ⟨o.ty,true,[]⟩) g=some o2:=cU;rw [bx] at cU;by_cases Iw:g=f
     ·rw [if_pos Iw] at cU;cases cU;cases hz2
     ·rw [if_neg Iw] at cU;obtain ⟨x,hx,Fk,Hm⟩:=qv;refine ⟨x,hx,Fk,λo3 P6=> ?_⟩;show x=if g=f then adf none 0 0 else e.E g
      rw [if_neg Iw];exact Hm o2 (by rw [h.m];exact cU)
    ·intro t cs ht;have ht:av (mj f st.fr) t= .box cs:=ht;rw [iX] at ht;obtain ⟨d1,g1,_⟩:=vo ht;exact ⟨d1,g1,rfl⟩
    ·intro f2 o2 b cU hb;have cU:aQ (cb st.bo f ⟨o.ty,true,[]⟩) f2=some o2:=cU;have hb:(if f2=f then adf none 0 0 else e.E f2).ownBlock=some b:=hb;rw [bx] at cU;by_cases ga:f2=f
     ·rw [if_pos ga] at hb;simp [IT] at hb
     ·rw [if_neg ga] at hb cU;exact ⟨o2,cU,hb⟩
 ·cases hI:c.tv (c.nT k) with
  |none=>simp [hI] at hK
  |some I=>simp only [hI] at hK;obtain ⟨PE,Ac⟩:=bG hI;simp only [ah,aX,aaU,and_true] at hs;subst hs;refine ⟨e,st,[],⟨h,rfl,⟨I,[],PE,Ac,⟨by simp,.inl ⟨rfl,rfl⟩⟩,rfl,λbt hb=>by simp [IT] at hb⟩,λb hb=>by simp [IT] at hb,λt cs _ hb=>by simp [IT] at hb,λf o b _ _ hb=>by simp [IT] at hb,λu s g _ hs _=>hs,λt cs ht=>⟨cs,ht,rfl⟩,λf o b ho hb=>⟨o,ho,hb⟩⟩,hK⟩
 ·simp at hK
theorem Gp {k:Nat}{s:Slot} {K':MV->St->Option R}(hK:H0 c k st s K'=some r):(∃g o,s= .sc (.own g)/\aQ st.bo g=some o/\o.fb=false)\/s= .sc .nil:=by
 unfold H0 at hK;split at hK
 ·rename_i f;cases hf:aQ st.bo f with
  |none=>simp [hf] at hK
  |some o=>
   simp only [hf] at hK;cases hz:o.fb with
   |true=>simp [hz] at hK
   |false=>exact .inl ⟨f,o,rfl,hf,hz⟩
 ·exact .inr rfl
 ·simp at hK
theorem Tb {k:Nat}{ss:List Slot}{vs:List Value} {K':List MV->St->Option R}(h:b9 c Z e st a w)(hlen:vs.length=ss.length)(ic: ∀(i:Nat)(v:Value)(s:Slot),vs[i]? =some v->ss[i]? =some s->ah e v s)(hK:UY c k st ss K'=some r): ∃e' bZ ms,∃Z':Nat->Prop,Handed c Z Z' e' bZ a w k vs ms/\Trans Z e.φ w e'.φ w/\K' ms bZ=some r:=by
 unfold UY at hK;cases hg:c.fF k with
 |false=>
  simp only [hg,cond_false] at hK;obtain ⟨e1,cR,ms,h1,h2,h3,h4,hK⟩:=s8 h ⟨λ_=>vs,rfl,hlen,ic⟩ hK;refine ⟨e1,cR,ms,λb=>w.heap.size<=b,⟨h1,λb hb=>hb,h1.cS,?_,?_,?_,λ_ b hb=>hb⟩,h2.tr,hK⟩
  ·intro t cs ht hz;have:=Fp h1 ht;omega
  ·intro f o b ho hb hz;have:=Fq h1 ho hb;omega
  ·simp only [fJ,hg,abF,if_false];rw [<-h1.key];exact h4
 |true=>
  simp only [hg,cond_true] at hK;split at hK
  ·rename_i s0 s1 s2;match vs,hlen with
   |[v0,v1,v2],ak2=>
    clear ak2 hlen;split at hK
    ·rename_i m2;obtain ⟨e1,cR,m1,h1,x1,Fl,r1,nX⟩:=o7 h (ic 1 v1 s1 rfl rfl) hK;obtain ⟨e2,ef,xs,G1,xI⟩:=CX h1 ((ic 0 v0 s0 rfl rfl).on x1.on (eX s0)) nX;have Qb:m2.one=true/\jz e.key e.φ [v2] m2:=ic 2 v2 (.sc (.p m2)) rfl rfl;have ha2:fZ e.key e.φ v2 m2:=by obtain ⟨g1,g2⟩:=Qb;cases m2<;>simp [MV.one] at g1<;>exact ⟨rfl,g2⟩
     have apA:fZ c.key e1.φ v2 m2:=by rw [<-h.key];exact ha2.mono x1.on.φ
     have wide: ∀{v:Value} {zs:List MV} (Z1:Nat->Prop),(∀b,v.ownBlock=some b->Z1 b)->cT c (bI.plain λb=>v.ownBlock=some b) (oO c.key e1.φ) w v ⟨c.nT k,false,zs⟩->cT c (bI.plain Z1) (oO c.key e1.φ) w v ⟨c.nT k,false,zs⟩:=by intro v zs Z1 hz hf;obtain ⟨I,cells,g1,g2,g3,g4,g5⟩:=hf.row;exact ⟨I,cells,g1,g2,g3,g4,λbt hb=>⟨hz bt hb,(g5 bt hb).2⟩⟩
     refine ⟨e2,ef,[.fresh xs,m1,m2],λb=>w.heap.size<=b\/v0.ownBlock=some b,⟨G1.uh,λb hb=> .inl hb,?_,?_,?_,?_,λIw=>by rw [hg] at Iw;cases Iw⟩,by rw [G1.φ];exact x1.tr,xI⟩
     ·intro b hb;rcases hb with hb|hb
      ·exact h1.cS b hb
      ·exact G1.In b hb
     ·intro t cs ht hb;rcases hb with hb|hb
      ·have:=Fp G1.uh ht;have hb:w.heap.size<=e2.B t:=hb;omega
      ·exact G1.box t cs ht hb
     ·intro f o b ho hb hz;rcases hz with hz|hz
      ·have:=Fq G1.uh ho hb;omega
      ·exact G1.iC f o b ho hb hz
     ·simp only [fJ,hg,if_true];rw [G1.φ];exact .inr (.inl ⟨v0,v1,v2,xs,m1,m2,rfl,rfl,Qb.1,wide _ (λb hb=> .inr hb) G1.row,by rw [<-h1.key];exact r1,apA⟩)
    ·obtain ⟨e1,cR,m1,h1,x1,Fl,r1,nX⟩:=o7 h (ic 1 v1 s1 rfl rfl) hK;obtain ⟨e2,ef,xs,G1,xI⟩:=CX h1 ((ic 0 v0 s0 rfl rfl).on x1.on (eX s0)) nX;have Qb:=(ic 2 v2 s2 rfl rfl).on x1.on (eX s2);have WC:ah e2 v2 s2:=by
      rcases Gp xI with ⟨g,o,h5,h6,h7⟩|h5
      ·exact G1.keep v2 s2 g h5 Qb ⟨o,h6,h7⟩
      ·rw [h5] at Qb⊢;exact Qb
     obtain ⟨e3,pC,ys,G2,Qf⟩:=CX G1.uh WC xI;have ak3:cT c (bI.plain λb=>v2.ownBlock=some b) (oO c.key e1.φ) w v2 ⟨c.nT k,false,ys⟩:=by have:=G2.row;rw [G1.φ] at this;exact this
     have xV: ∀b,v0.ownBlock=some b->v2.ownBlock≠some b:=by
      intro b h0 qx;rcases Gp xI with ⟨g,o,h5,h6,h7⟩|h5
      ·rw [h5] at WC;have Gg:v2=e2.E g:=(s9 G1.uh WC h6).1;exact G1.iC g o b h6 (by rw [<-Gg];exact qx) h0
      ·rw [h5] at WC;simp only [ah,aX,aaU,and_true] at WC;rw [WC] at qx;simp [IT] at qx
     have wide: ∀{v:Value} {zs:List MV} (Z1:Nat->Prop),(∀b,v.ownBlock=some b->Z1 b)->cT c (bI.plain λb=>v.ownBlock=some b) (oO c.key e1.φ) w v ⟨c.nT k,false,zs⟩->cT c (bI.plain Z1) (oO c.key e1.φ) w v ⟨c.nT k,false,zs⟩:=by intro v zs Z1 hz hf;obtain ⟨I,cells,g1,g2,g3,g4,g5⟩:=hf.row;exact ⟨I,cells,g1,g2,g3,g4,λbt hb=>⟨hz bt hb,(g5 bt hb).2⟩⟩
     have h3φ:e3.φ=e1.φ:=G2.φ.trans G1.φ;refine ⟨e3,pC,[.fresh xs,m1,.fresh ys],λb=>w.heap.size<=b\/v0.ownBlock=some b\/v2.ownBlock=some b,⟨G2.uh,λb hb=> .inl hb,?_,?_,?_,?_,λIw=>by rw [hg] at Iw;cases Iw⟩,by rw [h3φ];exact x1.tr,Qf⟩
     ·intro b hb;rcases hb with hb|hb|hb
      ·exact h1.cS b hb
      ·exact G1.In b hb
      ·exact G2.In b hb
     ·intro t cs ht hb;rcases hb with hb|hb|hb
      ·have:=Fp G2.uh ht;have hb:w.heap.size<=e3.B t:=hb;omega
      ·obtain ⟨Hp,k1,k2⟩:=G2.boxes t cs ht;rw [k2] at hb;exact G1.box t Hp k1 hb
      ·exact G2.box t cs ht hb
     ·intro f o b ho hb hz;rcases hz with hz|hz|hz
      ·have:=Fq G2.uh ho hb;omega
      ·obtain ⟨o0,k1,k2⟩:=G2.bo f o b ho hb;exact G1.iC f o0 b k1 k2 hz
      ·exact G2.iC f o b ho hb hz
     ·simp only [fJ,hg,if_true];rw [h3φ];exact .inl ⟨v0,v1,v2,xs,m1,ys,rfl,rfl,wide _ (λb hb=> .inr (.inl hb)) G1.row,by rw [<-h1.key];exact r1,wide _ (λb hb=> .inr (.inr hb)) ak3,xV⟩
  ·simp at hK
theorem bV.map {os:List Operand}(h:b9 c Z e st a w): ∀(i:Nat) (v:Value) (s:Slot),(os.map a.eval)[i]? =some v->(lq c st os)[i]? =some s->ah e v s:=by
 intro i v s h1 h2;rw [j7,acV] at h2;rw [acV] at h1;cases ho:os[i]? with
 |none=>simp [ho] at h1
 |some x=>simp [ho] at h1 h2;rw [<-h1,<-h2];exact (h.eval x).1
theorem Ah {f:Nat}{args:Array Value}{Rp:Value->World->Prop}(cr:(execOp a.eval o).run P w=(callFunc f args).run P w)(hc:dQ P f args w Rp){Nx:Act->World->Prop}(Vc: ∀v w',Rp v w'->Nx (a.put o.dst v) w'):o.wp P a w Nx Q:=by
 unfold agf;rw [cr];unfold dQ at hc;generalize (callFunc f args).run P w=res at hc;cases res with
 |halt=>exact hc.elim
 |ok n w1=>
  cases n<;>simp only at hc<;>try exact hc.elim
  ·exact Vc _ _ hc
  ·rw [Oper.upon_enter];refine hc.mono ?_;rintro x Bp ⟨v,rfl,hv⟩;exact Vc _ _ hv
theorem ZI {R':Type}{d k:Nat}{ts:List Nat}{x:MV}{outs:List MV} {K':Slot->St->Option R'}:H3 c d st k (.ew x outs) ts K'=none:=by
 cases ts with
 |nil=>rfl
 |cons t ts=>
  simp only [H3];cases c.tv t with
  |none=>rfl
  |some I=>cases hq:BY I.elem (c.nT k)<;>simp [hq,gT]
theorem ZJ {Z':Nat->Prop}{k d:Nat}{ms:List MV}{x:MV}{v:Value} {φ':Ph}{I:TI}{vs:List Value}(hh:Handed c Z Z' e st a w k vs ms)(hd:o.dst.getD 0=d)(ht:Trans Z' e.φ w φ' w')(hi:qy φ' w')(hr:iG c Z' φ' w' k v x)(hK:(bif c.fresh k then bif BY (c.nT k) 0 then gCl x λxs=>bC c st o.dst (.sc (.p (.clip xs))) K else bif adh I.cQ then H3 c d st k x I.cQ λs st=>bC c st o.dst s K else gF x λxs=>bif !BY I.elem (c.nT k) then none else kA st d ⟨I.elem,false,xs⟩ λst=>(bif bJ c.bs d then oL st (.own d) λm st=>bC c st o.dst (.sc (.p m)) K else bC c st o.dst (.sc (.own d)) K) else s5 c I x λs=>bC c st o.dst s K)=some r): Out c Z K r e.φ w (a.put o.dst v) w':=by
 have hs:=hh.uh.called hh.sub hh.box hh.iC ht hi;have E1:Trans Z e.φ w φ' w':=⟨ht.ph,λb hb=>ht.heap b (λhz=>hb (hh.sub b hz)),λb o hb=>ht.free b o (λhz=>hb (hh.sub b hz)),ht.size,ht.rest⟩
 cases hf:c.fresh k with
 |true=>
  simp only [hf,cond_true] at hK;cases h0:BY (c.nT k) 0 with
  |true=>
   simp only [h0,cond_true] at hK;unfold gCl at hK;split at hK
   ·rename_i xs;have CU:ah {e with φ:=φ'} v (.sc (.p (.clip xs))):=by have hr:(MV.clip xs).one=true/\jz c.key φ' [v] (.clip xs):=hr;simp only [ah,aX];rw [hh.uh.key];exact hr
    obtain ⟨e2,ef,q1,q2,q3⟩:=dz hs (.of CU trivial) hK;exact ⟨e2,ef,q1,by rw [q3];exact E1,q2⟩
   ·simp at hK
  |false=>
  simp only [h0,cond_false] at hK;cases hC:adh I.cQ with
  |true=>
   simp only [hC,cond_true] at hK;unfold H3 at hK;split at hK
   ·cases hK
   ·rename_i t0 ts _;cases Sx:c.tv t0 with
    |none=>simp [Sx] at hK
    |some I0=>
     simp only [Sx] at hK;cases jJ:BY I0.elem (c.nT k) with
     |false=>simp [jJ] at hK
     |true=>
      simp only [jJ,afG,cond_false] at hK;have jJ:=cV jJ;rw [jJ] at hK;unfold gT at hK;split at hK
      ·rename_i vs;cases vs with
       |nil=>simp [gC] at hK
       |cons m ms=>
        simp only [gC] at hK;unfold gF at hK;split at hK
        ·rename_i xs;obtain ⟨v0,us,rfl,hr,gl⟩: ∃v0 us,v= .tuple (v0::us).toArray/\cT c (bI.plain Z') (oO c.key φ') w' v0 ⟨c.nT k,false,xs⟩/\bV c.key φ' us ms:=hr;obtain ⟨ls,K8,apB,hK⟩:=Qj (e:={e with φ:=φ'}) (by show bV e.key φ' us ms;rw [hh.uh.key];exact gl) hK;have CU:cT c Z.nc {e with φ:=φ'} w' v0 ⟨c.nT k,false,xs⟩:=by obtain ⟨I,cells,g1,g2,g3,g4,g5⟩:=hr.row;exact ⟨I,cells,g1,g2,g3,by show bA e.key φ' _ _ _;rw [hh.uh.key];exact g4,λbt hb=>⟨hh.sub _ (g5 bt hb).1,(g5 bt hb).2.1,λhc=>afM hc⟩⟩
         have h6:=hs.S9 (f:=d) (hh.uh.npf hK) CU (by intro b hb;obtain ⟨I,cells,g1,g2,g3,g4,g5⟩:=hr.row;have hz:=(g5 b hb).1;exact ⟨λt cs h1 h2=>hh.box t cs h1 (by rw [h2];exact hz),λg o h1 h2=>hh.iC g o b h1 h2 hz⟩);have h1:v0.oneCell'=true:=by obtain ⟨I,cells,g1,g2,g3,_⟩:=hr.row;exact Af g3
         have uX:mF (λ_=>False) (λ_=>True) {e with φ:=φ'} (Env.wU {e with φ:=φ'} d v0 ⟨c.nT k,false,xs⟩):=⟨rfl,.refl _,λ_ _=>rfl,λ_ _ _ hf=>hf.elim⟩
         have K8:=K8.on uX (xO apB);have eW:aX (Env.wU {e with φ:=φ'} d v0 ⟨c.nT k,false,xs⟩) [v0] (.own d):=⟨v0,rfl,h1,λo ho=>by simp [Env.wU]⟩
         have hK:=qL hK;cases S3:bJ c.bs d with
         |true=>simp only [S3,cond_true] at hK;obtain ⟨e3,pC,m,k1,k2,_,k4,hK,_,k7,k8⟩:=mH (l:= .own d) h6 (vs:=[v0]) eW hK;have hm:m.one=true:=k8 (λx he=>by cases he);obtain ⟨e2,ef,q1,q2,q3⟩:=dz k1 (.of (s:= .tg (.p m::ls)) (by simp only [ah];exact ⟨_,rfl,[v0],us,rfl,⟨hm,k4⟩,K8.on k2.on (λl hl f hf=>trivial)⟩) trivial) hK;exact ⟨e2,ef,q1,by rw [q3];exact E1.trans k2.tr,q2⟩
         |false=>simp only [S3,cond_false] at hK;obtain ⟨e2,ef,q1,q2,q3⟩:=dz h6 (.of (s:= .tg (.own d::ls)) (by simp only [ah];exact ⟨_,rfl,[v0],us,rfl,eW,K8⟩) trivial) hK;exact ⟨e2,ef,q1,by rw [q3];exact E1,q2⟩
        ·simp at hK
      ·simp at hK
  |false=>
  simp only [hC,cond_false] at hK;unfold gF at hK;split at hK
  ·rename_i xs;cases jJ:BY I.elem (c.nT k) with
   |false=>simp [jJ] at hK
   |true=>
    simp only [jJ,afG,cond_false] at hK;have jJ:=cV jJ;rw [jJ] at hK;have hr:cT c (bI.plain Z') (oO c.key φ') w' v ⟨c.nT k,false,xs⟩:=hr;have CU:cT c Z.nc {e with φ:=φ'} w' v ⟨c.nT k,false,xs⟩:=by obtain ⟨I,cells,g1,g2,g3,g4,g5⟩:=hr.row;exact ⟨I,cells,g1,g2,g3,by show bA e.key φ' _ _ _;rw [hh.uh.key];exact g4,λbt hb=>⟨hh.sub _ (g5 bt hb).1,(g5 bt hb).2.1,λhc=>afM hc⟩⟩
    have h6:=hs.S9 (f:=d) (hh.uh.npf hK) CU (by intro b hb;obtain ⟨I,cells,g1,g2,g3,g4,g5⟩:=hr.row;have hz:=(g5 b hb).1;exact ⟨λt cs h1 h2=>hh.box t cs h1 (by rw [h2];exact hz),λg o h1 h2=>hh.iC g o b h1 h2 hz⟩);have h1:v.oneCell'=true:=by obtain ⟨I,cells,g1,g2,g3,_⟩:=hr.row;exact Af g3
    have hK:=qL hK;cases S3:bJ c.bs d with
    |true=>simp only [S3,cond_true] at hK;obtain ⟨e3,pC,m,k1,k2,_,k4,hK,_,k7,k8⟩:=mH (l:= .own d) h6 (vs:=[v]) ⟨v,rfl,h1,λo ho=>by simp [Env.wU]⟩ hK;have hm:m.one=true:=k8 (λx he=>by cases he);obtain ⟨e2,ef,q1,q2,q3⟩:=dz k1 (.of (s:= .sc (.p m)) (by exact ⟨hm,k4⟩) trivial) hK;exact ⟨e2,ef,q1,by rw [q3];exact E1.trans k2.tr,q2⟩
    |false=>simp only [S3,cond_false] at hK;obtain ⟨e2,ef,q1,q2,q3⟩:=dz h6 (.of (wV h1) trivial) hK;exact ⟨e2,ef,q1,by rw [q3];exact E1,q2⟩
  ·simp at hK
 |false=>simp only [hf,cond_false] at hK;obtain ⟨s,g1,g2,hK⟩:=xX (e:={e with φ:=φ'}) (st:=st) hh.uh.key hr hK;obtain ⟨e2,ef,q1,q2,q3⟩:=dz hs (.of g1 g2) hK;exact ⟨e2,ef,q1,by rw [q3];exact E1,q2⟩
theorem Out.trans {φ0:Ph}{w0:World} {a':Act}(h:Trans Z φ0 w0 e.φ w) (h':Out c Z K r e.φ w a' w'):Out c Z K r φ0 w0 a' w':=by obtain ⟨e2,ef,h1,h2,h3⟩:=h';exact ⟨e2,ef,h1,h.trans h2,h3⟩
theorem WD {R':Type}{I:TI}{x:MV}{outs:List MV} {K':Slot->Option R'}:s5 c I (.ew x outs) K'=none:=by
 unfold s5;split
 ·unfold zW;cases I.st
  ·simp only [cond_false];split
   ·rename_i k _;cases k<;>rfl
   ·rfl
  ·rfl
 ·rfl
theorem Gq {R':Type} {r':R'}{I:TI}{x:MV} {K':Slot->Option R'}(h:s5 c I x K'=some r'):isW x=false:=by cases x<;>first|rfl|(rw [WD] at h;cases h)
theorem adD {cl:Call}{f:Nat}{I:TI}(hS:Sound P c)(ho:o.op= .call cl)(rl:cl.callee= .value (.func f))(h:b9 c Z e st a w)(hK:UY c (c.key f) st (lq c st cl.args.toList) (λms st=>YS c (o.dst.getD 0) st (c.key f) ms I λs st=>bC c st o.dst s K)=some r): o.wp P a w (λa' w'=>(c.fF (c.key f)=false->dN w w')/\Out c Z K r e.φ w a' w') Q:=by
 obtain ⟨e1,cR,ms,Z',hh,ht,hK⟩:=Tb (vs:=cl.args.toList.map a.eval) h (by simp [j7]) (bV.map h) hK;unfold YS at hK;obtain ⟨x,hx,hK⟩:=nj hK;have Ai:=hS f ms x hx e1.φ w Z' _ hh.new hh.args hh.uh.kP;refine Ah ?_ Ai ?_
 ·have E3:(cl.args.toList.map a.eval).toArray=cl.args.map a.eval:=by rw [<-ac9,ac3]
  rw [E3];simp [execOp,ho,resolve,rl,Act.eval,aea,invoke]
 ·rintro v w' ⟨φ',t1,t2,t3⟩;have hw:isW x=false:=by
   cases Fi:c.fresh (c.key f) with
   |true=>rw [Fi] at hK;cases h0:BY (c.nT (c.key f)) 0<;>cases hC:adh I.cQ<;>rw [h0] at hK<;>(try rw [hC] at hK)<;>cases x<;>first|rfl|(simp [gF,gCl] at hK;done)|(simp [ZI] at hK;done)
   |false=>rw [Fi] at hK;exact Gq hK
  exact ⟨λIw=>⟨t1.size,λb hb=>t1.heap b (λhz=>by have:=hh.grow Iw b hz;omega) hb,t1.rest⟩,(ZJ hh rfl t1 t2 (t3.of hw) hK).trans ht⟩
theorem jd.one {ms:List MV}: ∀{vs:List Value},jd e.key e.φ vs ms->(∀m∈ms,m.one=true)->bV e.key e.φ vs ms:=by
 induction ms with
 |nil=>intro vs h _;cases h;rfl
 |cons m ms ih=>
  intro vs h h1;cases h with
  |cons v _ vs _ g1 g2=>obtain ⟨u,rfl,_⟩:=g1.one (h1 m (by simp));have hm:=h1 m (by simp);exact ⟨u,vs,rfl,by cases m<;>simp [MV.one] at hm<;>exact ⟨rfl,g1⟩,ih g2 (λm hm=>h1 m (by simp [hm]))⟩
theorem ahp {cl:Call}{x:Operand}{I:TI}(hS:Sound P c)(ho:o.op= .call cl)(rl:cl.callee= .value x)(h:b9 c Z e st a w)(hK:NJ c st I (aT c st x) (lq c st cl.args.toList) (λs st=>bC c st o.dst s K)=some r): o.wp P a w (λa' w'=>dN w w'/\Out c Z K r e.φ w a' w') Q:=by
 obtain ⟨hx,_⟩:=h.eval x;generalize aT c st x=s at hx hK;unfold NJ at hK;split at hK
 ·rename_i m;simp only [ah,aX] at hx;unfold Yw at hK;split at hK
  ·rename_i f dJ;obtain ⟨hg,hK⟩:=ia hK;obtain ⟨f',cap,hv,xY,Ho,ml⟩: ∃(f':Nat) (cap:Array Value),a.eval x= .func (.func f') #[] cap/\e.key f'=f/\jd e.key e.φ cap.toList dJ/\ ∀m∈dJ,m.one=true:=by obtain ⟨_,hx⟩:=hx;generalize Bq:[a.eval x]=vs at hx;cases hx;rename_i f' cap h1 h2 h3;exact ⟨f',cap,by simpa using Bq,h1,h2,h3⟩
   obtain ⟨e1,cR,ms,h1,h2,h3,h4,xI⟩:=s8 h ⟨λ_=>cl.args.toList.map a.eval,rfl,by simp [j7],bV.map h⟩ hK;obtain ⟨x',Hl,Qf⟩:=nj xI;have afY:c.key f'=f:=by rw [<-h.key];exact xY
   have ak4:bV e1.key e1.φ cap.toList dJ:=by have:=(jd.one Ho ml).mono h2.on.φ;rw [<-h2.on.key] at this;exact this
   have gl:fJ c (λb=>w.heap.size<=b) e1.φ w (c.key f') (cl.args.toList.map a.eval++cap.toList) (ms++dJ):=by
    have hg':c.fF (c.key f')=false:=by rw [afY];simpa using hg
    simp only [fJ,hg',abF,if_false];rw [<-h1.key];exact h4.append ak4
   have Ai:=hS f' (ms++dJ) x' (by rw [afY];exact Hl) e1.φ w (λb=>w.heap.size<=b) _ (λb hb=>hb) gl h1.kP;refine Ah ?_ Ai ?_
   ·have E3:(cl.args.toList.map a.eval++cap.toList).toArray=cl.args.map a.eval++cap:=by rw [<-ac9,<-Array.toList_append,ac3]
    rw [E3];simp [execOp,ho,resolve,rl,hv,aea,invoke]
   ·rintro v w' ⟨φ',t1,t2,t3⟩;have hh:Handed c Z (λb=>w.heap.size<=b) e1 cR a w (c.key f') (cl.args.toList.map a.eval++cap.toList) (ms++dJ):=by
     refine ⟨h1,λb hb=>hb,h1.cS,?_,?_,gl,λ_ b hb=>hb⟩
     ·intro t cs ht hz;have:=Fp h1 ht;omega
     ·intro f o b ho hb hz;have:=Fq h1 ho hb;omega
    have hs:=hh.uh.called hh.sub hh.box hh.iC t1 t2;have E1:Trans Z e1.φ w φ' w':=⟨t1.ph,λb hb=>t1.heap b (λhz=>hb (hh.sub b hz)),λb o hb=>t1.free b o (λhz=>hb (hh.sub b hz)),t1.size,t1.rest⟩
    obtain ⟨s,g1,g2,hK4⟩:=xX (e:={e1 with φ:=φ'}) (st:=cR) h1.key (t3.of (Gq Qf)) Qf;obtain ⟨e2,ef,q1,q2,q3⟩:=dz hs (.of g1 g2) hK4;exact ⟨⟨t1.size,λb hb=>t1.heap b (λhz=>by have hz:w.heap.size<=b:=hz;omega) hb,t1.rest⟩,e2,ef,q1,by rw [q3];exact h2.tr.trans E1,q2⟩
  ·simp at hK
 ·simp at hK
end
end Dn
/-
  Parts of a state. Conditions: none.
-/
namespace Dn
open Go
section
variable {P:Program}{c:Ctx}{Z Zi:bI} {e e':Env}{st bZ:St}{a:Act} {w w':World}{R:Type}{K:St->Option R}{r:R}{Q:Exit->Act->World->Prop}{o:Oper}
theorem b9.sub (h:b9 c Z e st a w)(hpp: ∀t∈Z.cI,t∈Zi.cI)(hm:bZ.cI=Zi.cI/\bZ.db=Zi.db/\ ∀t∈Zi.cI,a.tmps.getD t undef=Zi.T t)(hn:(aU bZ.fr).Nodup)(hs: ∀t,av bZ.fr t= .sc .un\/(dW (av st.fr t)=false/\(av bZ.fr t=av st.fr t\/ ∃qs,av bZ.fr t=HK qs (av st.fr t))))(hf: ∀f o,aQ bZ.bo f=some o-> ∃o0,aQ st.bo f=some o0/\o0.ty=o.ty/\o0.xs=o.xs/\(o0.fb=true->o.fb=true))(hbz: ∀t cs,av bZ.fr t= .box cs->(t∈Zi.cI/\Zi.Pr (e.B t))\/Zi.In (e.B t))(hfz: ∀f o b,aQ bZ.bo f=some o->(e.E f).ownBlock=some b->(f∈Zi.db/\Zi.Pr b)\/Zi.In b)(adE: ∀f o I cells b,aQ bZ.bo f=some o->f∈Zi.db->o.fb=true->c.ti o.ty=some I->w.ownsRow 0 o.ty I.size (e.E f) o.xs.length cells->(e.E f).ownBlock=some b-> ∀j,j<cells.length->e.φ b j=cells[j]?)(hz: ∀b,w.heap.size<=b->Zi.In b):b9 c Zi {e with m:=bZ.bo} bZ a w:=by
 have uX:mF (λ_=>True) (λ_=>True) e {e with m:=bZ.bo}:=by refine ⟨rfl,.refl _,λ_ _=>rfl,λf o ho _=> ?_⟩;obtain ⟨o0,h1,h2,h3,h4⟩:=hf f o ho;exact ⟨o0,by rw [h.m];exact h1,rfl,h3.symm⟩
 have tie: ∀{t:Nat} {v:Value} {cs:List aE} {b:Nat},tied Z t v cs b->tied Zi t v cs b:=λht=>⟨ht.1,λhp=>by obtain ⟨k1,k2⟩:=ht.2 hp;have k3:=hpp _ k1;exact ⟨k3,by rw [<-hm.2.2 _ k3,h.defers.2.2.2 _ k1,k2]⟩⟩
 have ZK: ∀t cs,av bZ.fr t= .box cs-> ∃Hp,av st.fr t= .box Hp/\(cs=Hp\/ ∃qs,cs=Hp.map (So qs)):=by
  intro t cs ht;rcases hs t with h1|⟨_,h1|⟨qs,h1⟩⟩
  ·rw [h1] at ht;cases ht
  ·rw [h1] at ht;exact ⟨cs,ht,.inl rfl⟩
  ·rw [h1] at ht;generalize av st.fr t=s at ht;cases s<;>simp only [HK] at ht<;>first|(cases ht;done)|skip
   simp at ht;exact ⟨_,rfl,.inr ⟨qs,ht.symm⟩⟩
 refine ⟨⟨h.defers.1,hm⟩,h.size,rfl,h.key,hn,?_,?_,?_,?_,?_,?_,h.kP,hz⟩
 ·intro t;have qv:=h.slot t;have iF:=hs t;have hb0:=hbz t;generalize av bZ.fr t=s' at iF hb0;generalize av st.fr t=s at qv iF;rcases iF with rfl|⟨_,rfl|⟨qs,rfl⟩⟩
  ·simp [cn,ah]
  ·cases s'<;>simp only [cn] at qv⊢ <;>try exact qv.on uX (eX _)
   obtain ⟨o2,h1,h2⟩:=qv.2.obj;exact ⟨tie qv.1,hb0 _ rfl,⟨o2,h1,h2.on uX (λl _ f _=>trivial)⟩,qv.2.free⟩
  ·by_cases NZ: ∃cs,s= .box cs
   ·obtain ⟨cs,rfl⟩:=NZ;simp only [cn,HK] at qv⊢;obtain ⟨o2,h1,h2⟩:=qv.2.obj;exact ⟨(tie qv.1).mC (ag8 qs _),hb0 _ rfl,⟨o2,h1,(h2.map (λ_ _=>aX.P0 qs) (λ_ _=>rfl)).on uX (λl _ f _=>trivial)⟩,qv.2.free⟩
   ·have zb:ah e (a.tmps.getD t undef) s:=by cases s<;>simp only [cn] at qv<;>first|exact qv|exact absurd ⟨_,rfl⟩ NZ
    have h2:=(zb.P0 qs).on uX (eX _);generalize Sv:HK qs s=s2 at h2;cases s2<;>first|exact h2|(exfalso;simp [ah] at h2)
 ·intro t;have iF:=hs t;generalize av bZ.fr t=s' at iF;generalize av st.fr t=s at iF;rcases iF with rfl|⟨hp,rfl|⟨qs,rfl⟩⟩
  ·trivial
  ·cases s'<;>simp [dW] at hp<;>trivial
  ·cases s<;>simp [dW] at hp<;>trivial
 ·intro f o ho;obtain ⟨o0,h1,h2,h3,h4⟩:=hf f o ho;obtain ⟨I,cells,g1,g2,g3,g4,g5⟩:=(h.iC f o0 h1).row;rw [h2] at g1 g3;rw [h3] at g3 g4 g5;refine ⟨I,cells,g1,g2,g3,g4,λbt hb=>⟨hfz f o bt ho hb,λoff u hu=> ?_,λk1 k2 j hj=>adE f o I cells bt ho k1 k2 g1 g3 hb j hj⟩⟩;obtain ⟨k1,k2⟩:=(g5 bt hb).2.1 off u hu;exact ⟨h4 k1,k2⟩
 ·intro t t' c1 c2 h1 h2 di;obtain ⟨d1,g1,_⟩:=ZK t c1 h1;obtain ⟨d2,g2,_⟩:=ZK t' c2 h2;exact h.bb t t' d1 d2 g1 g2 di
 ·intro t c1 f o h1 h2;obtain ⟨d1,g1,_⟩:=ZK t c1 h1;obtain ⟨o0,g2,_⟩:=hf f o h2;exact h.bf t d1 f o0 g1 g2
 ·intro f f' o1 o2 k h1 h2 h3 h4;obtain ⟨p1,g1,_⟩:=hf f o1 h1;obtain ⟨p2,g2,_⟩:=hf f' o2 h2;exact h.ff f f' p1 p2 k g1 g2 h3 h4
theorem b9.drop {ds:List Nat}(h:b9 c Z e st a w):b9 c Z e {st with fr:=oZ ds st.fr} a w:=by
 have hg:=Ia ds st.fr h.nodup;have:=h.sub (Zi:=Z) (bZ:={st with fr:=oZ ds st.fr}) (λ_ h=>h) ⟨h.defers.2.1,h.defers.2.2.1,h.defers.2.2.2⟩ ((DD ds st.fr).nodup h.nodup) (by
   intro t;show av (oZ ds st.fr) t=_\/(_/\(av (oZ ds st.fr) t=_\/ ∃qs,av (oZ ds st.fr) t=_));rw [hg];cases hb:dW (av st.fr t)||bJ ds t with
   |true=>exact .inl (by simp)
   |false=>simp only [OF] at hb;exact .inr ⟨hb.1,.inl (by simp)⟩)
  (λf o ho=>⟨o,ho,rfl,rfl,id⟩)
  (by
   intro t cs ht;have ht:av (oZ ds st.fr) t= .box cs:=ht;rw [hg] at ht;split at ht
   ·cases ht
   ·have hs:=h.slot t;rw [ht] at hs;exact hs.2.cS)
  (by intro f o b ho hb;obtain ⟨I,cells,_,_,_,_,g5⟩:=(h.iC f o ho).row;exact (g5 b hb).1)
  (by intro f o I cells b ho hp hz hI eW hb j hj;obtain ⟨I',NX,g1,_,g3,_,g5⟩:=(h.iC f o ho).row;rw [hI] at g1;cases g1;rw [vl eW g3 hb] at hj⊢;exact (g5 b hb).2.2 hp hz j hj)
  h.cS
 have hm:e.m=st.bo:=h.m;have he:{e with m:=({st with fr:=oZ ds st.fr}:St).bo}=e:=by cases e;simp at hm⊢;exact hm.symm
 rw [he] at this;exact this
theorem b9.ZL {t root off:Nat}{cs:List aE}(h:b9 c Z e st a w)(hb:av st.fr root= .box cs)(hn:dy (av st.fr t)=false)(hv:ah e (a.tmps.getD t undef) (.ptr root off)): b9 c Z e {st with fr:=dt st.fr t (.ptr root off)} a w:=by
 have hg: ∀t',av (dt st.fr t (.ptr root off)) t'=if t'=t then .ptr root off else av st.fr t':=λt'=>cj _ _ _ _
 have di: ∀r,dy (av st.fr r)=true->r≠t:=λr hr he=>by subst he;rw [hn] at hr;cases hr
 have uZ: ∀t' cs,av (dt st.fr t (.ptr root off)) t'= .box cs->av st.fr t'= .box cs:=by
  intro t' cs ht;rw [hg] at ht;by_cases wj:t'=t
  ·rw [if_pos wj] at ht;cases ht
  ·rw [if_neg wj] at ht;exact ht
 have hk: ∀r,dy (av st.fr r)=true->dy (av (dt st.fr t (.ptr root off)) r)=true:=λr hr=>by rw [hg,if_neg (di r hr)];exact hr
 refine ⟨h.defers,h.size,h.m,h.key,iN h.nodup,?_,?_,h.iC,?_,?_,h.ff,h.kP,h.cS⟩
 ·intro t';show cn Z e w t' _ (av (dt st.fr t (.ptr root off)) t');rw [hg];by_cases wj:t'=t
  ·subst wj;simp only [if_true];exact hv
  ·simp only [wj,if_false];exact h.slot t'
 ·intro t';show dc (dt st.fr t (.ptr root off)) (av (dt st.fr t (.ptr root off)) t');have hr:=h.root t';rw [hg t'];by_cases wj:t'=t
  ·simp only [wj,if_true];exact hk root (by rw [hb];rfl)
  ·simp only [wj,if_false];generalize av st.fr t'=s at hr;cases s<;>first|trivial|exact hk _ hr
 ·intro t1 t2 c1 c2 h1 h2 di;exact h.bb t1 t2 c1 c2 (uZ t1 c1 h1) (uZ t2 c2 h2) di
 ·intro t1 c1 f o h1 h2;exact h.bf t1 c1 f o (uZ t1 c1 h1) h2
theorem Br {s:Slot}(h:E6 s=true): ∃cs,s= .box cs/\iW cs=false:=by cases s<;>simp [E6] at h;exact ⟨_,rfl,h⟩
theorem Qk {Z1:bI}{e1:Env}{cR:St}{root:Nat}(h:b9 c Z e st a w)(h1:b9 c Z1 e1 cR a w)(hp:y8 root=false)(hb:E6 (av st.fr root)=true)(u6:E6 (av cR.fr root)=true):e1.B root=e.B root:=by obtain ⟨cs,hf,hm⟩:=Br hb;obtain ⟨hU,N0,hm1⟩:=Br u6;have s1:=h.slot root;have s2:=h1.slot root;rw [hf] at s1;rw [N0] at s2;have g1:=s1.1.1 hp;have g2:=s2.1.1 hp;rw [ue hm] at g1;rw [ue hm1,g1] at g2;simp at g2;exact g2.symm
theorem Ix {Z0:bI}{e0:Env}{H4:St}{ok:Nat->Bool}(h0:b9 c Z0 e0 H4 a w): ∀{l:Fr} {st:St} {R:Type} {r:R} {K:Fr->Option R},(∀t s,(t,s)∈l->av H4.fr t=s)->b9 c Z e st a w->HY ok H4.fr l st.fr K=some r-> ∃fr,b9 c Z e {st with fr:=fr} a w/\K fr=some r:=by
 intro l;induction l with
 |nil=>intro st R r K _ h hK;exact ⟨st.fr,h,hK⟩
 |cons p l ih=>
  obtain ⟨t,s⟩:=p;intro st R r K hl h hK;have y9: ∀t s,(t,s)∈l->av H4.fr t=s:=λt s hm=>hl t s (abz _ hm);have hs:=hl t s (by simp);cases s with
  |ptr root off=>
   simp only [HY] at hK;cases hc:ok t&&(!y8 root&&(E6 (av H4.fr root)&&(E6 (av st.fr root)&&!dy (av st.fr t)))) with
   |false=>rw [hc] at hK;exact ih y9 h hK
   |true=>
    rw [hc] at hK;simp only [sh,aaP] at hc;obtain ⟨_,hp,hb0,u6,hn⟩:=hc;simp only [cond_true,rj] at hK;obtain ⟨cs,hf,_⟩:=Br u6;have hB:=Qk h0 h hp hb0 u6;have hv:ah e (a.tmps.getD t undef) (.ptr root off):=by have:=h0.slot t;rw [hs] at this;simp only [cn,ah] at this⊢;rw [hB];exact this
    have h2:=h.ZL hf hn hv;obtain ⟨fr,g1,g2⟩:=ih (st:={st with fr:=dt st.fr t (.ptr root off)}) y9 h2 hK;exact ⟨fr,g1,g2⟩
  |_=>exact ih y9 h hK
theorem Ql {l:Fr}(hn:(aU l).Nodup): ∀t s,(t,s)∈l->av l t=s:=by
 induction l with
 |nil=>intro t s hm;simp at hm
 |cons p l ih=>
  obtain ⟨k,x⟩:=p;have hn:(k::aU l).Nodup:=hn;rw [List.nodup_cons] at hn;intro t s hm;rcases AI.1 hm with hm|hm
  ·cases hm;simp [av]
  ·have hk:t∈aU l:=by unfold aU;exact acU.2 ⟨(t,s),hm,rfl⟩
   have di:k≠t:=λhe=>hn.1 (he▸hk);simp only [av,eO];simp only [di,decide_false,cond_false];exact ih hn.2 t s hm
theorem vu {ds:List Nat}{R:Type}{r:R}{K:St->Option R}(h:b9 c Z e st a w)(hK:Fb ds st K=some r): ∃bZ,b9 c Z e bZ a w/\K bZ=some r:=by obtain ⟨p,q,fr,m⟩:=st;simp only [Fb,Ge] at hK;obtain ⟨qJ,g1,g2⟩:=Ix (st:={cI:=p,db:=q,fr:=oZ ds fr,bo:=m}) h (Ql h.nodup) h.drop hK;exact ⟨_,g1,g2⟩
end
end Dn
/-
  Maps of the function's own: their operations. Conditions: none.
-/
namespace Dn
open Go
theorem Vd (b:ByteArray):(b==b)=true:=by rw [beq_toListBytes];exact beq_self_eq_true _
theorem ahr {a b:Kd}(h:kdB a b=true):a=b:=by cases a<;>cases b<;>simp [kdB,kB] at h<;>first|rfl|(subst h;rfl)
theorem Ve {l m:List Kd}(h:Dz l m=true):l=m:=by
 induction l generalizing m with
 |nil=>cases m<;>simp [Dz] at h;rfl
 |cons a l ih=>
  cases m with
  |nil=>simp [Dz] at h
  |cons b m=>simp only [Dz,sh] at h;rw [ahr h.1,ih h.2]
theorem Tc {s t:MS}(h:msB s t=true):s=t:=by unfold msB at h;simp only [sh,beq_iff_eq] at h;cases s;cases t;simp only at h;obtain ⟨h1,h2,h3⟩:=h;rw [h1,Ve h2,h3]
theorem adF {a b:MV}(h:E9 a b=true):a=b:=by
 unfold E9 at h;split at h
 ·rw [of_decide_eq_true h]
 ·simp only [sh] at h;rw [of_decide_eq_true h.1,of_decide_eq_true h.2]
 ·rw [of_decide_eq_true h]
 ·rw [of_decide_eq_true h]
 ·cases h
theorem Qm {a b:List MV}(h:eV a b=true):a=b:=by
 induction a generalizing b with
 |nil=>cases b with|nil=>rfl|cons=>simp [eV] at h
 |cons x xs ih=>
  cases b with
  |nil=>simp [eV] at h
  |cons y ys=>simp only [eV,sh] at h;rw [adF h.1,ih h.2]
structure Vf (P:Program) (t:TypeId) (s:MS):Prop where
 row: ∃kt el,P.underlying t=some (.map kt el)/\(∀w:World,(zeroValue el).run P w= .ok (BZ s.b (ko s.b)) w)/\ (∀(em:Bool) (ks:List MV) (w:World),dX s.lay ks=true->(Instr.checkKey em 10000 kt (gy s.st ks)).run P w= .ok () w)/\ ∃d,P.underlying kt=some d/\((∀a b,dX s.lay a=true->dX s.lay b=true->acZ d (gy s.st a) (gy s.st b)=some (eV b a))\/ (∀a b,dX s.lay a=true->dX s.lay b=true->acZ d (gy s.st a) (gy s.st b)=none/\ ∀w:World,(af9 kt (gy s.st a) (gy s.st b)).run P w= .ok (eV b a) w))
def xZ (P:Program)(c:Ctx):Prop:= ∀t s,we c t=some s->Vf P t s
theorem ZM {k:Kd}{e:Env}{l:aE}{vs:List Value}{m:MV}(h:aX e vs l)(hf:oM k l=true)(hm:bS [l]=some [m]):vs=E0 m/\Fe k m=true:=by
 have bytes: ∀b:ByteArray,Value.string b=Value.string ⟨b.data.toList.toArray⟩:=by intro b;cases b;simp
 cases k<;>cases l<;>simp only [oM] at hf<;>try (cases hf;done)
 ·rename_i x;cases x<;>simp only [oM] at hf<;>try (cases hf;done)
  simp [bS] at hm;subst hm;obtain ⟨_,h⟩:=h;cases h;exact ⟨rfl,rfl⟩
 ·rename_i k x;cases x<;>simp only [oM] at hf<;>try (cases hf;done)
  simp [bS] at hm;subst hm;obtain ⟨_,h⟩:=h;cases h;exact ⟨rfl,hf⟩
 ·rename_i x;cases x<;>simp only [oM] at hf<;>try (cases hf;done)
  simp [bS] at hm;subst hm;obtain ⟨_,h⟩:=h;cases h;exact ⟨by simp [E0],rfl⟩
 ·simp [bS] at hm;subst hm;exact ⟨h,rfl⟩
theorem zd {l:aE}{ls:List aE}{ms:List MV}(h:bS (l::ls)=some ms): ∃m q,bS [l]=some [m]/\bS ls=some q/\ms=m::q:=by
 cases l<;>cases hq:bS ls<;>simp [bS,hq] at h⊢
 ·exact h.symm
 ·exact h.symm
theorem adG {e:Env}{lay:List Kd}: ∀{ls:List aE} {vs:List Value} {ms:List MV},ay e vs ls->gk lay ls=true->bS ls=some ms->vs=ms.flatMap E0/\dX lay ms=true:=by
 induction lay with
 |nil=>
  intro ls vs ms h hf hm;cases ls with
  |nil=>cases h;simp [bS] at hm;subst hm;exact ⟨rfl,rfl⟩
  |cons=>simp [gk] at hf
 |cons k lay ih=>
  intro ls vs ms h hf hm;cases ls with
  |nil=>simp [gk] at hf
  |cons l ls=>
   simp only [gk] at hf;cases h1:oM k l with
   |false=>simp [h1] at hf
   |true=>simp only [h1,cond_true] at hf;obtain ⟨m,q,g1,g2,rfl⟩:=zd hm;obtain ⟨v,u,rfl,g3,g4⟩:=h;obtain ⟨k1,k2⟩:=ZM g3 h1 g1;obtain ⟨k3,k4⟩:=ih g4 hf g2;exact ⟨by rw [k1,k3];rfl,by simp [dX,k2,k4]⟩
theorem ahs {e:Env}{s:MS}{v:Value}{sl:Slot}{ks:List MV}(h:ah e v sl)(hf:gk s.lay (aP sl)=true)(Zn:nK s.st sl=true)(hm:bS (aP sl)=some ks):v=gy s.st ks/\dX s.lay ks=true:=by
 cases sl with
 |sc l=>
  simp only [nK,aaP] at Zn;simp only [aP] at hf hm;cases hl:s.lay with
  |nil=>rw [hl] at hf;simp [gk] at hf
  |cons k r=>
   cases r with
   |cons=>rw [hl] at hf;simp [gk] at hf
   |nil=>
    rw [hl] at hf;have N0:oM k l=true:=by cases hq:oM k l<;>simp_all [gk]
    obtain ⟨m,q,g1,g2,rfl⟩:=zd hm;simp [bS] at g2;subst g2;by_cases hh: ∃x,l= .hs x
    ·obtain ⟨x,rfl⟩:=hh;simp [bS] at g1;subst g1;simp only [ah] at h;cases k<;>simp [oM] at N0;exact ⟨by rw [Zn,h];rfl,by simp [dX,Fe]⟩
    ·have YB:aX e [v] l:=by cases l<;>simp only [ah] at h<;>first|exact h|(cases k<;>simp [oM] at N0;done)|exact absurd ⟨_,rfl⟩ hh
     obtain ⟨k1,k2⟩:=ZM YB N0 g1;refine ⟨?_,by simp [dX,k2]⟩;rw [Zn];cases m<;>simp [E0] at k1<;>first|(rw [k1];rfl)|skip
     rename_i x;have:=gX x;rw [<-k1] at this;simp at this
 |ag cs=>simp only [nK] at Zn;simp only [aP] at hf hm;simp only [ah] at h;obtain ⟨arr,rfl,hl⟩:=h;obtain ⟨k1,k2⟩:=adG hl hf hm;refine ⟨?_,k2⟩;rw [Zn];simp only [gy];rw [<-k1]
 |_=>simp [nK] at Zn
theorem N8 {n:Nat}{m:MV}: ∀x∈E0 m,abE n x x=true:=by
 intro x hx;cases m<;>simp [E0,cc] at hx
 ·subst hx;cases n<;>simp [abE]
 ·subst hx;cases n<;>simp [abE]
 ·subst hx;cases n<;>(simp only [abE];exact Vd _)
 ·obtain ⟨b,_,rfl⟩:=hx;cases n<;>simp [abE]
theorem DK {n:Nat}{ms:List MV}:abE (n+1) (.agg (ms.flatMap E0).toArray) (.agg (ms.flatMap E0).toArray)=true:=by
 simp only [abE,sh,beq_self_eq_true,true_and];rw [ada];rintro ⟨x,y⟩ hxy;have hxy:(x,y)∈(ms.flatMap E0).zip (ms.flatMap E0):=by simpa using hxy
 obtain ⟨i,hi,he⟩:=List.mem_iff_getElem.1 hxy;rw [List.getElem_zip] at he;simp only [abB] at he;obtain ⟨h1,h2⟩:=he;rw [h1] at h2;subst h2;have hm:x∈ms.flatMap E0:=by rw [<-h1];exact List.getElem_mem _
 obtain ⟨m,_,hm⟩:=List.mem_flatMap.1 hm;exact N8 _ hm
theorem N9 {n:Nat}{st:Bool}{lay:List Kd}{ks:List MV}(hf:dX lay ks=true):abE (n+1) (gy st ks) (gy st ks)=true:=by
 unfold gy;split
 ·rename_i x;have:=DK (n:=n) (ms:=[.h x]);simpa [E0] using this
 ·simp [abE]
 ·simp [abE]
 ·simp only [abE];exact Vd _
 ·exact DK
theorem Mn {P:Program}{w:World}{st:Bool}{lay:List Kd}{ks:List MV}(hf:dX lay ks=true):(Instr.keyThatStays (gy st ks) (gy st ks)).run P w= .ok (gy st ks) w:=by unfold Instr.keyThatStays;rw [N9 (n:=9999) hf];rfl
def gm:List (List MV)->List MV->Nat
 |[],_=>0
 |q::r,ks=>bif eV q ks then 0 else gm r ks+1
theorem DL (jL:List (List MV))(ks:List MV):gm jL ks<=jL.length:=by
 induction jL with
 |nil=>simp [gm]
 |cons q r ih=>simp only [gm];cases eV q ks<;>simp [ih]
theorem Iy {jL:List (List MV)}{ks:List MV}{q:List MV}(h:jL[gm jL ks]? =some q):q=ks:=by
 induction jL with
 |nil=>simp at h
 |cons p r ih=>
  simp only [gm] at h;cases hm:eV p ks with
  |true=>simp [hm] at h;rw [<-h];exact Qm hm
  |false=>simp [hm] at h;exact ih h
theorem fc (es:List MV)(ks:List MV):cE es ks=gm (es.map kD) ks:=by
 induction es with
 |nil=>rfl
 |cons e r ih=>simp only [cE,acE,gm,ih]
def rS (s:MS):List MapEntry->List (List MV)->Prop
 |[],jL=>jL=[]
 |x::es,jL=> ∃q r,jL=q::r/\dX s.lay q=true/\x.key=gy s.st q/\rS s es r
theorem rS.length {s:MS}: ∀{es:List MapEntry} {jL:List (List MV)},rS s es jL->jL.length=es.length
 |[],_,h=>by cases h;rfl
 |_::es,_,⟨q,r,rfl,_,_,h⟩=>by simp [h.length]
theorem rS.append {s:MS}: ∀{es Vg:List MapEntry} {jL ak7:List (List MV)},rS s es jL->rS s Vg ak7->rS s (es++Vg) (jL++ak7)
 |[],_,_,_,h,h'=>by cases h;exact h'
 |x::es,_,_,_,⟨q,r,rfl,h1,h2,h⟩,h'=>⟨q,_,rfl,h1,h2,h.append h'⟩
theorem rS.at {s:MS}: ∀{es:List MapEntry} {jL:List (List MV)} {i:Nat} {x:MapEntry},rS s es jL->es[i]? =some x-> ∃q,jL[i]? =some q/\dX s.lay q=true/\x.key=gy s.st q
 |[],_,_,_,_,h=>by simp at h
 |y::es,_,i,x,⟨q,r,rfl,h1,h2,h⟩,hx=>by
  cases i with
  |zero=>simp at hx;subst hx;exact ⟨q,rfl,h1,h2⟩
  |succ i=>simpa using h.at (i:=i) (by simpa using hx)
theorem Td {s:MS}{d:TypeDesc}{ks:List MV}(hf:dX s.lay ks=true)(hd: ∀a b,dX s.lay a=true->dX s.lay b=true->acZ d (gy s.st a) (gy s.st b)=some (eV b a)): ∀(es:List MapEntry) (jL:List (List MV)) (n:Nat),rS s es jL->ade d (gy s.st ks) es n=some ((es[gm jL ks]?).map λx=>(n+gm jL ks,x.val)):=by
 intro es;induction es with
 |nil=>intro jL n h;rfl
 |cons x es ih=>
  rintro jL n ⟨q,r,rfl,h1,h2,h⟩;simp only [ade,h2,hd ks q hf h1,gm];cases hm:eV q ks with
  |true=>simp
  |false=>simp only [cond_false];rw [ih r (n+1) h];simp [aga,agk 1]
theorem Lp {P:Program}{s:MS}{kt:TypeId}{ks:List MV}{w:World}(hf:dX s.lay ks=true)(hd: ∀a b,dX s.lay a=true->dX s.lay b=true-> ∀w:World,(af9 kt (gy s.st a) (gy s.st b)).run P w= .ok (eV b a) w): ∀(es:List MapEntry) (jL:List (List MV)) (n:Nat),rS s es jL->(Instr.findAsking kt (gy s.st ks) es n).run P w= .ok ((es[gm jL ks]?).map λx=>(n+gm jL ks,x.val)) w:=by
 intro es;induction es with
 |nil=>intro jL n h;rfl
 |cons x es ih=>
  rintro jL n ⟨q,r,rfl,h1,h2,h⟩;simp only [Instr.findAsking,h2,afR,hd ks q hf h1 w,aaK,gm];cases hm:eV q ks with
  |true=>simp
  |false=>simp only [cond_false,abF,if_false];rw [ih r (n+1) h];simp [aga,agk 1]
theorem Iz {P:Program}{s:MS}{kt:TypeId}{d:TypeDesc}{ks:List MV}{w:World}{es:List MapEntry}{jL:List (List MV)}(hf:dX s.lay ks=true)(hu:P.underlying kt=some d)(hd:(∀a b,dX s.lay a=true->dX s.lay b=true->acZ d (gy s.st a) (gy s.st b)=some (eV b a))\/ (∀a b,dX s.lay a=true->dX s.lay b=true->acZ d (gy s.st a) (gy s.st b)=none/\ ∀w:World,(af9 kt (gy s.st a) (gy s.st b)).run P w= .ok (eV b a) w))(h:rS s es jL):(ad9 kt (gy s.st ks) es).run P w= .ok ((es[gm jL ks]?).map λx=>(gm jL ks,x.val)) w:=by
 rcases hd with hd|hd
 ·have:=Td hf hd es jL 0 h;rw [ac5] at this;exact MapKept.run_findKey hu this
 ·cases es with
  |nil=>simp [ad9,run_underlying hu,aaK,ade]
  |cons x es=>
   have h0:=Lp (P:=P) (kt:=kt) (w:=w) hf (λa b ha hb=>(hd a b ha hb).2) (x::es) jL 0 h;obtain ⟨q,r,rfl,h1,h2,h3⟩:=h;have hn:ade d (gy s.st ks) (x::es) 0=none:=by simp [ade,h2,(hd ks q hf h1).1]
   rw [ac5] at h0;simp only [ad9,afR,run_underlying hu,aaK,hn];exact h0
theorem rP.ks {s:MS}: ∀{es:List MapEntry} {ms:List MV} {n:Nat},es.length=ms.length->(∀(i:Nat) x m,es[i]? =some x->ms[i]? =some m->Zg s x m (n+i))->rS s es (ms.map kD)
 |[],[],_,_,_=>rfl
 |x::es,m::ms,n,hl,h=>by obtain ⟨h1,ks,v,rfl,h2,h3,_⟩:=h 0 x m rfl rfl;refine ⟨ks,ms.map kD,rfl,h2,h3,rP.ks (n:=n+1) (by simpa using hl) λi y q hy hq=> ?_⟩;have:=h (i+1) y q (by simpa using hy) (by simpa using hq);rwa [show n+1+i=n+(i+1) by omega]
 |[],_::_,_,hl,_=>by simp at hl
 |_::_,[],_,hl,_=>by simp at hl
theorem rP.jL {s:MS}{es:Array MapEntry}{n:Nat}{ms:List MV}(h:rP s es n ms):rS s es.toList (ms.map kD):=rP.ks (n:=0) (by simpa using h.size) (λi x m hx hm=>by rw [ac5];exact h.ent i x m (by simpa using hx) hm)
structure ze (s:MS) (w w':World):Prop where
 size:w.heap.size<=w'.heap.size
 qA: ∀(b:Nat) (o:Obj),w.heap[b]? =some o->w'.heap[b]? =some o\/ ∃es n Vg n' new jL,o=Obj.map es n/\w'.heap[b]? =some (Obj.map Vg n')/\Vg.toList=es.toList++new/\rS s new jL/\ ∀x∈new,x.val=BZ s.b (ko s.b)
 rest:Rest w w'
theorem dN.m {w w':World}(s:MS)(h:dN w w'):ze s w w':=⟨h.size,λb o ho=> .inl (by rw [h.qA b (aZ ho)];exact ho),h.rest⟩
theorem ze.trans {s:MS} {w w' Bp:World}(h:ze s w w') (h':ze s w' Bp):ze s w Bp:=by
 refine ⟨adr h.size h'.size,λb o ho=> ?_,h.rest.trans h'.rest⟩;rcases h.qA b o ho with h1|⟨es,n,es1,n1,new,jL,rfl,h1,h2,h3,h4⟩
 ·exact h'.qA b o h1
 ·rcases h'.qA b _ h1 with g1|⟨Vg,n',es2,n2,apD,apE,g0,g1,g2,g3,g4⟩
  ·exact .inr ⟨es,n,es1,n1,new,jL,rfl,g1,h2,h3,h4⟩
  ·simp only [Obj.map.injEq] at g0;obtain ⟨rfl,rfl⟩:=g0;refine .inr ⟨es,n,es2,n2,new++apD,jL++apE,rfl,g1,by rw [g2,h2,afS],h3.append g3,λx hx=> ?_⟩;rcases acX.1 hx with hx|hx
   ·exact h4 x hx
   ·exact g4 x hx
section
variable {P:Program}{c:Ctx}{Z:bI}{e:Env}{st:St}{a:Act} {w w':World}{R:Type}{K:St->Option R}{r:R}{Q:Exit->Act->World->Prop}{o:Oper}
theorem Bs {s:MS}{sl:Slot}{v:Value} {K':Nat->List MV->Option R}(h:b9 c Z e st a w)(hv:ah e v sl)(hK:Lg st s sl K'=some r): ∃root es arr n,av st.fr root= .box [.mp s es]/\v= .map (some (e.B root))/\w.heap[e.B root]? =some (.map arr n)/\rP s arr n es/\(Z.bz root).In (e.B root)/\K' root es=some r:=by
 unfold Lg at hK;split at hK
 ·rename_i root;split at hK
  ·rename_i s' es CV;cases hm:msB s s'&&!Hj s' with
   |false=>simp [hm] at hK
   |true=>
    simp only [hm,cond_true] at hK;simp only [sh,aaP] at hm;obtain ⟨hm,hit⟩:=hm;have:=Tc hm;subst this;have qv:=h.slot root;rw [CV] at qv;obtain ⟨ob,h1,h2⟩:=qv.2.obj;cases ob with
    |cells arr T z=>exact absurd h2.2.Ce (by simp [iW])
    |map arr n=>obtain ⟨s2,ms2,h3,_,h4⟩:=h2;simp only [aaU,aE.mp.injEq,and_true] at h3;obtain ⟨rfl,rfl⟩:=h3;exact ⟨root,es,arr,n,CV,by simpa [ah] using hv,h1,h4,qv.2.cS,hK⟩
    |stringIter x n=>have h3:_=[aE.mp MS.it _]:=h2;simp only [aaU,aE.mp.injEq,and_true] at h3;rw [h3.1] at hit;cases hit
    |_=>exact h2.elim
  ·cases hK
 ·cases hK
theorem Fs {s:MS}{sl:Slot}{v:Value} {K':List MV->Option R}(hv:ah e v sl)(hK:PS s sl K'=some r): ∃ks,v=gy s.st ks/\dX s.lay ks=true/\K' ks=some r:=by
 unfold PS at hK;cases hf:gk s.lay (aP sl)&&nK s.st sl with
 |false=>simp [hf] at hK
 |true=>
  simp only [hf,cond_true] at hK;simp only [sh] at hf;cases hm:bS (aP sl) with
  |none=>simp [hm] at hK
  |some ks=>simp only [hm] at hK;obtain ⟨h1,h2⟩:=ahs hv hf.1 hf.2 hm;exact ⟨ks,h1,h2,hK⟩
theorem Qn {s:MS}{es:List MV}{arr:Array MapEntry}{n:Nat}{ks:List MV}(hm:rP s arr n es): ah e ((((arr.toList[gm (es.map kD) ks]?).map λx=>x.val)).getD (BZ s.b (ko s.b))) (Fa s es ks):=by
 have ya: ∀v:MV,SN s.b v=true->(s.b=true/\v= .b (asB v))\/(s.b=false/\v= .i .i64 (asI v)):=by
  intro v hv;cases hb:s.b<;>rw [hb] at hv<;>cases v<;>simp [SN] at hv
  ·rename_i k x;cases k<;>simp [SN] at hv;exact .inr ⟨rfl,rfl⟩
  ·exact .inl ⟨rfl,rfl⟩
 unfold Fa afI nU;rw [fc];cases ha:arr.toList[gm (es.map kD) ks]? with
 |none=>
  have:es[gm (es.map kD) ks]? =none:=by rw [adN] at ha⊢;have:=hm.size;simp at ha;omega
  rw [this];cases hb:s.b<;>simp [BZ,ko,hb]
  ·exact wR _ _
  ·exact B0 _
 |some x=>
  have cJ:gm (es.map kD) ks<es.length:=by have h1:=(abJ.1 ha).1;have:=hm.size;simp at h1;omega
  obtain ⟨m,Wq⟩: ∃m,es[gm (es.map kD) ks]? =some m:=⟨_,No cJ⟩
  obtain ⟨_,q,v,rfl,_,_,h5,h6⟩:=hm.ent _ x m (by simpa using ha) Wq;rw [Wq];simp only [acY,Option.getD_some,h6,adi];rcases ya v h5 with ⟨h7,h8⟩|⟨h7,h8⟩
  ·rw [h7,h8];exact B0 _
  ·rw [h7,h8];exact wR _ _
theorem Te {t:TypeId}{s:MS}(ho:o.op= .makeMap t none)(hit:Hj s=false)(h:b9 c Z e st a w)(hK:bC c st o.dst (.box [.mp s []]) K=some r):o.wp P a w (Out c Z K r e.φ w) Q:=by
 have cr:(execOp a.eval o).run P w= .ok (.value (.map (some w.heap.size))) (w.alloc (.map #[] 0)):=by simp [execOp,ho,RowKit.run_makeMap,aaK]
 have hg:dN w (w.alloc (.map #[] 0)):=by
  refine ⟨by simp,λb hb=>s7 w _ b hb,⟨rfl,rfl,rfl,λx=> ?_⟩⟩;by_cases hx:x.block=w.heap.size
  ·have e1:(w.alloc (.map #[] 0)).heap[x.block]? =some (.map #[] 0):=by rw [hx];exact iD w _
   have e2:w.heap[x.block]? =none:=by rw [hx];simp
   simp [afH,e1,e2]
  ·exact World.frozen?_alloc_old _ _ _ hx
 refine fin cr (h.grow hg) (hg.trans h.cS _) ?_ hK;exact ⟨w.heap.size,by rw [Zj (by simp [mC,hit])],⟨h.cS _ (adP _),⟨_,iD w _,s,[],rfl,hit,⟨rfl,rfl,λi x m hx=>by simp at hx⟩⟩,P7 h⟩,(HL h).1,(HL h).2⟩
theorem WE {t:TypeId}{s:MS}{m k:Operand}(ho:o.op= .lookup t m k false)(jJ:Vf P t s)(h:b9 c Z e st a w)(hK:Lg st s (aT c st m) (λ_ es=>PS s (aT c st k) λks=>bC c st o.dst (Fa s es ks) K)=some r):Rd P c Z K r e a w o (ze s w):=by
 obtain ⟨hm,_⟩:=h.eval m;obtain ⟨hk,_⟩:=h.eval k;obtain ⟨root,es,arr,n,h1,h2,h3,h4,_,hK⟩:=Bs h hm hK;obtain ⟨ks,h5,h6,hK⟩:=Fs hk hK;obtain ⟨kt,el,t1,t2,t3,d,t4,t5⟩:=jJ.row;have Sv:=h4.jL;refine SP (v:=(((arr.toList[gm (es.map kD) ks]?).map λx=>x.val)).getD (BZ s.b (ko s.b))) (s:=Fa s es ks) (λw' hg=> ?_) h (.refl _ _ _) (.of (Qn h4) ?_) hK
 ·have run: ∀(Ad:Array MapEntry) (n':Nat) (jL:List (List MV)),w'.heap[e.B root]? =some (.map Ad n')->rS s Ad.toList jL-> (execOp a.eval o).run P w'= .ok (.value ((((Ad.toList[gm jL ks]?).map λx=>x.val)).getD (BZ s.b (ko s.b)))) w':=by
   intro Ad n' jL g1 g2;have Ij:=Iz (P:=P) (w:=w') h6 t4 t5 g2;cases hx:Ad.toList[gm jL ks]? with
   |none=>rw [hx] at Ij;simp [execOp,ho,h2,h5,Instr.lookup,run_underlying t1,aaK,abC g1,t3 _ ks _ h6,Ij,t2]
   |some x=>rw [hx] at Ij;simp [execOp,ho,h2,h5,Instr.lookup,run_underlying t1,aaK,abC g1,t3 _ ks _ h6,Ij]
  rcases hg.qA _ _ h3 with g1|⟨es1,n1,Vg,n',new,jL,g0,g1,g2,g3,g4⟩
  ·exact run arr n _ g1 Sv
  ·simp only [Obj.map.injEq] at g0;obtain ⟨rfl,rfl⟩:=g0;have apF:rS s Vg.toList (es.map kD++jL):=by rw [g2];exact Sv.append g3
   rw [run Vg n' _ g1 apF];have hl:=Sv.length;have key:((Vg.toList[gm (es.map kD++jL) ks]?).map λx=>x.val).getD (BZ s.b (ko s.b))=((arr.toList[gm (es.map kD) ks]?).map λx=>x.val).getD (BZ s.b (ko s.b)):=by
    have hfa: ∀l:List (List MV),(gm l ks<l.length->gm (l++jL) ks=gm l ks)/\(gm l ks=l.length->gm (l++jL) ks=l.length+gm jL ks):=by
     intro l;induction l with
     |nil=>simp [gm]
     |cons q l ih=>
      simp only [abG,gm,adb];cases eV q ks with
      |true=>simp
      |false=>simp only [cond_false];exact ⟨λhh=>by rw [ih.1 (by omega)],λhh=>by rw [ih.2 (by omega)];omega⟩
    rw [g2];rcases Nat.lt_or_ge (gm (es.map kD) ks) (es.map kD).length with cJ|Wy
    ·rw [(hfa _).1 cJ,ac7 (by omega)]
    ·have j6:=Nat.le_antisymm (DL (es.map kD) ks) Wy;rw [(hfa _).2 j6,j6,hl,ac4 (by omega),show arr.toList.length+gm jL ks-arr.toList.length=gm jL ks by omega,List.getElem?_eq_none (l:=arr.toList) (by omega)];cases hx:new[gm jL ks]? with
     |none=>rfl
     |some x=>simp [g4 x (aer hx)]
   rw [key]
 ·unfold Fa;cases s.b<;>trivial
theorem rT {es:List MV}{i:Nat}{v:MV}:ua es i v=match es[i]? with|some e=>es.set i (.eu [.agg (kD e),v])|none=>es:=rfl
theorem Mo {b:Bool}{sl:Slot}{v:Value} {K':MV->Option R}(hv:ah e v sl)(hK:Wf b sl K'=some r): ∃m,SN b m=true/\v=BZ b m/\K' m=some r:=by
 unfold Wf at hK;split at hK
 ·rename_i x;exact ⟨.b x,rfl,by rw [Ab hv];rfl,hK⟩
 ·rename_i n;exact ⟨.i .i64 n,rfl,by rw [o6 hv];rfl,hK⟩
 ·cases hK
theorem Zr.map {es:Array MapEntry}{n g:Nat}(hh:w.heap[g]? =some (.map es n))(Vg:Array MapEntry) (n':Nat):Zr g w {w with heap:=w.heap.setIfInBounds g (.map Vg n')}:=by
 refine ⟨by simp,λb hb=>by simp [agl hb],⟨rfl,rfl,rfl,λx=> ?_⟩⟩;unfold afH;by_cases hx:x.block=g
 ·have cJ:=aZ hh;have e1:(w.heap.setIfInBounds g (.map Vg n'))[x.block]? =some (.map Vg n'):=by rw [hx];simp [cJ]
  rw [e1,hx,hh]
 ·simp [agl hx]
theorem DM {s:MS}{root:Nat}{es es2:List MV}{arr ahv:Array MapEntry}{n n2:Nat} {K':St->Option R}(h:b9 c Z e st a w)(h1:av st.fr root= .box [.mp s es])(h3:w.heap[e.B root]? =some (.map arr n))(hz:(Z.bz root).In (e.B root))(h4:rP s ahv n2 es2)(hK:Gd st root s es2 K'=some r): ∃w' bZ,w'={w with heap:=w.heap.setIfInBounds (e.B root) (.map ahv n2)}/\b9 c Z e bZ a w'/\Trans Z e.φ w e.φ w'/\K' bZ=some r:=by
 unfold Gd wr at hK;cases hn:bJ st.cI root with
 |true=>simp [hn] at hK
 |false=>
  simp only [hn,cond_false,force_eq,rj] at hK;have Mj:=Zr.map h3 ahv n2;have hit:Hj s=false:=by have qv:=h.slot root;rw [h1] at qv;obtain ⟨ob,k1,k2⟩:=qv.2.obj;rw [h3] at k1;cases k1;obtain ⟨s2,ms2,k3,k4,_⟩:=k2;simp only [aaU,aE.mp.injEq,and_true] at k3;rw [k3.1];exact k4
  refine ⟨_,_,rfl,?_,.chg _ Mj (Sp hz (by rw [<-h.defers.2.1,<-bL,hn];simp)),hK⟩;exact h.setObj h1 Mj (MapKept.heap_set h3).1 ⟨s,es2,rfl,hit,h4⟩ rfl (λt=>by rw [cj]) (iN h.nodup)
theorem Qo {s:MS}{arr:Array MapEntry}{n:Nat}{es:List MV}{ks:List MV}(hm:rP s arr n es)(hf:dX s.lay ks=true){v:Value}{m:MV}(hv:SN s.b m=true)(Gg:v=BZ s.b m): (∀x,arr[cE es ks]? =some x->x.key=gy s.st ks/\nL es ks (ko s.b)=es/\ rP s (arr.modify (cE es ks) λe=>{e with key:=gy s.st ks,val:=v}) n (ua es (cE es ks) m)/\ rP s (arr.modify (cE es ks) λe=>{e with key:=gy s.st ks}) n es/\x.born=cE es ks)/\ (arr[cE es ks]? =none->cE es ks=es.length/\nL es ks (ko s.b)=es++[.eu [.agg ks,ko s.b]]/\ rP s (arr.push {key:=gy s.st ks,val:=v,born:=n}) (n+1) (ua (nL es ks (ko s.b)) (cE es ks) m)):=by
 have rR:=hm.size;have hle:cE es ks<=es.length:=by rw [fc];have:=DL (es.map kD) ks;simpa using this
 constructor
 ·intro x hx;have cJ:cE es ks<es.length:=by have h1:=(Array.getElem?_eq_some_iff.1 hx).1;omega
  obtain ⟨m0,xQ⟩: ∃m0,es[cE es ks]? =some m0:=⟨_,No cJ⟩
  obtain ⟨h1,q,v0,rfl,h2,h3,h4,h5⟩:=hm.ent _ x m0 hx xQ;have hq:q=ks:=by refine Iy (jL:=es.map kD) ?_;rw [<-fc,acV,xQ];rfl
  subst hq;have hb:BY (cE es q) es.length=false:=by
   cases hb:BY (cE es q) es.length with
   |false=>rfl
   |true=>have:=cV hb;omega
  refine ⟨h3,by simp [nL,hb],⟨by simp [rT,xQ,rR],by simp [rT,xQ,hm.clock],λi y p hy hp=> ?_⟩,⟨by simp [rR],hm.clock,λi y p hy hp=> ?_⟩,h1⟩
  ·rw [rT,xQ] at hp;simp only [ac0] at hy;simp only [afT] at hp;by_cases hi:cE es q=i
   ·subst hi;simp [hx] at hy;simp [cJ] at hp;subst hy;subst hp;exact ⟨h1,q,m,rfl,h2,rfl,hv,Gg⟩
   ·simp only [hi,if_false] at hy hp;exact hm.ent i y p hy hp
  ·simp only [ac0] at hy;by_cases hi:cE es q=i
   ·subst hi;simp [hx] at hy;rw [xQ] at hp;cases hp;subst hy;exact ⟨h1,q,v0,rfl,h2,rfl,h4,h5⟩
   ·simp only [hi,if_false] at hy;exact hm.ent i y p hy hp
 ·intro hx;have Wy:cE es ks=es.length:=by
   have h1:arr.size<=cE es ks:=by simpa using hx
   omega
  have hb:BY (cE es ks) es.length=true:=by rw [Wy];simp
  have Tf:nL es ks (ko s.b)=es++[.eu [.agg ks,ko s.b]]:=by simp [nL,hb]
  have Lq:ua (nL es ks (ko s.b)) (cE es ks) m=es++[.eu [.agg ks,m]]:=by rw [Tf,rT,Wy];simp [kD]
  refine ⟨Wy,Tf,?_⟩;rw [Lq];refine ⟨by simp [rR],by simp [hm.clock],λi y p hy hp=> ?_⟩;rcases Nat.lt_trichotomy i arr.size with hi|hi|hi
  ·rw [Array.getElem?_push_lt hi] at hy;rw [ac7 (by omega)] at hp;exact hm.ent i y p (by rw [<-hy];simp [hi]) hp
  ·subst hi;simp at hy;rw [rR] at hp;simp at hp;subst hy;subst hp;exact ⟨by show n=_;rw [hm.clock,rR],ks,m,rfl,hf,rfl,hv,Gg⟩
  ·have:(arr.push {key:=gy s.st ks,val:=v,born:=n}).size<=i:=by simp;omega
   rw [Array.getElem?_eq_none this] at hy;cases hy
theorem Vh {s:MS}{arr:Array MapEntry}{n:Nat}{es:List MV}{ks:List MV}{kt:TypeId}{d:TypeDesc}(hm:rP s arr n es)(hf:dX s.lay ks=true)(t4:P.underlying kt=some d)(t5:(∀a b,dX s.lay a=true->dX s.lay b=true->acZ d (gy s.st a) (gy s.st b)=some (eV b a))\/ (∀a b,dX s.lay a=true->dX s.lay b=true->acZ d (gy s.st a) (gy s.st b)=none/\ ∀w:World,(af9 kt (gy s.st a) (gy s.st b)).run P w= .ok (eV b a) w)): (ad9 kt (gy s.st ks) arr.toList).run P w= .ok ((arr[cE es ks]?).map λx=>(cE es ks,x.val)) w:=by have:=Iz (P:=P) (w:=w) hf t4 t5 hm.jL;rw [<-fc] at this;simpa using this
theorem Oa {t:TypeId}{s:MS}{m k v:Operand}(ho:o.op= .mapUpdate t m k v)(jJ:Vf P t s)(h:b9 c Z e st a w)(hK:Lg st s (aT c st m) (λr es=>PS s (aT c st k) λks=>Wf s.b (aT c st v) λv=>Gd st r s (ua (nL es ks (ko s.b)) (cE es ks) v) λst=>bC c st o.dst (.sc .un) K)=some r): o.wp P a w (Out c Z K r e.φ w) Q:=by
 obtain ⟨hm,_⟩:=h.eval m;obtain ⟨hk,_⟩:=h.eval k;obtain ⟨hv,_⟩:=h.eval v;obtain ⟨root,es,arr,n,h1,h2,h3,h4,hz,hK⟩:=Bs h hm hK;obtain ⟨ks,h5,h6,hK⟩:=Fs hk hK;obtain ⟨mv,h7,h8,hK⟩:=Mo hv hK;obtain ⟨kt,el,t1,t2,t3,d,t4,t5⟩:=jJ.row;have Ij:=Vh (P:=P) (w:=w) h4 h6 t4 t5;obtain ⟨g1,g2⟩:=Qo h4 h6 h7 h8;cases hx:arr[cE es ks]? with
 |some x=>obtain ⟨k1,k2,k3,_,_⟩:=g1 x hx;rw [k2] at hK;obtain ⟨w',bZ,rfl,hs,ht,hK⟩:=DM h h1 h3 hz k3 hK;refine DH ?_ hs ht hK;simp [execOp,ho,h2,h5,Instr.mapUpdate,run_underlying t1,abC h3,t3 _ ks _ h6,Ij,hx,k1,Mn h6,acv _ h3,aaK]
 |none=>obtain ⟨k1,k2,k3⟩:=g2 hx;obtain ⟨w',bZ,rfl,hs,ht,hK⟩:=DM h h1 h3 hz k3 hK;refine DH ?_ hs ht hK;simp [execOp,ho,h2,h5,Instr.mapUpdate,run_underlying t1,abC h3,t3 _ ks _ h6,Ij,hx,acv _ h3,aaK]
theorem Gr {t:TypeId}{s:MS}{m k:Operand}(ho:o.op= .mapEntry t m k)(jJ:Vf P t s)(h:b9 c Z e st a w)(hK:Lg st s (aT c st m) (λr es=>PS s (aT c st k) λks=>Gd st r s (nL es ks (ko s.b)) λst=>bC c st o.dst (.eu [Fa s es ks,.sc (.p (.i .i64 (cE es ks)))]) K)=some r): o.wp P a w (λa' w'=>ze s w w'/\Out c Z K r e.φ w a' w') Q:=by
 obtain ⟨hm,_⟩:=h.eval m;obtain ⟨hk,_⟩:=h.eval k;obtain ⟨root,es,arr,n,h1,h2,h3,h4,hz,hK⟩:=Bs h hm hK;obtain ⟨ks,h5,h6,hK⟩:=Fs hk hK;obtain ⟨kt,el,t1,t2,t3,d,t4,t5⟩:=jJ.row;have Ij:=Vh (P:=P) (w:=w) h4 h6 t4 t5;have Lr:SN s.b (ko s.b)=true:=by cases s.b<;>rfl
 obtain ⟨g1,g2⟩:=Qo h4 h6 Lr rfl;have ZN:=Qn (e:=e) (ks:=ks) h4;rw [<-fc] at ZN;have ZO:Cd (Fa s es ks)=true:=by unfold Fa;cases s.b<;>rfl
 have ak8: ∀(w':World) (bZ:St) (u:Value),ze s w w'->(execOp a.eval o).run P w= .ok (.value (.tuple #[u,goInt (cE es ks)])) w'->b9 c Z e bZ a w'->Trans Z e.φ w e.φ w'-> ah e u (Fa s es ks)->bC c bZ o.dst (.eu [Fa s es ks,.sc (.p (.i .i64 (cE es ks)))]) K=some r->o.wp P a w (λa' w'=>ze s w w'/\Out c Z K r e.φ w a' w') Q:=by
  intro w' bZ u hg cr hs ht hu hK;unfold agf;rw [cr,aec];have wh:qK Z e w' bZ (.tuple #[u,goInt (cE es ks)]) (.eu [Fa s es ks,.sc (.p (.i .i64 (cE es ks)))]):=by refine ⟨?_,trivial⟩;simp only [ah];exact ⟨_,rfl,u,[goInt (cE es ks)],rfl,hu,ZO,goInt (cE es ks),[],rfl,wR _ _,rfl,rfl⟩
  obtain ⟨e2,ef,k1,k2,k3⟩:=dz hs wh hK;exact ⟨hg,e2,ef,k1,by rw [k3];exact ht,k2⟩
 cases hx:arr[cE es ks]? with
 |some x=>
  obtain ⟨k1,k2,_,k4,k5⟩:=g1 x hx;rw [k2] at hK;obtain ⟨w',bZ,rfl,hs,ht,hK⟩:=DM h h1 h3 hz k4 hK;have je:arr.modify (cE es ks) (λe=>{e with key:=gy s.st ks})=arr:=by
   apply afN;intro i;rw [ac0];by_cases hi:cE es ks=i
   ·subst hi;simp only [if_true,hx,acY];rw [<-k1]
   ·simp [hi]
  refine ak8 _ _ x.val ?_ ?_ hs ht ?_ hK
  ·rw [je];have:w.heap.setIfInBounds (e.B root) (.map arr n)=w.heap:=by
    apply afN;intro i;rw [Array.getElem?_setIfInBounds];by_cases hi:e.B root=i
    ·subst hi;rw [h3];simp [aZ h3]
    ·simp [hi]
   rw [this];exact (dN.refl w).m s
  ·simp [execOp,ho,h2,h5,Instr.mapEntry,run_underlying t1,abC h3,t3 _ ks _ h6,Ij,hx,k1,Mn h6,acv _ h3,aaK,k5]
  ·have:arr.toList[cE es ks]? =some x:=by simpa using hx
   rw [this] at ZN;exact ZN
 |none=>
  obtain ⟨k1,k2,k3⟩:=g2 hx;have Lq:ua (nL es ks (ko s.b)) (cE es ks) (ko s.b)=nL es ks (ko s.b):=by rw [k2,rT,k1];simp [kD]
  rw [Lq] at k3;obtain ⟨w',bZ,rfl,hs,ht,hK⟩:=DM h h1 h3 hz k3 hK;refine ak8 _ _ (BZ s.b (ko s.b)) ?_ ?_ hs ht ?_ hK
  ·have Mj:=Zr.map h3 (arr.push {key:=gy s.st ks,val:=BZ s.b (ko s.b),born:=n}) (n+1);refine ⟨by rw [Mj.size];exact adP _,λb ob hb=> ?_,Mj.rest⟩;by_cases S4:b=e.B root
   ·subst S4;rw [h3] at hb;cases hb;exact .inr ⟨arr,n,_,_,[{key:=gy s.st ks,val:=BZ s.b (ko s.b),born:=n}],[ks],rfl,(MapKept.heap_set h3).1,by simp,⟨ks,[],rfl,h6,rfl,rfl⟩,by simp⟩
   ·exact .inl (by rw [Mj.other b S4];exact hb)
  ·rw [hx] at Ij;simp [execOp,ho,h2,h5,Instr.mapEntry,run_underlying t1,abC h3,t3 _ ks _ h6,Ij,acv _ h3,aaK,t2,k1];rw [h4.clock]
  ·have:arr.toList[cE es ks]? =none:=by simpa using hx
   rw [this] at ZN;exact ZN
theorem Ls {t:TypeId}{s:MS}{m i v:Operand}(ho:o.op= .entryStore t m i v)(h:b9 c Z e st a w)(hK:Lg st s (aT c st m) (λr es=>match aT c st i with
  | .sc (.p (.i .i64 n))=>du (decide (0<=n/\n.toNat<es.length)) (Wf s.b (aT c st v) λv=>Gd st r s (ua es n.toNat v) λst=>bC c st o.dst (.sc .un) K)
  |_=>none)=some r):
 o.wp P a w (Out c Z K r e.φ w) Q:=by
 obtain ⟨hm,_⟩:=h.eval m;obtain ⟨hi,_⟩:=h.eval i;obtain ⟨hv,_⟩:=h.eval v;obtain ⟨root,es,arr,n,h1,h2,h3,h4,hz,hK⟩:=Bs h hm hK;split at hK
 ·rename_i q hq;rw [hq] at hi;obtain ⟨hc,hK⟩:=ia hK;obtain ⟨U4,YC⟩:=of_decide_eq_true hc;obtain ⟨mv,h7,h8,hK⟩:=Mo hv hK;have rR:=h4.size;obtain ⟨m0,xQ⟩: ∃m0,es[q.toNat]? =some m0:=⟨_,No YC⟩
  have cJ:q.toNat<arr.size:=by omega
  have hx:arr[q.toNat]? =some arr[q.toNat]:=by simp [cJ]
  obtain ⟨j1,ks,v0,rfl,j2,j3,j4,j5⟩:=h4.ent _ _ _ hx xQ;have Qp:rP s (arr.modify q.toNat λe=>{e with val:=a.eval v}) n (ua es q.toNat mv):=by
   refine ⟨by simp [rT,xQ,rR],by simp [rT,xQ,h4.clock],λk y p hy hp=> ?_⟩;rw [rT,xQ] at hp;simp only [ac0] at hy;simp only [afT] at hp;by_cases hi:q.toNat=k
   ·subst hi;rw [hx] at hy;simp only [if_true,acY,AT] at hy;simp [YC] at hp;subst hy;subst hp;exact ⟨j1,ks,mv,rfl,j2,j3,h7,h8⟩
   ·simp only [hi,if_false] at hy hp;exact h4.ent k y p hy hp
  have hfi:arr.findIdx? (λe=>(e.born:Int)==q)=some q.toNat:=by
   rw [Array.findIdx?_eq_some_iff_findIdx_eq];refine ⟨cJ,?_⟩;rw [Array.findIdx_eq cJ];refine ⟨by simp [j1];omega,λk hk=> ?_⟩;have PJ:k<arr.size:=by omega
   obtain ⟨m1,hm1⟩: ∃m1,es[k]? =some m1:=⟨_,No (by omega)⟩
   obtain ⟨b1,_⟩:=h4.ent k arr[k] m1 (by simp [PJ]) hm1;simp [b1];omega
  obtain ⟨w',bZ,rfl,hs,ht,hK⟩:=DM h h1 h3 hz Qp hK;refine DH ?_ hs ht hK;have hiv:=o6 hi;simp only [execOp,ho,h2,hiv,Instr.entryStore,afR,abC h3,asInt,asIntOf,Sem.run_pure,aaK];rw [hfi];simp [acv _ h3,aaK]
 ·cases hK
theorem adH {x:Operand}(ho:o.op= .assign x)(h:b9 c Z e st a w)(hK:HI c o st x (λs st=>bC c st o.dst s K)=some r):o.wp P a w (λa' w'=>dN w w'/\Out c Z K r e.φ w a' w') Q:=by
 have plain:bC c st o.dst (aT c st x) K=some r->o.wp P a w (λa' w'=>dN w w'/\Out c Z K r e.φ w a' w') Q:=by intro hK;obtain ⟨v,h1,h2⟩:=NT (P:=P) (.inr ho) h hK;unfold agf;rw [h1 w trivial,aec];exact ⟨.refl w,h2⟩
 unfold HI at hK;split at hK
 ·rename_i t _ _;split at hK
  ·rename_i cs CV;cases hm:iW cs with
   |false=>simp only [hm,cond_false] at hK;exact plain hK
   |true=>
    simp only [hm,cond_true] at hK;cases hnp:bJ st.cI t||y8 t with
    |true=>simp [hnp] at hK
    |false=>
     obtain ⟨hn,hpt⟩:=OF.1 hnp;simp only [hnp,cond_false,Ge] at hK;have qv:=h.slot t;rw [CV] at qv;have h1:=h.drop (ds:=[t]);have hg:=Ia [t] st.fr h.nodup;have uZ: ∀t' kR,av (oZ [t] st.fr) t'= .box kR->t'≠t/\av st.fr t'= .box kR:=by
      intro t' kR ht;rw [hg] at ht;split at ht
      ·cases ht
      ·rename_i di;refine ⟨λhe=>di ?_,ht⟩;subst he;simp [bJ]
     have wh:qK Z e w {st with fr:=oZ [t] st.fr} (a.eval (.tmp t)) (.box cs):=by refine ⟨e.B t,qv.1.1 hpt,⟨Sp qv.2.cS (by rw [<-h.defers.2.1,<-bL,hn];simp),qv.2.obj,qv.2.free⟩,λt' kR ht=> ?_,λf o ho=>h.bf t cs f o CV ho⟩;obtain ⟨g1,g2⟩:=uZ t' kR ht;exact h.bb t' t kR cs g2 CV g1
     exact Wk (w':=w) (.refl w) (by simp [execOp,ho]) h1 (.refl _ _ _) wh hK
  ·exact plain hK
 ·exact plain hK
end
end Dn
/-
  What goes through a string; a text of a row of bytes. Conditions: none.
-/
namespace Dn
open Go
section
variable {P:Program}{c:Ctx}{Z:bI}{e:Env}{st:St}{a:Act} {w w':World}{R:Type}{K:St->Option R}{r:R}{Q:Exit->Act->World->Prop}{o:Oper}
theorem Vi {t:Nat}{s:MS}(h:we c t=some s):Hj s=false:=by
 unfold we at h;split at h
 ·split at h
  ·rename_i I _;cases hi:Hj ⟨I.st,I.lay,_⟩ with
   |true=>rw [hi] at h;cases h
   |false=>rw [hi] at h;cases h;exact hi
  ·cases h
 ·cases h
theorem Zr.iter {s:ByteArray}{n g:Nat}(hh:w.heap[g]? =some (.stringIter s n)) (n':Nat):Zr g w {w with heap:=w.heap.setIfInBounds g (.stringIter s n')}:=by
 refine ⟨by simp,λb hb=>by simp [agl hb],⟨rfl,rfl,rfl,λx=> ?_⟩⟩;unfold afH;by_cases hx:x.block=g
 ·have cJ:=aZ hh;have e1:(w.heap.setIfInBounds g (.stringIter s n'))[x.block]? =some (.stringIter s n'):=by rw [hx];simp [cJ]
  rw [e1,hx,hh]
 ·simp [agl hx]
theorem Mp {R:Type}{r:R}: ∀{xs:List MV} {K:List UInt8->Option R},NK xs K=some r-> ∃ns:List Int,xs=ns.map (MV.i .u8)/\K (ns.map λn=>adW n.toNat)=some r:=by
 intro xs;induction xs with
 |nil=>intro K h;exact ⟨[],rfl,h⟩
 |cons m xs ih=>
  intro K h;simp only [NK,byK] at h;cases m with
  |i k n=>
   simp only [gI] at h;by_cases hk:k= .u8
   ·subst hk;simp only [decide_true,cond_true] at h;obtain ⟨_,h1⟩:=ia h;obtain ⟨ns,hx,h2⟩:=ih h1;exact ⟨n::ns,by rw [hx];rfl,h2⟩
   ·simp [hk] at h
  |_=>simp [gI] at h
theorem ZP {y t:TypeId}{x:Operand}{Y I:TI}(ho:o.op= .convert y t x)(hY:c.tv y=some Y)(hI:c.tv t=some I)(hL:Y.Bm=true)(hT:kq P c.ti)(h:b9 c Z e st a w)(hK:YZ c st Y I (aT c st x) (λs=>bC c st o.dst s K)=some r):Rd P c Z K r e a w o (dN w):=by
 obtain ⟨hyi,_⟩:=bG hY;obtain ⟨nV,_⟩:=bG hI;obtain ⟨hx,_⟩:=h.eval x;generalize aT c st x=s' at hx hK;obtain ⟨hu,_⟩:=TI.nN (hT y Y hyi) hL;unfold YZ at hK;cases hE:c.tv Y.elem with
 |none=>simp [hE] at hK
 |some E=>
  obtain ⟨tG,_⟩:=bG hE;simp only [hE] at hK;cases ZF:I.isS&&Wd E with
  |false=>simp [ZF] at hK
  |true=>
   simp only [ZF,cond_true] at hK;simp only [sh] at ZF;have hd:=TI.NY (hT t I nV) ZF.1;obtain ⟨he,rR⟩:=U8 (hT _ E tG) ZF.2;have go: ∀(ns:List Int),(∀w':World,dN w w'->(convert y t (a.eval x)).run P w'= .ok (.string (strOfNums ns)) w')->bC c st o.dst (.sc (.p (.s (ns.map λn=>adW n.toNat)))) K=some r-> Rd P c Z K r e a w o (dN w):=by intro ns cr hK;refine SP (s:= .sc (.p (.s (ns.map λn=>adW n.toNat)))) (v:= .string (strOfNums ns)) (λw' hg=>by simp [execOp,ho,cr w' hg,aaK]) h (.refl _ _ _) (.of ?_ trivial) hK;rw [<-strOfNums_data];exact Zl _
   have apH:a.eval x= .slice none 0 0->bC c st o.dst (.sc (.p (.s []))) K=some r->Rd P c Z K r e a w o (dN w):=by intro hv hK;refine go [] (λw' hg=> ?_) hK;rw [hv,run_convert_bytes_nil w' y _ hu he 0 0 t hd];rfl
   split at hK
   ·rename_i xs;obtain ⟨ns,WG,xI⟩:=Mp hK;refine go ns (λw' hg=> ?_) xI;clear hK;subst WG;simp only [ah,aX] at hx;obtain ⟨_,hx⟩:=hx;generalize hv:[a.eval x]=vs at hx;cases hx;rename_i ad cap bt off Ds f h1 h2 h3 h4 h5;simp only [aaU,and_true] at hv;rw [hv];have hlen:(ns.map (MV.i .u8)).length=ns.length:=af7 ..;have h5: ∀(i:Nat) (hi:i<ns.length),jz e.key e.φ (f i) (.i .u8 ns[i]):=λi hi=>by have:=h5 i (by rw [hlen];exact hi);rwa [List.getElem_map] at this
    rw [hlen] at h1 h2 h3 h4⊢;cases ns with
    |nil=>rw [run_convert_bytes_string w' y t _ _ _ _ hu he hd];cases ad<;>simp [Conv.bytesToString,loadCells,loadCellsFrom,aaK,strOfNums]<;>rfl
    |cons n ns=>
     have h5': ∀(i:Nat) (hi:i<(n::ns).length),f i=[.int .u8 (n::ns)[i]]:=by intro i hi;have:=h5 i hi;generalize f i=q at this;cases this;rfl
     have apI:Ds=1:=by rw [<-h3 0 (by simp),h5' 0 (by simp)];rfl
     subst apI;rw [h2 (by simp)];refine run_convert_bytes_arg w' y _ hu he bt off _ cap (n::ns) rfl (λi hi=> ?_) t hd;have h6:=h4 i 0 hi (by omega);rw [h5' i hi] at h6;simp only [Nat.mul_one,Nat.add_zero,adb,Nat.zero_lt_succ,List.getElem?_cons_zero] at h6;rw [hg.cell (h.kP _ _ _ h6),adM,No hi];rfl
   ·refine apH ?_ hK;simpa [ah,aX] using hx
   ·rename_i f;cases hf:aQ st.bo f with
    |none=>simp [hf] at hK
    |some ow=>
     simp only [hf] at hK;cases jJ:BY ow.ty Y.elem with
     |false=>simp [jJ] at hK
     |true=>
      simp only [jJ,cond_true] at hK;have jJ:=cV jJ;obtain ⟨ns,WG,xI⟩:=Mp hK;clear hK;obtain ⟨hv,_⟩:=s9 h hx hf;refine go ns (λw' hg=> ?_) xI;obtain ⟨J,cells,k1,k2,k3,k4,k5⟩:=(h.iC f ow hf).row;rw [jJ,tG] at k1;cases k1;rw [rR] at k3 k4;rw [WG] at k3 k4;have cc: ∀(ns:List Int) (cells:List Value),bA e.key e.φ 1 cells (ns.map (MV.i .u8))->cells=ns.map (agC .u8):=by
       intro ns;induction ns with
       |nil=>intro cells hc;exact hc
       |cons n ns ih=>intro cells hc;obtain ⟨v,q,rfl,_,hr,hc⟩:=hc;cases hr;rw [ih _ hc];rfl
      have hce:=cc _ _ k4;subst hce;rw [hv];rw [af7] at k3;rcases k3.2 with ⟨q1,q2⟩|⟨g,cap,fI,q1,_,q2,q3,q4,q5,q6⟩
      ·have:ns=[]:=List.eq_nil_of_length_eq_zero q2;subst this;rw [q1,run_convert_bytes_nil w' y _ hu he 0 0 t hd];rfl
      ·rw [q1];refine run_convert_bytes_arg w' y _ hu he g 0 _ cap ns rfl (λi hi=> ?_) t hd;refine hg.cell ?_;rw [ac5,cell_of q2];have hi2:(fI.toList.take (ns.length *1))[i]? =some (.int .u8 (ns.getD i 0)):=by rw [q6,acV,adM,No hi];rfl
       rw [afO] at hi2;split at hi2
       ·simpa using hi2
       ·cases hi2
   ·cases hK
end
end Dn
/-
  Slices of new elements. Conditions: none.
-/
namespace Dn
open Go
section
variable {P:Program}{c:Ctx}{Z:bI} {e e':Env}{st:St}{a:Act} {w w':World}{R:Type}{K:St->Option R}{r:R}{Q:Exit->Act->World->Prop}{o:Oper}
theorem ZQ {t:TypeId}{I:TI}(hI:c.tv t=some I)(hT:kq P c.ti): ∃i z,P.info? t=some i/\i.zero=some z/\ay e z.cells.toList I.zero:=by
 obtain ⟨nV,hc⟩:=bG hI;obtain ⟨d,i,h1,h2,h3,h4⟩:=hT t I nV;suffices hz: ∃z,i.zero=some z/\ay e z.cells.toList I.zero by obtain ⟨z,h5,h6⟩:=hz;exact ⟨i,z,h2,h5,h6⟩
 cases d<;>simp only [wS] at h4;case struct fs=>obtain ⟨_,_,_,_,_,_,cs,hz,hl,_⟩:=h4;exact ⟨_,hz,by simpa [adg] using mG hl⟩
 case tuple ts=>exact absurd hc h4.2.1
 case slice el=>obtain ⟨_,_,_,_,_,hz,hl,_⟩:=h4;exact ⟨_,hz,by rw [hl];exact ⟨[.slice none 0 0],[],rfl,rfl,rfl⟩⟩
 case array n el=>obtain ⟨_,_,_,_,_,_,_,hl,hz⟩:=h4;exact ⟨_,hz,by rw [hl];exact ⟨cc pk.zero,[],by simp [adg],rfl,rfl⟩⟩
 case bool=>obtain ⟨_,_,_,_,hl,hz⟩:=h4;exact ⟨_,hz,by rw [hl];exact ⟨[.bool false],[],rfl,⟨rfl,.b _⟩,rfl⟩⟩
 case int k=>obtain ⟨_,_,_,_,hl,hz⟩:=h4;exact ⟨_,hz,by rw [hl];exact ⟨[.int k 0],[],rfl,⟨rfl,.i _ _⟩,rfl⟩⟩
 case string=>obtain ⟨_,_,_,_,hl,b,hz,hb⟩:=h4;refine ⟨_,hz,by rw [hl];refine ⟨[.string b],[],rfl,⟨rfl,?_⟩,rfl⟩;rw [<-hb];exact .s b⟩
 all_goals
  obtain ⟨_,_,_,_,v,hz,hv,hl⟩:=h4;refine ⟨v,hz,?_⟩;have:v.cells.toList=[v]:=by cases v<;>simp_all [adg,Value.oneCell']
  rw [this];exact mG hl
theorem ay.ala {cs:List aE}: ∀{vs:List Value} {ms:List MV},ay e vs cs->zY cs=some ms->jd e.key e.φ vs ms:=by
 induction cs with
 |nil=>intro vs ms h hm;cases h;simp [zY] at hm;subst hm;exact .nil
 |cons l r ih=>
  intro vs ms h hm;obtain ⟨v,u,rfl,h1,h2⟩:=h;cases hr:zY r with
  |none=>cases l<;>simp [zY,hr] at hm
  |some q=>
   cases l<;>simp [zY,hr] at hm
   ·subst hm;exact .cons v _ u q h1.2 (ih h2 hr)
   ·subst hm;have h1:v=cc _:=h1;subst h1;exact .cons _ _ u q (.h _) (ih h2 hr)
   ·subst hm;have h1:v=[.slice none 0 0]:=h1;subst h1;exact .cons _ _ u q (.list none 0 [] 0 0 0 (λ_=>[]) (adP _) (λh=>absurd h (Nat.lt_irrefl _)) (λ_ h=>absurd h (aed _)) (λ_ _ h=>absurd h (aed _)) (λ_ h=>absurd h (aed _))) (ih h2 hr)
theorem WH {b:Bool}{ms:List MV}{x:MV}{vs:List Value}(h:jd e.key e.φ vs ms)(hx:wc b ms=some x):jz e.key e.φ vs x:=by
 cases b with
 |true=>cases ms<;>simp [wc] at hx<;>subst hx<;>exact .agg _ _ h
 |false=>
  cases ms with
  |nil=>simp [wc] at hx
  |cons m ms=>
   cases ms with
   |cons y ys=>simp [wc] at hx
   |nil=>
    simp [wc] at hx;subst hx;generalize Bq:vs=Su at h;cases h with
    |cons v _ u _ h1 h2=>cases h2;simpa using h1
theorem Mq (z:Array Value)(hz:0<z.size): ∀n:Nat,(madeCells z (n *z.size)).toList=(acN n z.toList).flatten
 |0=>by simp [madeCells]
 |n+1=>by
  have ih:=Mq z hz n;unfold madeCells at ih⊢;rw [ac9,Array.toList_range] at ih⊢;rw [Nat.succ_mul,List.range_add,List.map_append,ih,List.replicate_succ',List.flatten_append];congr 1;simp only [List.flatten_cons,List.flatten_nil,af8,List.map_map];apply afV;intro k;rw [acV];by_cases hk:k<z.size
  ·rw [aeO hk];simp only [acY,Function.comp];rw [show (n *z.size+k)%z.size=k by rw [Nat.mul_comm,Nat.mul_add_mod,Nat.mod_eq_of_lt hk]];simp [hk]
  ·simp [hk,show z.size<=k by omega]
theorem Cj {key:Nat->Nat} {φ:Ph}{size:Nat}{vs:List Value}{x:MV}(hl:vs.length=size)(h:jz key φ vs x): ∀n,bA key φ size (acN n vs).flatten (acN n x)
 |0=>rfl
 |n+1=>⟨vs,(acN n vs).flatten,by simp [List.replicate_succ],hl,h,Cj hl h n⟩
theorem Ob {t:TypeId}{x y:Operand}{I E:TI}(ho:o.op= .makeSlice t x y)(hI:c.tv t=some I)(hL:I.Bm=true)(hE:c.tv I.elem=some E)(hT:kq P c.ti)(h:b9 c Z e st a w)(hK:YP (o.dst.getD 0) st I E (aT c st x) (aT c st y) (λs st=>bC c st o.dst s K)=some r): o.wp P a w (λa' w'=>dN w w'/\Out c Z K r e.φ w a' w') Q:=by
 obtain ⟨nV,hc⟩:=bG hI;obtain ⟨tG,wi⟩:=bG hE;obtain ⟨hu,E2,Gn,_,iY⟩:=TI.nN (hT t I nV) hL;rw [tG] at Gn;cases Gn;obtain ⟨hx,_⟩:=h.eval x;obtain ⟨hy,_⟩:=h.eval y;generalize aT c st x=sx at hx hK;generalize aT c st y=sy at hy hK;unfold YP at hK;split at hK;rotate_left
 ·cases hK
 rename_i k1 n k2 m;cases hb:adY 1 E.bytes with
 |false=>simp [hb] at hK
 |true=>
 simp only [hb,cond_true] at hK;have hb:=ac1 hb;obtain ⟨hn,hK'⟩:=ia hK;clear hK;have hK:=hK';clear hK';have hn:=of_decide_eq_true hn;obtain ⟨h0,hnm,lf⟩:=hn;subst hnm;cases S1:zY E.zero with
 |none=>simp [S1] at hK
 |some zs=>
 simp only [S1] at hK;cases Sw:wc E.st zs with
 |none=>simp [Sw] at hK
 |some z0=>
 simp only [Sw] at hK;obtain ⟨i,z,hi,hz,YB⟩:=ZQ (e:=e) hE hT;obtain ⟨i',z',hi',hs,Du,hz',ZR⟩:=lJ (hT _ E tG) wi;rw [hi] at hi';cases hi';rw [hz] at hz';cases hz';have ic:jz e.key e.φ z.cells.toList z0:=WH (YB.ala S1) Sw;have ev1:a.eval x= .int k1 n:=o6 hx;have ev2:a.eval y= .int k2 n:=o6 hy;have hnb:n<=n *(E.bytes:Int):=by have:n *1<=n *(E.bytes:Int):=Int.mul_le_mul_of_nonneg_left (by omega) h0;omega
 have alb:=run_make (P:=P) w t I.elem i z hu hi hz k1 k2 n n h0 (Int.le_refl _) (by rw [Du,Int.mul_comm];omega) (by omega);have cr:(execOp a.eval o).run P w= .ok (.value (.slice (some ⟨w.heap.size,0,none⟩) n.toNat n.toNat)) (w.alloc (.cells (madeCells z.cells (n.toNat *i.size)) I.elem)):=by simp [execOp,ho,ev1,ev2,alb]
 rw [hs,<-ZR] at cr;have hg:dN w (w.alloc (.cells (madeCells z.cells (n.toNat *z.cells.size)) I.elem)):= .alloc w _ _;have Vb:(madeCells z.cells (n.toNat *z.cells.size)).toList=(acN n.toNat z.cells.toList).flatten:=Mq _ (by rw [ZR];exact iY) _;have nk:=Cj (size:=E.size) (by rw [aeT];exact ZR) ic n.toNat;rw [<-Vb] at nk;have hlen:(acN n.toNat z0).length=n.toNat:=List.length_replicate;have rR:(madeCells z.cells (n.toNat *z.cells.size)).toList.length=n.toNat *E.size:=by rw [aeT,size_madeCells,ZR]
 have Gm: ∀off,e.φ w.heap.size off=none:=by
  intro off;cases hp:e.φ w.heap.size off with
  |none=>rfl
  |some u=>have:=World.block_lt_of_cell? w _ (h.kP _ _ _ hp);simp at this
 have zN:=h.npf hK;have hK:=qL hK;have jK:cT c Z.nc e (w.alloc (.cells (madeCells z.cells (n.toNat *z.cells.size)) I.elem)) (.slice (some ⟨w.heap.size,0,none⟩) n.toNat n.toNat) ⟨I.elem,false,acN n.toNat z0⟩:=by
  refine ⟨E,_,tG,wi,⟨?_,.inr ⟨w.heap.size,n.toNat,_,?_,agp _,iD w _,?_,?_,?_,?_⟩⟩,nk,?_⟩
  ·simp [rR,hlen]
  ·simp [hlen]
  ·simp [hlen]
  ·simp [hlen,Go.maxLen];omega
  ·simp [size_madeCells,ZR,hlen]
  ·show List.take _ _=_;rw [List.take_of_length_le (by simp [rR,hlen])]
  ·intro bt lT;simp [IT] at lT;subst lT;refine ⟨h.cS _ (adP _),λoff u hu=>(by rw [Gm] at hu;cases hu),λhc=>afM hc⟩
 have ta:=h.kA (f:=o.dst.getD 0) zN jK hg.size (λb It _=>hg.qA b It) (λb off u hu=>hg.cell (h.kP b off u hu)) (λb lT=>by simp [IT] at lT;exact .inl (by omega));exact Wk (s:= .sc (.own (o.dst.getD 0))) hg cr ta (hg.trans h.cS _) (.of (wV rfl) trivial) hK
end
end Dn
/-
  Variables that are handed to functions. Conditions: none.
-/
namespace Dn
open Go
def Vj:List (Nat×Nat)->Nat->Nat
 |[],_=>0
 |(f,x)::r,g=>if f=g then x else Vj r g
def Oc (E:Nat->Value)(ps:List (Nat×Nat))(f:Nat):Value:=match Vj ps f with
 |0=> .slice none 0 0
 |g+1=>E g
structure Od (ps:List (Nat×Nat)):Prop where
 fn: ∀f x y,(f,x)∈ps->(f,y)∈ps->x=y
 inj: ∀f f' g,(f,g+1)∈ps->(f',g+1)∈ps->f=f'
theorem Od.nil:Od []:=⟨λ_ _ _ h=>by simp at h,λ_ _ _ h=>by simp at h⟩
theorem Bt {ps:List (Nat×Nat)}(h:Od ps){f x:Nat}(hm:(f,x)∈ps):Vj ps f=x:=by
 have hfn:=h.fn;clear h;induction ps with
 |nil=>simp at hm
 |cons p ps ih=>
  obtain ⟨a,b⟩:=p;unfold Vj;by_cases ha:a=f
  ·subst ha;rw [if_pos rfl];exact hfn a b x (by simp) hm
  ·rw [if_neg ha];rcases AI.1 hm with h1|h1
   ·simp only [abB] at h1;exact absurd h1.1.symm ha
   ·exact ih h1 (λf x y h1 h2=>hfn f x y (by simp [h1]) (by simp [h2]))
theorem Tg {ps:List (Nat×Nat)}{f g:Nat}(h:nM ps f g=true):(∀b,(f,b)∈ps->b=g/\g≠0)/\(∀x,(x,g)∈ps->x≠f->g=0):=by
 induction ps with
 |nil=>simp
 |cons p ps ih=>
  obtain ⟨x,y⟩:=p;simp only [nM,sh,eO] at h;obtain ⟨h1,h2⟩:=h;obtain ⟨i1,i2⟩:=ih h2;refine ⟨?_,?_⟩
  ·intro b hb;rcases AI.1 hb with hb|hb
   ·cases hb;simp at h1;exact ⟨h1.1,h1.2⟩
   ·exact i1 b hb
  ·intro z hz di;rcases AI.1 hz with hz|hz
   ·cases hz;simp [di] at h1;exact h1
   ·exact i2 z hz di
theorem Od.add {ps:List (Nat×Nat)}{f g:Nat}(h:Od ps)(hp:nM ps f g=true):Od ((f,g)::ps):=by
 obtain ⟨p1,p2⟩:=Tg hp;refine ⟨λa x y hx hy=> ?_,λa b k hx hy=> ?_⟩
 ·rcases AI.1 hx with hx|hx<;>rcases AI.1 hy with hy|hy
  ·cases hx;cases hy;rfl
  ·cases hx;exact (p1 y hy).1.symm
  ·cases hy;exact (p1 x hx).1
  ·exact h.fn a x y hx hy
 ·rcases AI.1 hx with Fk|Fk<;>rcases AI.1 hy with hy1|hy1
  ·cases Fk;cases hy1;rfl
  ·cases Fk;by_cases hb:b=f
   ·exact hb.symm
   ·have:=p2 b hy1 hb;omega
  ·cases hy1;by_cases hb:a=f
   ·exact hb
   ·have:=p2 a Fk hb;omega
  ·exact h.inj a b k Fk hy1
inductive TC (st:St):List (Nat×Nat)->List LK->List aE->List MV->List (Nat×Nat)->Prop
 |nil (ps):TC st ps [] [] [] ps
 |Oe {ps ks ls ms kU}:TC st ps ks ls ms kU->TC st ps (.k .l::ks) (.nil::ls) (.list []::ms) kU
 |hs {ps ks ls ms kU} (x:pk):TC st ps ks ls ms kU->TC st ps (.k .h::ks) (.hs x::ls) (.h x::ms) kU
 |p {ps ks ls ms kU} (x:Kd) (m:MV) (l':aE):kn x m some=some l'->TC st ps ks ls ms kU->TC st ps (.k x::ks) (.p m::ls) (m::ms) kU
 |own {ps ks ls ms kU} (f ty:Nat) (fb:Bool) (g:Nat) (o:pn):aQ st.bo g=some o->o.ty=ty->(o.fb=true->fb=true)->g∉st.db->nM ps f (g+1)=true-> TC st ((f,g+1)::ps) ks ls ms kU->TC st ps (.own f ty fb::ks) (.own g::ls) (.list o.xs::ms) kU
 |yb {ps ks ls ms kU} (f ty:Nat) (fb:Bool):nM ps f 0=true->TC st ((f,0)::ps) ks ls ms kU->TC st ps (.own f ty fb::ks) (.nil::ls) (.list []::ms) kU
theorem IA {R:Type}{k:Kd}{m:MV}{l:aE}{K:aE->Option R}(h:kn k m some=some l):kn k m K=K l:=by
 unfold kn gB gI gS gL gH gR at h⊢;cases k<;>cases m<;>simp at h⊢ <;>try (subst h;rfl)
 ·rename_i k k' n;by_cases hk:k'=k
  ·simp [hk] at h⊢;subst h;rfl
  ·simp [hk] at h
theorem Bu {R:Type}{r:R}{k:Kd}{m:MV}{K:aE->Option R}(h:kn k m K=some r): ∃l,kn k m some=some l/\K l=some r:=by
 unfold kn gB gI gS gL gH gR at h⊢;cases k<;>cases m<;>simp at h⊢ <;>try exact h
 ·rename_i k k' n;by_cases hk:k'=k
  ·simp [hk] at h⊢;exact h
  ·simp [hk] at h
theorem IC {st:St}{ks:List LK}: ∀{R:Type} {r:R} {ps:List (Nat×Nat)} {ls:List aE} {K':List MV->List (Nat×Nat)->Option R},ma st ps ks ls K'=some r-> ∃ms kU,TC st ps ks ls ms kU/\K' ms kU=some r:=by
 induction ks with
 |nil=>
  intro R r ps ls K' h;cases ls with
  |nil=>exact ⟨[],ps,.nil ps,h⟩
  |cons=>simp [ma] at h
 |cons k ks ih=>
  intro R r ps ls K' h;cases ls with
  |nil=>simp [ma] at h
  |cons l ls=>
   simp only [ma] at h;unfold NL at h;split at h
   ·obtain ⟨ms,kU,h1,h⟩:=ih h;exact ⟨_,_,.Oe h1,h⟩
   ·obtain ⟨ms,kU,h1,h⟩:=ih h;exact ⟨_,_,.hs _ h1,h⟩
   ·obtain ⟨l',h0,h⟩:=Bu h;obtain ⟨ms,kU,h1,h⟩:=ih h;exact ⟨_,_,.p _ _ l' h0 h1,h⟩
   ·rename_i f ty fb g;cases ho:aQ st.bo g with
    |none=>simp [ho] at h
    |some o=>
     simp only [ho] at h;cases hc:!BY o.ty ty||(o.fb&&!fb)||bJ st.db g||!nM ps f (g+1) with
     |true=>simp [hc] at h
     |false=>
      simp only [hc,cond_false] at h;simp only [OF,acW] at hc;obtain ⟨⟨⟨h1,h2⟩,h3⟩,h4⟩:=hc;obtain ⟨ms,kU,h5,h⟩:=ih h;refine ⟨_,_,.own f ty fb g o ho (cV h1) ?_ ?_ h4 h5,h⟩
      ·intro hz;rw [hz] at h2;simpa using h2
      ·rw [<-bL,h3];simp
   ·rename_i f ty fb;cases hc:nM ps f 0 with
    |false=>simp [hc] at h
    |true=>simp only [hc,cond_true] at h;obtain ⟨ms,kU,h5,h⟩:=ih h;exact ⟨_,_,.yb f ty fb hc h5,h⟩
   ·simp at h
theorem TC.ps {st:St}{ps kU:List (Nat×Nat)}{ks:List LK}{ls:List aE}{ms:List MV}(h:TC st ps ks ls ms kU):Od ps->Od kU/\ ∀p∈ps,p∈kU:=by
 induction h with
 |nil=>exact λh=>⟨h,λ_ h=>h⟩
 |Oe _ ih=>exact ih
 |hs _ _ ih=>exact ih
 |p _ _ _ _ _ ih=>exact ih
 |own f ty fb g o _ _ _ _ hp _ ih=>intro h;obtain ⟨h1,h2⟩:=ih (h.add hp);exact ⟨h1,λp hm=>h2 p (by simp [hm])⟩
 |yb f ty fb hp _ ih=>intro h;obtain ⟨h1,h2⟩:=ih (h.add hp);exact ⟨h1,λp hm=>h2 p (by simp [hm])⟩
def ald (st:St)(ps:List (Nat×Nat))(ks:List LK)(f:Nat)(o:pn):Prop:=LK.own f o.ty o.fb∈ks/\((∃g o3,(f,g+1)∈ps/\aQ st.bo g=some o3/\o3.ty=o.ty/\o3.xs=o.xs/\(o3.fb=true->o.fb=true)/\g∉st.db)\/((f,0)∈ps/\o.xs=[]))
theorem adI {e:Env}{st:St}{psF:List (Nat×Nat)}(Ch:Od psF){ps kU:List (Nat×Nat)}{ks:List LK}{ls:List aE}{ms:List MV}(h:TC st ps ks ls ms kU)(he:e.m=st.bo):(∀p∈kU,p∈psF)-> ∀{vs:List Value},ay e vs ls-> ∀(m0:List (Nat×pn)),∃cs m1,(∀{R:Type} (K:List aE->List MV->St->Option R) (rest:List MV),dh ⟨[],[],[],m0⟩ ks (ms++rest) K=K cs rest ⟨[],[],[],m1⟩)/\ (∀e2:Env,e2.key=e.key->e2.φ=e.φ->(∀f,e2.E f=Oc e.E psF f)->ay e2 vs cs)/\(∀f o,aQ m1 f=some o->aQ m0 f=some o\/ald st psF ks f o):=by
 induction h with
 |nil=>intro _ vs hl m0;cases hl;exact ⟨[],m0,λK rest=>rfl,λe2 _ _ _=>rfl,λf o h=> .inl h⟩
 |Oe _ ih=>
  intro iy vs hl m0;obtain ⟨v,u,rfl,h1,h2⟩:=hl;obtain ⟨cs,m1,g1,g2,g3⟩:=ih iy h2 m0;have h1:v=[.slice none 0 0]:=h1;subst h1;refine ⟨.p (.list [])::cs,m1,λK rest=> ?_,λe2 q1 q2 q3=>⟨_,u,rfl,⟨rfl,.list none 0 [] 0 0 0 (λ_=>[]) (by simp) (by simp) (by simp) (by simp) (by simp)⟩,g2 e2 q1 q2 q3⟩,λf o h=> ?_⟩
  ·show dh _ _ _ _=_;simp only [dh,gC,abG,kZ,kn,gL];exact g1 _ rest
  ·rcases g3 f o h with h|⟨h,h'⟩
   ·exact .inl h
   ·exact .inr ⟨abz _ h,h'⟩
 |hs x _ ih=>
  intro iy vs hl m0;obtain ⟨v,u,rfl,h1,h2⟩:=hl;obtain ⟨cs,m1,g1,g2,g3⟩:=ih iy h2 m0;refine ⟨.hs x::cs,m1,λK rest=> ?_,λe2 q1 q2 q3=>⟨v,u,rfl,h1,g2 e2 q1 q2 q3⟩,λf o h=> ?_⟩
  ·simp only [dh,gC,abG,kZ,kn,gH];exact g1 _ rest
  ·rcases g3 f o h with h|⟨h,h'⟩
   ·exact .inl h
   ·exact .inr ⟨abz _ h,h'⟩
 |p x m l' h0 _ ih=>
  intro iy vs hl m0;obtain ⟨v,u,rfl,h1,h2⟩:=hl;obtain ⟨cs,m1,g1,g2,g3⟩:=ih iy h2 m0;refine ⟨l'::cs,m1,λK rest=> ?_,λe2 q1 q2 q3=>⟨v,u,rfl,?_,g2 e2 q1 q2 q3⟩,λf o h=> ?_⟩
  ·simp only [dh,gC,abG,kZ,IA h0];exact g1 _ rest
  ·obtain ⟨l2,hs,hk⟩:=oN (e:=e2) (vs:=v) h0;cases hk;exact hs.Ws (by rw [q1,q2];exact h1.2)
  ·rcases g3 f o h with h|⟨h,h'⟩
   ·exact .inl h
   ·exact .inr ⟨abz _ h,h'⟩
 |own f ty fb g o ho jJ hfz hg hp ht ih=>
  intro iy vs hl m0;obtain ⟨v,u,rfl,h1,h2⟩:=hl;obtain ⟨cs,m1,g1,g2,g3⟩:=ih iy h2 (cb m0 f ⟨ty,fb,o.xs⟩);have qB:(f,g+1)∈psF:=iy _ (by
   have:=(ht.ps)
   clear this;exact (show∀{ps kU:List (Nat×Nat)} {ks:List LK} {ls:List aE} {ms:List MV},TC st ps ks ls ms kU-> ∀p∈ps,p∈kU from by
    intro ps kU ks ls ms h;induction h with
    |nil=>exact λ_ h=>h
    |Oe _ ih=>exact ih
    |hs _ _ ih=>exact ih
    |p _ _ _ _ _ ih=>exact ih
    |own _ _ _ _ _ _ _ _ _ _ _ ih=>exact λp hm=>ih p (by simp [hm])
    |yb _ _ _ _ _ ih=>exact λp hm=>ih p (by simp [hm])) ht _ (by simp))
  obtain ⟨x,rfl,hx,hE⟩:=h1;have hE:=hE o (by rw [he];exact ho);refine ⟨.own f::cs,m1,λK rest=> ?_,λe2 q1 q2 q3=>⟨[x],u,rfl,⟨x,rfl,hx,λo2 _=> ?_⟩,g2 e2 q1 q2 q3⟩,λf2 o2 h=> ?_⟩
  ·simp only [dh,gC,abG,kZ,gL,pz];exact g1 _ rest
  ·rw [q3 f,Oc,Bt Ch qB,hE]
  ·rcases g3 f2 o2 h with h|⟨h,h'⟩
   ·rw [bx] at h;by_cases ga:f2=f
    ·subst ga;simp only [if_true,AT] at h;subst h;exact .inr ⟨by simp,.inl ⟨g,o,qB,ho,jJ,rfl,hfz,hg⟩⟩
    ·rw [if_neg ga] at h;exact .inl h
   ·exact .inr ⟨abz _ h,h'⟩
 |yb f ty fb hp ht ih=>
  intro iy vs hl m0;obtain ⟨v,u,rfl,h1,h2⟩:=hl;obtain ⟨cs,m1,g1,g2,g3⟩:=ih iy h2 (cb m0 f ⟨ty,fb,[]⟩);have qB:(f,0)∈psF:=iy _ ((show∀{ps kU:List (Nat×Nat)} {ks:List LK} {ls:List aE} {ms:List MV},TC st ps ks ls ms kU-> ∀p∈ps,p∈kU from by
   intro ps kU ks ls ms h;induction h with
   |nil=>exact λ_ h=>h
   |Oe _ ih=>exact ih
   |hs _ _ ih=>exact ih
   |p _ _ _ _ _ ih=>exact ih
   |own _ _ _ _ _ _ _ _ _ _ _ ih=>exact λp hm=>ih p (by simp [hm])
   |yb _ _ _ _ _ ih=>exact λp hm=>ih p (by simp [hm])) ht _ (by simp))
  have h1:v=[.slice none 0 0]:=h1;subst h1;refine ⟨.own f::cs,m1,λK rest=> ?_,λe2 q1 q2 q3=>⟨_,u,rfl,⟨_,rfl,rfl,λo2 _=> ?_⟩,g2 e2 q1 q2 q3⟩,λf2 o2 h=> ?_⟩
  ·simp only [dh,gC,abG,kZ,gL,pz];exact g1 _ rest
  ·rw [q3 f,Oc,Bt Ch qB]
  ·rcases g3 f2 o2 h with h|⟨h,h'⟩
   ·rw [bx] at h;by_cases ga:f2=f
    ·subst ga;simp only [if_true,AT] at h;subst h;exact .inr ⟨by simp,.inr ⟨qB,rfl⟩⟩
    ·rw [if_neg ga] at h;exact .inl h
   ·exact .inr ⟨abz _ h,h'⟩
theorem ZS {c:Ctx}{ks:List LK}(h:kp c ks=true): ∀f ty fb,LK.own f ty fb∈ks-> ∃I,c.ti ty=some I/\I.cQ=[]:=by
 induction ks with
 |nil=>intro f ty fb hm;simp at hm
 |cons k ks ih=>
  intro f ty fb hm;cases k with
  |k x=>
   simp only [kp] at h;rcases AI.1 hm with hm|hm
   ·cases hm
   ·exact ih h f ty fb hm
  |own f' ty' apL=>
   simp only [kp] at h;cases hI:c.tv ty' with
   |none=>simp [hI] at h
   |some I=>
    simp only [hI] at h;rcases AI.1 hm with hm|hm
    ·cases hm;exact ⟨I,bG hI⟩
    ·exact ih h f ty fb hm
section
variable {P:Program}{c:Ctx}{Z:bI} {Z':Nat->Prop} {e e':Env}{st bZ:St}{a:Act} {w w':World}{R:Type}{K:St->Option R}{r:R}{Q:Exit->Act->World->Prop}{o:Oper}{root:Nat}{cs:List aE}{ks:List LK}{ls:List MV}{ps:List (Nat×Nat)}
def gone (e:Env)(root:Nat)(ps:List (Nat×Nat))(b:Nat):Prop:=b=e.B root\/ ∃x g,(x,g+1)∈ps/\(e.E g).ownBlock=some b
theorem gz.wide {Z Z2:Nat->Prop} {φ:Ph}{bt:Nat}(h:gz c Z φ w bt ks ls)(hz: ∀b,Z b->Z2 b):gz c Z2 φ w bt ks ls:=by obtain ⟨cs,m,E,arr,T,h1,h2,h3,h4,h5,h6,h7⟩:=h;refine ⟨cs,m,E,arr,T,h1,h2,hz _ h3,h4,h5,λf o ho=>⟨?_,(h6 f o ho).2⟩,h7⟩;obtain ⟨I,cells,g1,g2,g3,g4,g5⟩:=(h6 f o ho).1.row;exact ⟨I,cells,g1,g2,g3,g4,λb hb=>⟨hz _ (g5 b hb).1,(g5 b hb).2⟩⟩
theorem Qq (h:b9 c Z e st a w)(hf:av st.fr root= .box cs)(hm:iW cs=false)(jJ:kp c ks=true)(ht:TC st [] ks cs ls ps):gz c (gone e root ps) e.φ w (e.B root) ks ls:=by
 have hs:=h.slot root;rw [hf] at hs;obtain ⟨arr,T,fG,tF⟩:=hs.2.cells hm;obtain ⟨Ch,_⟩:=ht.ps .nil;obtain ⟨qw,m1,g1,g2,g3⟩:=adI Ch ht h.m (λp hp=>hp) tF [];have hl:=g2 ⟨c.key,e.φ,Oc e.E ps,λ_=>e.B root,m1⟩ h.key.symm rfl (λ_=>rfl);have hE: ∀{f g:Nat},(f,g+1)∈ps->Oc e.E ps f=e.E g:=λhm=>by rw [Oc,Bt Ch hm]
 have hE0: ∀{f:Nat},(f,0)∈ps->Oc e.E ps f= .slice none 0 0:=λhm=>by rw [Oc,Bt Ch hm]
 have Ag: ∀f o,aQ m1 f=some o->ald st ps ks f o:=λf o ho=>(g3 f o ho).resolve_left (by simp [aQ]);refine ⟨qw,m1,Oc e.E ps,arr,T,?_,fG,.inl rfl,hs.2.free,hl,λf o ho=> ?_,λf f' o o' k ho Li hk PJ=> ?_⟩
 ·have:=g1 (λcs rest st=>gN rest (some (cs,st.bo))) [];rw [af8] at this;exact this
 ·obtain ⟨hk,Cg|⟨hp,hx⟩⟩:=Ag f o ho
  ·obtain ⟨g,o3,hp,P6,alf,ZH,apM,zN⟩:=Cg;obtain ⟨I,cells,q1,q2,q3,q4,q5⟩:=(h.iC g o3 P6).row;refine ⟨⟨I,cells,by rw [<-alf];exact q1,q2,by rw [<-alf,<-ZH,hE hp];exact q3,by rw [<-ZH];show bA c.key e.φ _ _ _;rw [<-h.key];exact q4,λb hb=>⟨.inr ⟨f,g,hp,by rw [<-hE hp];exact hb⟩,λoff u hu=> ?_,λhc=>hc.elim⟩⟩,?_⟩
   ·obtain ⟨k1,k2⟩:=(q5 b (by rw [<-hE hp];exact hb)).2.1 off u hu;exact ⟨apM k1,by rw [<-ZH];exact k2⟩
   ·rw [hE hp];exact h.bf root cs g o3 hf P6
  ·obtain ⟨I,hI,hIc⟩:=ZS jJ f o.ty o.fb hk;refine ⟨⟨I,[],hI,hIc,⟨by rw [hx];simp,.inl ⟨by rw [hE0 hp],by rw [hx];rfl⟩⟩,by rw [hx];rfl,λb hb=> ?_⟩,?_⟩
   ·rw [hE0 hp] at hb;simp [IT] at hb
   ·rw [hE0 hp];simp [IT]
 ·obtain ⟨_,Cg|⟨hp,_⟩⟩:=Ag f o ho
  ·obtain ⟨g,o3,hp,P6,_⟩:=Cg;obtain ⟨_,Qb|⟨Hn,_⟩⟩:=Ag f' o' Li
   ·obtain ⟨g',o3',Hn,apN,_⟩:=Qb;rw [hE hp] at hk;rw [hE Hn] at PJ;have:=h.ff g g' o3 o3' k P6 apN hk PJ;subst this;exact Ch.inj _ _ _ hp Hn
   ·rw [hE0 Hn] at PJ;simp [IT] at PJ
  ·rw [hE0 hp] at hk;simp [IT] at hk
theorem TC.bo (ht:TC st [] ks cs ls ps): ∀x g,(x,g+1)∈ps-> ∃o,aQ st.bo g=some o/\g∉st.db:=by
 have key: ∀{ps0 ps:List (Nat×Nat)} {ks:List LK} {cs:List aE} {ls:List MV},TC st ps0 ks cs ls ps-> ∀x g,(x,g+1)∈ps->(x,g+1)∈ps0\/ ∃o,aQ st.bo g=some o/\g∉st.db:=by
  intro ps0 ps ks cs ls h;induction h with
  |nil=>exact λx g hm=> .inl hm
  |Oe _ ih=>exact ih
  |hs _ _ ih=>exact ih
  |p _ _ _ _ _ ih=>exact ih
  |own f ty fb g0 o ho _ _ hg _ _ ih=>
   intro x g hm;rcases ih x g hm with h|h
   ·rcases AI.1 h with h|h
    ·simp only [abB,ac8] at h;obtain ⟨rfl,rfl⟩:=h;exact .inr ⟨o,ho,hg⟩
    ·exact .inl h
   ·exact .inr h
  |yb f ty fb _ _ ih=>
   intro x g hm;rcases ih x g hm with h|h
   ·rcases AI.1 h with h|h
    ·simp at h
    ·exact .inl h
   ·exact .inr h
 intro x g hm;exact (key ht x g hm).resolve_left (by simp)
def ui (gs:List Nat)(m:List (Nat×pn)):List (Nat×pn):=m.filter λp=>!bJ gs p.1
theorem ZT (gs:List Nat)(m:List (Nat×pn))(K:List (Nat×pn)->Option R):PT gs m K=K (ui gs m):=by
 induction m generalizing K with
 |nil=>rfl
 |cons p m ih=>obtain ⟨k,o⟩:=p;simp only [PT,ui,af1];cases bJ gs k<;>simp [ih,ui]
theorem Th (gs:List Nat)(m:List (Nat×pn))(f:Nat):aQ (ui gs m) f=if bJ gs f then none else aQ m f:=by
 induction m with
 |nil=>simp [ui,aQ]
 |cons p m ih=>
  obtain ⟨k,o⟩:=p;simp only [ui,af1] at ih⊢;cases hk:bJ gs k with
  |true=>
   simp only [afG,abF,if_false,ih,aQ,eO];by_cases hkf:k=f
   ·subst hkf;simp [hk]
   ·simp [hkf]
  |false=>
   simp only [Bool.not_false,if_true,aQ,eO];by_cases hkf:k=f
   ·subst hkf;simp [hk]
   ·simp only [hkf,decide_false,cond_false];exact ih
def wW (fs:List Nat)(r:Fr):Fr:=fs.foldl (λr f=>mj f r) r
def ID (fs:List Nat)(s:Slot):Slot:=fs.foldl (λs f=>Bo f s) s
theorem adJ (fs:List Nat)(r:Fr)(K:Fr->Option R):adj fs r K=K (wW fs r):=by
 induction fs generalizing r with
 |nil=>rfl
 |cons f fs ih=>simp only [adj,Za];exact ih _
theorem Ti (fs:List Nat)(r:Fr)(t:Nat):av (wW fs r) t=ID fs (av r t):=by
 induction fs generalizing r with
 |nil=>rfl
 |cons f fs ih=>show av (wW fs (mj f r)) t=ID fs (Bo f (av r t));rw [ih,iX]
theorem Tj (fs:List Nat)(r:Fr):aU (wW fs r)=aU r:=by
 induction fs generalizing r with
 |nil=>rfl
 |cons f fs ih=>show aU (wW fs (mj f r))=_;rw [ih];simp [aU,mj]
theorem ah.alh {v:Value}{s:Slot}(fs:List Nat)(h:ah e v s):ah e v (ID fs s):=by
 induction fs generalizing s with
 |nil=>exact h
 |cons f fs ih=>exact ih (h.kill f)
theorem DN {S:Nat->Prop}(f:Nat){l:aE}(h:j0 S l):j0 (λg=>S g/\g≠f) (NO f l):=by intro g hg;refine ⟨?_,Fc f l g hg⟩;cases l<;>simp [NO] at hg;rename_i g';cases hb:BY g' f<;>simp [hb] at hg;subst hg;exact h _ rfl
theorem ZU {S T:Nat->Prop}(f:Nat){s:Slot}(h:hM S T s):hM (λg=>S g/\g≠f) T (Bo f s):=by
 cases s with
 |sc l=>exact DN f h
 |ag cs=>intro l hl;obtain ⟨x,hx,rfl⟩:=acU.1 hl;exact DN f (h x hx)
 |tg cs=>intro l hl;obtain ⟨x,hx,rfl⟩:=acU.1 hl;exact DN f (h x hx)
 |ep g i o b cs=>
  simp only [Bo];cases hb:BY g f
  ·simp only [cond_false,hM];refine ⟨h,λe=> ?_⟩;subst e;simp [eO] at hb
  ·simp only [cond_true,hM];intro g' hg';cases hg'
 |box cs=>trivial
 |_=>exact h
theorem adK {S T:Nat->Prop}(fs:List Nat){s:Slot}(h:hM S T s):hM (λg=>S g/\g∉fs) T (ID fs s):=by
 induction fs generalizing S s with
 |nil=>
  have:(λg=>S g/\g∉([]:List Nat))=S:=by funext g;simp
  rw [this];exact h
 |cons f fs ih=>
  have h2:=ih (ZU f h);have:(λg=>(S g/\g≠f)/\g∉fs)=(λg=>S g/\g∉f::fs):=by funext g;simp [and_assoc]
  rw [<-this];exact h2
def ZV (fs:List Nat)(cs:List aE):List aE:=fs.foldl (λcs f=>cs.map (NO f)) cs
theorem ZW (fs:List Nat)(cs:List aE):ID fs (.box cs)= .box (ZV fs cs):=by
 induction fs generalizing cs with
 |nil=>rfl
 |cons f fs ih=>exact ih _
theorem Gs (fs:List Nat){s:Slot}{ds:List aE}(h:ID fs s= .box ds): ∃cs,s= .box cs/\ds=ZV fs cs:=by
 induction fs generalizing s with
 |nil=>exact ⟨ds,h,rfl⟩
 |cons f fs ih=>
  obtain ⟨cs,h1,h2⟩:=ih (s:=Bo f s) h;cases s<;>simp only [Bo] at h1<;>first|(cases h1;done)|skip
  ·rename_i Hp;simp only [Slot.box.injEq] at h1;exact ⟨Hp,rfl,by rw [h2,<-h1];rfl⟩
  ·rename_i g i o b c0;cases hb:BY g f<;>simp [hb] at h1
theorem ZX {fs:List Nat}{o:Obj}{cs:List aE}(h:lc e o cs):lc e o (ZV fs cs):=by
 induction fs generalizing cs with
 |nil=>exact h
 |cons f fs ih=>exact ih (h.map (λ_ _=>aX.kill f) (λ_ _=>rfl))
theorem adL {S:Nat->Prop}(fs:List Nat){cs:List aE}(h: ∀l∈cs,j0 S l): ∀l∈ZV fs cs,j0 (λg=>S g/\g∉fs) l:=by
 induction fs generalizing S cs with
 |nil=>
  have:(λg=>S g/\g∉([]:List Nat))=S:=by funext g;simp
  rw [this];exact h
 |cons f fs ih=>
  have h2:=ih (S:=λg=>S g/\g≠f) (cs:=cs.map (NO f)) (λl hl=>by obtain ⟨x,hx,rfl⟩:=acU.1 hl;exact DN f (h x hx));have:(λg=>(S g/\g≠f)/\g∉fs)=(λg=>S g/\g∉f::fs):=by funext g;simp [and_assoc]
  rw [<-this];exact h2
theorem WI (fs:List Nat)(cs:List aE):mC (ZV fs cs)=mC cs:=by
 induction fs generalizing cs with
 |nil=>rfl
 |cons f fs ih=>exact (ih _).trans (SO f cs)
theorem Tk {fs:List Nat}{m:List (Nat×pn)}(h:PU fs m=false): ∀f∈fs,aQ m f=none:=by
 induction fs with
 |nil=>simp
 |cons f fs ih=>
  intro g hg;unfold PU at h;cases ho:aQ m f with
  |some o=>simp [ho] at h
  |none=>
   simp only [ho] at h;rcases AI.1 hg with rfl|hg
   ·exact ho
   ·exact ih h g hg
theorem Tl {l k:List Nat}(h:meets l k=false): ∀f∈l,f∉k:=by
 induction l with
 |nil=>simp
 |cons x l ih=>
  intro g hg;unfold meets at h;cases hx:bJ k x with
  |true=>simp [hx] at h
  |false=>
   simp only [hx,cond_false] at h;rcases AI.1 hg with rfl|hg
   ·intro hm;rw [(bL k g).2 hm] at hx;cases hx
   ·exact ih h g hg
theorem Qr {ps:List (Nat×Nat)}{g:Nat}:g∈lQ ps↔ ∃x,(x,g+1)∈ps:=by
 induction ps with
 |nil=>simp [lQ]
 |cons p ps ih=>
  obtain ⟨x,y⟩:=p;cases y with
  |zero=>
   simp only [lQ,ih];constructor
   ·rintro ⟨z,hz⟩;exact ⟨z,by simp [hz]⟩
   ·rintro ⟨z,hz⟩;rcases AI.1 hz with hz|hz
    ·simp at hz
    ·exact ⟨z,hz⟩
  |succ y=>
   simp only [lQ,AI,ih];constructor
   ·rintro (rfl|⟨z,hz⟩)
    ·exact ⟨x,by simp⟩
    ·exact ⟨z,by simp [hz]⟩
   ·rintro ⟨z,hz⟩;rcases hz with hz|hz
    ·simp only [abB,ac8] at hz;exact .inl hz.2
    ·exact .inr ⟨z,hz⟩
theorem mI {ks:List LK}: ∀{R:Type} {r:R} {st:St} {ms:List MV} {K':List aE->List MV->St->Option R},dh st ks ms K'=some r-> ∃cs rest bZ,(∀{R':Type} (K2:List aE->List MV->St->Option R'),dh st ks ms K2=K2 cs rest bZ)/\K' cs rest bZ=some r:=by
 induction ks with
 |nil=>intro R r st ms K' h;exact ⟨[],ms,st,λ_=>rfl,h⟩
 |cons k ks ih=>
  intro R r st ms K' h;cases ms with
  |nil=>simp [dh,gC] at h
  |cons m ms=>
   simp only [dh,gC] at h;cases k with
   |k x=>simp only [kZ] at h;obtain ⟨l,h0,h⟩:=Bu h;obtain ⟨cs,rest,bZ,h1,h⟩:=ih h;refine ⟨l::cs,rest,bZ,λK2=> ?_,h⟩;simp only [dh,gC,kZ,IA h0];exact h1 _
   |own f ty fb=>
    unfold kZ gL at h;cases m<;>simp only at h<;>try (cases h;done)
    rename_i xs;obtain ⟨p,q,fr,n⟩:=st;simp only [pz] at h;obtain ⟨cs,rest,bZ,h1,h⟩:=ih h;refine ⟨.own f::cs,rest,bZ,λK2=> ?_,h⟩;simp only [dh,gC,kZ,gL,pz];exact h1 _
theorem WJ (m n:List (Nat×pn))(f:Nat):aQ (m++n) f=match aQ m f with|some o=>some o|none=>aQ n f:=by
 induction m with
 |nil=>rfl
 |cons p m ih=>obtain ⟨k,o⟩:=p;simp only [abG,aQ,eO];by_cases h:k=f<;>simp [h,ih]
theorem Of {ks:List LK}: ∀{st:St} {ms:List MV} {cs:List aE} {rest:List MV} {bZ:St},(∀{R':Type} (K2:List aE->List MV->St->Option R'),dh st ks ms K2=K2 cs rest bZ)-> ∀f o,aQ bZ.bo f=some o->aQ st.bo f=some o\/f∈cB ks:=by
 induction ks with
 |nil=>intro st ms cs rest bZ h f o ho;have:=h (λa b c=>some c);simp only [dh,AT] at this;subst this;exact .inl ho
 |cons k ks ih=>
  intro st ms cs rest bZ h f o ho;have h0:=h (λa b c=>some (a,b,c));obtain ⟨qw,as4,ef,h1,h2⟩:=mI h0;clear h1;cases ms with
  |nil=>simp [dh,gC] at h0
  |cons m ms=>
   cases k with
   |k x=>simp only [dh,gC,kZ] at h0;obtain ⟨l,h3,h4⟩:=Bu h0;obtain ⟨xJ,ZY,pC,h5,h6⟩:=mI h4;simp only [AT,abB] at h6;obtain ⟨_,_,rfl⟩:=h6;exact ih h5 f o ho
   |own f' ty fb=>
    simp only [dh,gC] at h0;unfold kZ gL at h0;cases m<;>simp only at h0<;>try (cases h0;done)
    rename_i xs;obtain ⟨p,q,fr,n⟩:=st;simp only [pz] at h0;obtain ⟨xJ,ZY,pC,h5,h6⟩:=mI h0;simp only [AT,abB] at h6;obtain ⟨_,_,rfl⟩:=h6;rcases ih h5 f o ho with h7|h7
    ·have h7:aQ (cb n f' ⟨ty,fb,xs⟩) f=some o:=h7;rw [bx] at h7;by_cases ga:f=f'
     ·subst ga;exact .inr (by simp [cB])
     ·rw [if_neg ga] at h7;exact .inl h7
    ·exact .inr (by simp [cB,h7])
end
end Dn
/-
  Calls that are handed a variable. Conditions: none.
-/
namespace Dn
open Go
theorem IE {ks:List LK}: ∀{st:St} {ms:List MV} {cs:List aE} {rest:List MV} {bZ:St},(∀{R':Type} (K2:List aE->List MV->St->Option R'),dh st ks ms K2=K2 cs rest bZ)-> ∀l∈cs,j0 (λf=>f∈cB ks) l:=by
 induction ks with
 |nil=>intro st ms cs rest bZ h l hl;have:=h (λa b c=>some a);simp only [dh,AT] at this;subst this;simp at hl
 |cons k ks ih=>
  intro st ms cs rest bZ h l hl;have h0:=h (λa b c=>some (a,b,c));cases ms with
  |nil=>simp [dh,gC] at h0
  |cons m ms=>
   cases k with
   |k x=>
    simp only [dh,gC,kZ] at h0;obtain ⟨l0,h3,h4⟩:=Bu h0;obtain ⟨xJ,ZY,pC,h5,h6⟩:=mI h4;simp only [AT,abB] at h6;obtain ⟨rfl,_,_⟩:=h6;rcases AI.1 hl with rfl|hl
    ·obtain ⟨l2,hs,hk⟩:=oN (e:=⟨λn=>n,λ_ _=>none,λ_=>undef,λ_=>0,[]⟩) (vs:=[]) h3;cases hk;exact Ic hs.Yy
    ·exact ih h5 l hl
   |own f' ty fb=>
    simp only [dh,gC] at h0;unfold kZ gL at h0;cases m<;>simp only at h0<;>try (cases h0;done)
    rename_i xs;obtain ⟨p,q,fr,n⟩:=st;simp only [pz] at h0;obtain ⟨xJ,ZY,pC,h5,h6⟩:=mI h0;simp only [AT,abB] at h6;obtain ⟨rfl,_,_⟩:=h6;rcases AI.1 hl with rfl|hl
    ·intro f hf;cases hf;simp [cB]
    ·intro f hf;have:=ih h5 l hl f hf;simp [cB,this]
section
variable {P:Program}{c:Ctx}{Z:bI} {Z':Nat->Prop} {e e':Env}{st bZ:St}{a:Act} {w w':World}{R:Type}{K:St->Option R}{r:R}{Q:Exit->Act->World->Prop}{o:Oper}{root:Nat}{cs:List aE}{ks:List LK}{ls outs:List MV}{ps:List (Nat×Nat)} {φ':Ph}
theorem Qs {fr:Fr}(fs:List Nat){s:Slot}(h:dc fr s):dc fr (ID fs s):=by
 induction fs generalizing s with
 |nil=>exact h
 |cons f fs ih=>
  refine ih ?_;cases s with
  |ep g i o b cs=>simp only [Bo];cases BY g f<;>trivial
  |ptr=>exact h
  |hp=>exact h
  |zT=>exact h
  |_=>trivial
theorem Tn (fs:List Nat){s:Slot}(h:dy s=true):dy (ID fs s)=true:=by
 induction fs generalizing s with
 |nil=>exact h
 |cons f fs ih=>refine ih (s:=Bo f s) ?_;rw [Fm];exact h
theorem Og (h:b9 c Z e st a w)(hf:av st.fr root= .box cs)(hr:bJ st.cI root=false)(ht:TC st [] ks cs ls ps): ∀b,gone e root ps b->Z.In b:=by
 have hs:=h.slot root;rw [hf] at hs;intro b hb;rcases hb with rfl|⟨x,g,hp,hb⟩
 ·exact Sp hs.2.cS (by rw [<-h.defers.2.1,<-bL,hr];simp)
 ·obtain ⟨o,ho,hg⟩:=ht.bo x g hp;obtain ⟨I,cells,_,_,_,_,h5⟩:=(h.iC g o ho).row;exact Sp (h5 b hb).1 (by rw [<-h.defers.2.2.1];exact hg)
theorem ZZ (h:b9 c Z e st a w)(hf:av st.fr root= .box cs)(hm:iW cs=false)(hr:bJ st.cI root=false)(ht:TC st [] ks cs ls ps)(hZ: ∀b,Z' b↔w.heap.size<=b\/gone e root ps b)(E1:Trans Z' e.φ w φ' w')(hi:qy φ' w')(hc:gz c Z' φ' w' (e.B root) ks outs)(hK:Y0 st root ks ps outs K=some r): ∃e' bZ,b9 c Z e' bZ a w'/\e'.φ=φ'/\K bZ=some r:=by
 unfold Y0 at hK;obtain ⟨qw,rest,H4,g1,hK⟩:=mI hK;cases rest with
 |cons=>simp [gN] at hK
 |nil=>
 simp only [gN,ZT] at hK;cases wX:PU (cB ks) (ui (lQ ps) st.bo)||meets (cB ks) st.db with
 |true=>simp [wX] at hK
 |false=>
 simp only [wX,cond_false,adJ,rj,z7] at hK;obtain ⟨ahw,Z4⟩:=OF.1 wX;have ahw:=Tk ahw;have Z4:=Tl Z4;obtain ⟨xJ,m3,E,arr,T,IF,fG,hzb,qC,tF,jK,ga⟩:=hc;have j6:xJ=qw/\m3=H4.bo:=by unfold Iv at IF;rw [g1] at IF;simp only [gN,AT,abB] at IF;exact ⟨IF.1.symm,IF.2.symm⟩
 obtain ⟨rfl,rfl⟩:=j6;have eW:=IE g1;have iy: ∀f o,aQ H4.bo f=some o->f∈cB ks:=λf o ho=>(Of g1 f o ho).resolve_left (by simp [aQ]);have hs:=h.slot root;rw [hf] at hs;have qB: ∀b,Z' b->Z.In b:=by
  intro b hb;rcases (hZ b).1 hb with hb|hb
  ·exact h.cS b hb
  ·exact Og h hf hr ht b hb
 have af0: ∀t kR,av st.fr t= .box kR->t≠root-> ¬Z' (e.B t):=by
  intro t kR htb di hz;rcases (hZ _).1 hz with hz|hz|⟨x,g,hp,hz⟩
  ·have:=Fp h htb;omega
  ·exact h.bb t root kR cs htb hf di hz
  ·obtain ⟨o,ho,_⟩:=ht.bo x g hp;exact h.bf t kR g o htb ho hz
 have hold: ∀f o,aQ (ui (lQ ps) st.bo) f=some o->aQ st.bo f=some o/\f∉lQ ps:=by
  intro f o ho;rw [Th] at ho;cases hn:bJ (lQ ps) f with
  |true=>simp [hn] at ho
  |false=>simp only [hn,abF,if_false] at ho;exact ⟨ho,λhm=>by rw [(bL _ _).2 hm] at hn;cases hn⟩
 have Vk: ∀f o b,aQ (ui (lQ ps) st.bo) f=some o->(e.E f).ownBlock=some b-> ¬Z' b:=by
  intro f o b ho hb hz;obtain ⟨Li,hnf⟩:=hold f o ho;rcases (hZ _).1 hz with hz|hz|⟨x,g,hp,hz⟩
  ·have:=Fq h Li hb;omega
  ·exact h.bf root cs f o hf Li (by rw [hb,hz])
  ·obtain ⟨o2,cU,_⟩:=ht.bo x g hp;have:=h.ff f g o o2 b Li cU hb hz;subst this;exact hnf (Qr.2 ⟨x,hp⟩)
 let E2:Nat->Value:=λf=>if bJ (cB ks) f=true then E f else e.E f
 have Gn: ∀f,f∈cB ks->E2 f=E f:=λf hf=>by show (if _ then _ else _)=_;rw [if_pos ((bL _ _).2 hf)]
 have hE3: ∀f,f∉cB ks->E2 f=e.E f:=λf hf=>by show (if _ then _ else _)=_;rw [if_neg (λhq=>hf ((bL _ _).1 hq))]
 have ug: ∀f o,aQ (H4.bo++ui (lQ ps) st.bo) f=some o->(f∈cB ks/\aQ H4.bo f=some o)\/(f∉cB ks/\aQ (ui (lQ ps) st.bo) f=some o):=by
  intro f o ho;rw [WJ] at ho;cases hq:aQ H4.bo f with
  |some o2=>simp only [hq,AT] at ho;exact .inl ⟨iy f o2 hq,by rw [ho]⟩
  |none=>simp only [hq] at ho;refine .inr ⟨λhm=> ?_,ho⟩;rw [ahw f hm] at ho;cases ho
 let e2:Env:=⟨e.key,φ',E2,e.B,H4.bo++ui (lQ ps) st.bo⟩
 have uX:mF (λg=>True/\g∉cB ks) (λ_=>True) e e2:=by
  refine ⟨rfl,E1.ph,λ_ _=>rfl,λf o' Li hS=> ?_⟩;rcases ug f o' Li with ⟨h1,_⟩|⟨h1,h2⟩
  ·exact absurd h1 hS.2
  ·exact ⟨o',by rw [h.m];exact (hold f o' h2).1,hE3 f h1,rfl⟩
 have alj:ay e2 arr.toList xJ:=by
  have apP:mF (λf=>f∈cB ks) (λ_=>True) ⟨c.key,φ',E,λ_=>e.B root,H4.bo⟩ ⟨c.key,φ',E2,λ_=>e.B root,H4.bo++ui (lQ ps) st.bo⟩:=by
   refine ⟨rfl,.refl _,λ_ _=>rfl,λf o' Li hS=> ?_⟩;rcases ug f o' Li with ⟨h1,h2⟩|⟨h1,_⟩
   ·exact ⟨o',h2,Gn f h1,rfl⟩
   ·exact absurd hS h1
  have h1:=tF.on apP eW;have apQ:mF (λ_=>True) (λ_=>False) ⟨c.key,φ',E2,λ_=>e.B root,H4.bo++ui (lQ ps) st.bo⟩ e2:=⟨h.key,.refl _,λ_ h=>h.elim,λf o ho _=>⟨o,ho,rfl,rfl⟩⟩
  exact h1.on apQ (λ_ _ _ _=>trivial)
 have hm3:iW xJ=false:=alj.Ce;have hgt: ∀t,av (dt (wW (cB ks) st.fr) root (.box xJ)) t=if t=root then .box xJ else ID (cB ks) (av st.fr t):=λt=>by rw [cj,Ti]
 have Oh: ∀t ds,av (dt (wW (cB ks) st.fr) root (.box xJ)) t= .box ds-> ∃ds0,av st.fr t= .box ds0:=by
  intro t ds hb;rw [hgt] at hb;by_cases E1:t=root
  ·exact ⟨cs,by rw [E1];exact hf⟩
  ·rw [if_neg E1] at hb;obtain ⟨d0,h1,_⟩:=Gs _ hb;exact ⟨d0,h1⟩
 refine ⟨e2,⟨st.cI,st.db,dt (wW (cB ks) st.fr) root (.box xJ),H4.bo++ui (lQ ps) st.bo⟩,⟨h.defers,h.size,rfl,h.key,?_,?_,?_,?_,?_,?_,?_,hi,λb hb=>h.cS b (adr E1.size hb)⟩,rfl,hK⟩
 ·show (aU (dt (wW (cB ks) st.fr) root (.box xJ))).Nodup;refine iN ?_;rw [Tj];exact h.nodup
 ·intro t;show cn Z e2 w' t _ (av (dt (wW (cB ks) st.fr) root (.box xJ)) t);rw [hgt];by_cases Oi:t=root
  ·subst Oi;rw [if_pos rfl];exact ⟨hs.1.mC (by rw [DE hm,DE hm3]),hs.2.cS,⟨_,fG,rfl,alj⟩,qC⟩
  ·rw [if_neg Oi];have iF:=h.slot t;have hnb:=af0 t;generalize av st.fr t=s at iF hnb;by_cases NZ: ∃ds,s= .box ds
   ·obtain ⟨ds,rfl⟩:=NZ;rw [ZW];have hz:=hnb ds rfl Oi;obtain ⟨o2,h1,h2⟩:=iF.2.obj;refine ⟨iF.1.mC (WI _ _),iF.2.cS,⟨o2,by show w'.heap[e.B t]? =_;rw [E1.heap _ hz (aZ h1)];exact h1,?_⟩,λoff=>by show φ' (e.B t) off=none;rw [E1.free _ off hz];exact iF.2.free off⟩;exact (ZX h2).on uX (adL _ (λl _ f _=>trivial))
   ·have apR:ah e (a.tmps.getD t undef) s:=by cases s<;>simp only [cn] at iF<;>first|exact iF|exact absurd ⟨_,rfl⟩ NZ
    have h2:=(apR.alh (cB ks)).on uX (adK _ (eX s));have alk: ∀ds,ID (cB ks) s≠ .box ds:=λds hq=>by obtain ⟨d0,h1,_⟩:=Gs _ hq;exact NZ ⟨d0,h1⟩
    generalize ID (cB ks) s=s2 at h2 alk;cases s2<;>first|exact h2|exact absurd rfl (alk _)
 ·intro t;show dc (dt (wW (cB ks) st.fr) root (.box xJ)) (av (dt (wW (cB ks) st.fr) root (.box xJ)) t);have S7: ∀q,dy (av st.fr q)=true->dy (av (dt (wW (cB ks) st.fr) root (.box xJ)) q)=true:=by
   intro q hq;rw [hgt];by_cases hqr:q=root
   ·rw [if_pos hqr];rfl
   ·rw [if_neg hqr];exact Tn _ hq
  rw [hgt];by_cases Oi:t=root
  ·rw [if_pos Oi];trivial
  ·rw [if_neg Oi];refine Qs _ ?_;have sM:=h.root t;generalize av st.fr t=s at sM;cases s with
   |ptr q o=>exact S7 q sM
   |hp q o i=>exact S7 q sM
   |zT q=>exact S7 q sM
   |_=>trivial
 ·intro f o ho;rcases ug f o ho with ⟨h1,h2⟩|⟨h1,h2⟩
  ·have hfm:=(jK f o h2).1;have zN:f∉Z.db:=by rw [<-h.defers.2.2.1];exact Z4 f h1
   refine cT.to ?_ zN;obtain ⟨I,cells,q1,q2,q3,q4,q5⟩:=hfm.row;refine ⟨I,cells,q1,q2,?_,?_,λb hb=> ?_⟩
   ·show w'.ownsRow 0 o.ty I.size (E2 f) o.xs.length cells;rw [Gn f h1];exact q3
   ·show bA e.key φ' I.size cells o.xs;rw [h.key];exact q4
   ·have hb:(E2 f).ownBlock=some b:=hb;rw [Gn f h1] at hb;exact ⟨qB b (q5 b hb).1,(q5 b hb).2.1,λhc=>hc.elim⟩
  ·obtain ⟨Li,hnf⟩:=hold f o h2;obtain ⟨I,cells,q1,q2,q3,q4,q5⟩:=(h.iC f o Li).row;refine ⟨I,cells,q1,q2,?_,q4.mono E1.ph,?_⟩
   ·show w'.ownsRow 0 o.ty I.size (E2 f) o.xs.length cells;rw [hE3 f h1];refine ⟨q3.1,?_⟩;rcases q3.2 with h6|⟨g,cap,fI,k1,k2,k3,k4⟩
    ·exact .inl h6
    ·refine .inr ⟨g,cap,fI,k1,k2,?_,k4⟩;rw [E1.heap g (Vk f o g h2 (by rw [k1];rfl)) (aZ k3)];exact k3
   ·intro bt hb;have hb:(E2 f).ownBlock=some bt:=hb;rw [hE3 f h1] at hb;refine ⟨(q5 bt hb).1,λoff u hu=>(q5 bt hb).2.1 off u ?_,λk1 k2 j hj=>E1.ph.Bn ((q5 bt hb).2.2 k1 k2 j hj) hj⟩;have hu:φ' bt off=some u:=hu;rw [E1.free _ off (Vk f o bt h2 hb)] at hu;exact hu
 ·intro t t' c1 c2 h1 h2 di;obtain ⟨d1,k1⟩:=Oh t c1 h1;obtain ⟨d2,k2⟩:=Oh t' c2 h2;exact h.bb t t' d1 d2 k1 k2 di
 ·intro t c1 f o h1 h2;show (E2 f).ownBlock≠some (e.B t);rcases ug f o h2 with ⟨k1,k2⟩|⟨k1,k2⟩
  ·rw [Gn f k1];by_cases Oi:t=root
   ·rw [Oi];exact (jK f o k2).2
   ·obtain ⟨d1,k3⟩:=Oh t c1 h1;intro hq;obtain ⟨I,cells,_,_,_,_,q5⟩:=(jK f o k2).1.row;exact af0 t d1 k3 Oi (q5 _ hq).1
  ·rw [hE3 f k1];obtain ⟨d1,k3⟩:=Oh t c1 h1;exact h.bf t d1 f o k3 (hold f o k2).1
 ·intro f f' o o' k h1 h2 h3 h4;have h3:(E2 f).ownBlock=some k:=h3;have h4:(E2 f').ownBlock=some k:=h4;rcases ug f o h1 with ⟨k1,k2⟩|⟨k1,k2⟩<;>rcases ug f' o' h2 with ⟨k3,k4⟩|⟨k3,k4⟩
  ·rw [Gn f k1] at h3;rw [Gn f' k3] at h4;exact ga f f' o o' k k2 k4 h3 h4
  ·rw [Gn f k1] at h3;rw [hE3 f' k3] at h4;obtain ⟨I,cells,_,_,_,_,q5⟩:=(jK f o k2).1.row;exact absurd (q5 _ h3).1 (Vk f' o' k k4 h4)
  ·rw [hE3 f k1] at h3;rw [Gn f' k3] at h4;obtain ⟨I,cells,_,_,_,_,q5⟩:=(jK f' o' k4).1.row;exact absurd (q5 _ h4).1 (Vk f o k k2 h3)
  ·rw [hE3 f k1] at h3;rw [hE3 f' k3] at h4;exact h.ff f f' o o' k (hold f o k2).1 (hold f' o' k4).1 h3 h4
end
end Dn
/-
  The operation of a call that is handed a variable. Conditions: none.
-/
namespace Dn
open Go
section
variable {P:Program}{c:Ctx}{Z:bI} {Z':Nat->Prop} {e e':Env}{st bZ:St}{a:Act} {w w':World}{R:Type}{K:St->Option R}{r:R}{Q:Exit->Act->World->Prop}{o:Oper}
theorem bV.length {key:Nat->Nat} {φ:Ph}{ms:List MV}: ∀{vs:List Value},bV key φ vs ms->vs.length=ms.length:=by
 induction ms with
 |nil=>intro vs h;cases h;rfl
 |cons m ms ih=>intro vs h;obtain ⟨v,u,rfl,_,h2⟩:=h;simp [ih h2]
theorem Z5 {cl:Call}{g:List MV->Option MV}{pos:Nat}{ks:List LK}{oI:Option TI}{gv:Bool}(hS:Sound P c)(hg1:gv=true-> ∀ms x,g ms=some x-> ∃f:Nat,c.g (c.key f) ms=some x/\c.fF (c.key f)=true/\c.sig (c.key f)=some (pos,ks)/\(execOp a.eval o).run P w=(callFunc f (cl.args.map a.eval)).run P w)(h:b9 c Z e st a w)(hK:Y1 c gv g pos ks st (lq c st cl.args.toList) oI (λs st=>bC c st o.dst s K)=some r): gv=true/\o.wp P a w (λa' w'=>Out c Z K r e.φ w a' w') Q:=by
 unfold Y1 at hK;obtain ⟨vs,Bq⟩: ∃vs,vs=cl.args.toList.map a.eval:=⟨_,rfl⟩
 have hlen:vs.length=(lq c st cl.args.toList).length:=by rw [Bq];simp [j7]
 have ic: ∀(i:Nat) (v:Value) (s:Slot),vs[i]? =some v->(lq c st cl.args.toList)[i]? =some s->ah e v s:=by rw [Bq];exact bV.map h
 generalize lq c st cl.args.toList=ss at hK hlen ic;split at hK
 ·rename_i root off iY;have avs:pos<ss.length:=(abJ.1 iY).1;obtain ⟨v,hv⟩: ∃v,vs[pos]? =some v:=⟨vs[pos]'(by omega),No (by omega)⟩
  have hvp:v= .pointer (some ⟨e.B root,off,none⟩):=ic pos v _ hv iY;have CY:vs=vs.take pos++v::vs.drop (pos+1):=by
   conv=>lhs;rw [<-aeg pos vs]
   rw [List.drop_eq_getElem_cons (by omega)];have:=abJ.1 hv;obtain ⟨_,Gg⟩:=this;rw [Gg]
  obtain ⟨e1,cR,m1,h1,x1,Fl,r1,nX⟩:=s8 h ⟨λ_=>vs.take pos,rfl,by simp only [af5];omega,λi u s hu hs=>by
   rw [afO] at hu hs;split at hu
   ·rename_i hi;rw [if_pos hi] at hs;exact ic i u s hu hs
   ·cases hu⟩ hK
  obtain ⟨e2,ef,m2,h2,x2,adu,r2,xI⟩:=s8 h1 ⟨λ_=>vs.drop (pos+1),rfl,by simp only [List.length_drop];omega,λi u s hu hs=>by rw [List.getElem?_drop] at hu hs;exact (ic _ u s hu hs).on x1.on (eX s)⟩ nX;split at xI
  ·rename_i cs hf;cases wX:iW cs||bJ ef.cI root||!kp c ks||!gv with
   |true=>simp [wX] at xI
   |false=>
   simp only [wX,cond_false] at xI;simp only [OF,acW] at wX;obtain ⟨⟨⟨hm,hr⟩,jJ⟩,hg⟩:=wX;obtain ⟨ls,ps,ht,Qf⟩:=IC xI;simp only [z7] at Qf;obtain ⟨x,hx,hK4⟩:=nj Qf;unfold gW at hK4;split at hK4;rotate_left
   ·simp at hK4
   rename_i r0 outs;have hB:e2.B root=e.B root:=(x2.on.B root trivial).trans (x1.on.B root trivial);let Z2:Nat->Prop:=λb=>w.heap.size<=b\/gone e2 root ps b;have NV:m1.length=pos:=by rw [<-r1.length,af5];omega
   have alm:e2.key=c.key:=h2.key;obtain ⟨f,hx,hg0,Hq,cr⟩:=hg1 hg _ _ hx;have gl:fJ c Z2 e2.φ w (c.key f) vs (m1++ .cell (.func off ls)::m2):=by
    simp only [fJ,hg0,if_true];refine .inr (.inr ⟨pos,ks,off,ls,e2.B root,Hq,by rw [hv,hvp,hB],by rw [ac4 (by omega),NV];simp,?_,(Qq h2 hf hm jJ ht).wide λb hb=> .inr hb⟩);rw [List.set_append_right _ _ (by omega),NV,Nat.sub_self,List.set_cons_zero,CY];refine bV.append ?_ ⟨v,vs.drop (pos+1),rfl,?_,?_⟩
    ·have:=r1.mono x2.on.φ;rw [h1.key] at this;exact this
    ·rw [hvp];exact ⟨rfl,.rp (e.B root) off [] [] .nil (by simp)⟩
    ·rw [<-alm];exact r2
   have Ai:=hS f _ _ hx e2.φ w Z2 vs (λb hb=> .inl hb) gl h2.kP;refine ⟨hg,?_⟩;have E3:vs.toArray=cl.args.map a.eval:=by rw [Bq,<-ac9,ac3]
   refine Ah ?_ Ai ?_
   ·rw [E3];exact cr
   ·rintro v' w' ⟨φ',t1,t2,po,pos',K9,bt,SH,zb,Sq,hc⟩;rw [Hq] at zb;simp only [AT,abB] at zb;obtain ⟨rfl,rfl⟩:=zb;rw [hv,hvp] at Sq;simp only [AT,ags,Addr.mk.injEq] at Sq;have lT:bt=e2.B root:=by rw [<-Sq.1,hB]
    subst lT;obtain ⟨e3,pC,h3,hφ3,hK5⟩:=ZZ h2 hf hm hr ht (λb=>Iff.rfl) t1 t2 hc hK4;have E1:Trans Z e.φ w φ' w':=by
     have t0:Trans Z e2.φ w φ' w':=by have qB: ∀b,Z2 b->Z.In b:=λb hb=>hb.elim (h2.cS b) (Og h2 hf hr ht b);exact ⟨t1.ph,λb hb=>t1.heap b (λhz=>hb (qB b hz)),λb o hb=>t1.free b o (λhz=>hb (qB b hz)),t1.size,t1.rest⟩
     exact (x1.tr.trans x2.tr).trans t0
    cases oI with
    |none=>simp only at hK5;obtain ⟨e4,Z6,q1,q2,q3⟩:=dz (v:=v') (s:= .sc .un) h3 (.of (by simp [ah]) trivial) hK5;exact ⟨e4,Z6,q1,by rw [q3,hφ3];exact E1,q2⟩
    |some I=>simp only at hK5;obtain ⟨s,g1,g2,To⟩:=xX (e:=e3) (st:=pC) h3.key (by rw [hφ3];exact po) hK5;obtain ⟨e4,Z6,q1,q2,q3⟩:=dz h3 (.of g1 g2) To;exact ⟨e4,Z6,q1,by rw [q3,hφ3];exact E1,q2⟩
  ·simp at xI
 ·simp at hK
theorem adO {cl:Call}{f pos:Nat}{ks:List LK}{oI:Option TI}(hS:Sound P c)(Hq:c.sig (c.key f)=some (pos,ks))(ho:o.op= .call cl)(rl:cl.callee= .value (.func f))(h:b9 c Z e st a w)(hK:afL c (c.key f) pos ks st (lq c st cl.args.toList) oI (λs st=>bC c st o.dst s K)=some r): c.fF (c.key f)=true/\o.wp P a w (λa' w'=>Out c Z K r e.φ w a' w') Q:=Z5 hS (λhg ms x hx=>⟨f,hx,hg,Hq,by simp [execOp,ho,resolve,rl,Act.eval,aea,invoke]⟩) h hK
end
end Dn
/-
  Every operation. Conditions: none.
-/
namespace Dn
open Go
section
variable {P:Program}{c:Ctx} {Z Z':bI} {e e':Env}{st:St}{a:Act} {w w':World}{R:Type}{K:St->Option R}{r:R}{Q:Exit->Act->World->Prop}{o:Oper}
structure Good (P:Program) (c:Ctx):Prop where
 ti:kq P c.ti
 eq:NU P c.ti
 fn:Sound P c
 fk: ∀t k,c.fk t=some k->P.underlying t=some (.float k)
 mt:xZ P c
def Tp (c:Ctx)(o:Oper):Option MS:=match CM o with|some t=>we c t|none=>none
def fK (c:Ctx)(o:Oper) (w w':World):Prop:=match Tp c o with|some s=>ze s w w'|none=>dN w w'
theorem dN.trans' {w w' Bp:World}(h:dN w w') (h':dN w' Bp):dN w Bp:=⟨adr h.size h'.size,λb hb=>(h'.qA b (Nat.lt_of_lt_of_le hb h.size)).trans (h.qA b hb),h.rest.trans h'.rest⟩
theorem dN.for {w w':World}(h:dN w w'):fK c o w w':=by
 unfold fK;split
 ·exact h.m _
 ·exact h
theorem fK.trans {w w' Bp:World}(h:fK c o w w') (h':fK c o w' Bp):fK c o w Bp:=by
 unfold fK at *;split at h
 ·rename_i s hs;simp only [hs] at h'⊢;exact ze.trans h h'
 ·rename_i hs;simp only [hs] at h'⊢;exact dN.trans' h h'
inductive qN (P:Program) (c:Ctx) (Z:bI) {R:Type} (K:St->Option R) (r:R) (e:Env) (a:Act) (w:World) (o:Oper) (Q:Exit->Act->World->Prop):Prop
 |rd:(mi c o=false/\jC c o=false)->Rd P c Z K r e a w o (λ_=>True)->qN P c Z K r e a w o Q
 |ld:(mi c o=true/\jC c o=false)->qy e.φ w->Rd P c Z K r e a w o (λw'=>(still c o=false->fK c o w w')/\qy e.φ w')->qN P c Z K r e a w o Q
 |gr:(kE o=false\/jC c o=true)->o.wp P a w (λa' w'=>dN w w'/\Out c Z K r e.φ w a' w') Q->qN P c Z K r e a w o Q
 |cl (f:Nat):(kE o=false/\DB c o=!c.fF (c.key f))->o.wp P a w (λa' w'=>(c.fF (c.key f)=false->dN w w')/\Out c Z K r e.φ w a' w') Q->qN P c Z K r e a w o Q
 |an:(kE o=false/\DB c o=false)->o.wp P a w (Out c Z K r e.φ w) Q->qN P c Z K r e a w o Q
 |me (t:Nat) (s:MS):Y4 o=some t->we c t=some s->(kE o=false/\DB c o=false)->o.wp P a w (λa' w'=>ze s w w'/\Out c Z K r e.φ w a' w') Q->qN P c Z K r e a w o Q
theorem Tq (hG:Good P c)(h:b9 c Z e st a w)(hK:opK c o st (λs st=>bC c st o.dst s K)=some r):qN P c Z K r e a w o Q:=by
 have hT:=hG.ti;unfold opK at hK;split at hK
 ·rename_i ho;exact .rd ⟨by simp [mi,ni, *],by simp [jC, *]⟩ (NT (.inl ho) h hK)
 ·rename_i x ho;cases hm:jC c o with
  |true=>exact .gr (.inr hm) (adH ho h hK)
  |false=>
   refine .rd ⟨by simp [mi,ni, *],hm⟩ (NT (.inr ho) h ?_);unfold HI at hK;unfold jC at hm;rw [ho] at hm;split at hK
   ·rename_i t q hq;rw [hq] at hm;simp at hm
   ·exact hK
 ·rename_i t ho;cases hs:we c t with
  |none=>simp [hs] at hK
  |some s=>simp only [hs] at hK;exact .an (by simp [kE,DB, *]) (Te ho (Vi hs) h hK)
 ·rename_i t m k ho;unfold afJ at hK;cases hs:we c t with
  |none=>simp [hs] at hK
  |some s=>simp only [hs] at hK;obtain ⟨v,h1,h2⟩:=WE ho (hG.mt t s hs) h hK;refine .ld ⟨by simp [mi,ni,ho],by simp [jC,ho]⟩ h.kP ⟨v,λw' hw=>h1 w' ?_,h2⟩;have:=hw.1 (by simp [still,ho]);simpa [fK,Tp,CM,ho,hs] using this
 ·rename_i t m k v ho;unfold afK at hK;cases hs:we c t with
  |none=>simp [hs] at hK
  |some s=>simp only [hs] at hK;exact .an (by simp [kE,DB, *]) (Oa ho (hG.mt t s hs) h hK)
 ·rename_i t m k ho;unfold YY at hK;cases hs:we c t with
  |none=>simp [hs] at hK
  |some s=>simp only [hs] at hK;exact .me t s (by simp [Y4,ho]) hs (by simp [kE,DB, *]) (Gr ho (hG.mt t s hs) h hK)
 ·rename_i t m i v ho;unfold akA at hK;cases hs:we c t with
  |none=>simp [hs] at hK
  |some s=>simp only [hs] at hK;exact .an (by simp [kE,DB, *]) (Ls (t:=t) ho h hK)
 ·rename_i ho;exact .rd ⟨by simp [mi,ni, *],by simp [jC, *]⟩ (P4 ho h hK)
 ·rename_i ho;exact .rd ⟨by simp [mi,ni, *],by simp [jC, *]⟩ (adm ho h hK)
 ·rename_i t ho;cases hI:c.tv t with
  |none=>simp [hI] at hK
  |some I=>simp only [hI] at hK;exact .gr (.inl (by simp [kE, *])) (Zq ho hI hT h hK)
 ·rename_i t x ho;cases hI:c.tv t with
  |none=>simp [hI] at hK
  |some I=>simp only [hI] at hK;exact .gr (.inl (by simp [kE, *])) (ahd ho h hK)
 ·rename_i t parts ho;cases hI:c.tv t with
  |none=>simp [hI] at hK
  |some I=>simp only [hI] at hK;exact .rd ⟨by simp [mi,ni, *],by simp [jC, *]⟩ (ZB ho hI hT h hK)
 ·rename_i t n parts ho;cases hI:c.tv t with
  |none=>simp [hI] at hK
  |some I=>
   simp only [hI] at hK;cases hL:I.Bm with
   |false=>simp [hL] at hK
   |true=>
    simp only [hL,cond_true] at hK;cases hE:c.tv I.elem with
    |none=>simp [hE] at hK
    |some E=>
     simp only [hE] at hK;cases lf:adY (n *E.size) 16777216 with
     |false=>simp [lf] at hK
     |true=>simp only [lf,cond_true] at hK;exact .gr (.inl (by simp [kE, *])) (Ln ho hI hL hE hT h lf hK)
 ·rename_i t x y ho;cases hI:c.tv t with
  |none=>simp [hI] at hK
  |some I=>
   simp only [hI] at hK;cases hL:I.Bm with
   |false=>simp [hL] at hK
   |true=>
    simp only [hL,cond_true] at hK;cases hE:c.tv I.elem with
    |none=>simp [hE] at hK
    |some E=>simp only [hE] at hK;exact .gr (.inl (by simp [kE, *])) (Ob ho hI hL hE hT h hK)
 ·rename_i t x ho;cases hI:c.tv t with
  |none=>simp [hI] at hK
  |some I=>
   simp only [hI] at hK;cases hs:still c o with
   |true=>
    simp only [hs,cond_true] at hK;split at hK
    ·rename_i cs off K7;obtain ⟨v,h1,h2⟩:=Zo ho hI hT h K7 hK;exact .ld ⟨by simp [mi,ni, *],by simp [jC, *]⟩ h.kP ⟨v,λw' hw=>h1 w' hw.2,h2⟩
    ·simp at hK
   |false=>simp only [hs,cond_false] at hK;obtain ⟨v,h1,h2⟩:=adq ho hI hT h hK;refine .ld ⟨by simp [mi,ni, *],by simp [jC, *]⟩ h.kP ⟨v,λw' hw=>h1 w' ?_,h2⟩;have:=hw.1 hs;simpa [fK,Tp,CM,ho] using this
 ·rename_i t x y ho;cases hI:c.tv t with
  |none=>simp [hI] at hK
  |some I=>simp only [hI] at hK;exact .an (by simp [kE,DB, *]) (Zy ho hI hT h hK)
 ·rename_i op t x y t' ho;exact .rd ⟨by simp [mi,ni, *],by simp [jC, *]⟩ (Zm ho h hG.eq hK)
 ·rename_i ho;exact .rd ⟨by simp [mi,ni, *],by simp [jC, *]⟩ (adn ho h hK)
 ·rename_i s t x ho;cases hL:isLT c s with
  |true=>
   simp only [hL,cond_true] at hK;cases hY:c.tv s with
   |none=>simp [hY] at hK
   |some Y=>
    cases hI:c.tv t with
    |none=>simp [hY,hI] at hK
    |some I=>
     simp only [hY,hI] at hK;obtain ⟨v,h1,h2⟩:=ZP ho hY hI (by simpa [isLT,hY] using hL) hT h hK;refine .ld ⟨by simp [mi,ni,ho,hL],by simp [jC,ho]⟩ h.kP ⟨v,λw' hw=>h1 w' ?_,h2⟩;have hs:still c o=false:=by simp [still,ho]
     have:=hw.1 hs;simpa [fK,Tp,CM,ho] using this
  |false=>
   simp only [hL,cond_false] at hK;cases hS:c.ti s with
   |none=>simp [hS] at hK
   |some S=>
    simp only [hS] at hK;cases hI:c.tv t with
    |none=>simp [hI] at hK
    |some I=>simp only [hI] at hK;obtain ⟨d,i,h1,_⟩:=hT s S hS;exact .rd ⟨by simp [mi,ni,ho,hL],by simp [jC,ho]⟩ (SQ ho (bG hI).1 hT ⟨d,h1⟩ (hG.fk t) h hK)
 ·rename_i f first dJ ho
  split at hK
  ·rename_i hf;have hf:first= #[]:=by apply ac6.1;simpa using hf
   subst hf;exact .rd ⟨by simp [mi,ni, *],by simp [jC, *]⟩ (Qg ho h hK)
  ·simp at hK
 ·rename_i t x lo hi ho;cases hI:c.tv t with
  |none=>simp [hI] at hK
  |some I=>simp only [hI] at hK;exact .rd ⟨by simp [mi,ni, *],by simp [jC, *]⟩ (Zu ho hI hT h hK)
 ·rename_i t x y z ho;cases hI:c.tv t with
  |none=>simp [hI] at hK
  |some I=>simp only [hI] at hK;exact .rd ⟨by simp [mi,ni, *],by simp [jC, *]⟩ (ady ho hI hT h hK)
 ·rename_i t x f ho;cases hI:c.tv t with
  |none=>simp [hI] at hK
  |some I=>simp only [hI] at hK;exact .rd ⟨by simp [mi,ni, *],by simp [jC, *]⟩ (Wm ho hI hT h hK)
 ·rename_i t x y ho;cases hI:c.tv t with
  |none=>simp [hI] at hK
  |some I=>
   simp only [hI] at hK;cases hE:c.tv I.elem with
   |none=>simp [hE] at hK
   |some E=>simp only [hE] at hK;exact .rd ⟨by simp [mi,ni, *],by simp [jC, *]⟩ (ahh ho hI hE hT h hK)
 ·rename_i t x y ho;cases hI:c.tv t with
  |none=>simp [hI] at hK
  |some I=>simp only [hI] at hK;exact .rd ⟨by simp [mi,ni, *],by simp [jC, *]⟩ (akJ ho (bG hI).1 hT h hK)
 ·rename_i ho;exact .rd ⟨by simp [mi,ni, *],by simp [jC, *]⟩ (ahc ho h hK)
 ·rename_i cl ho;split at hK
  ·rename_i f rl;cases hsg:c.sig (c.key f) with
   |some sg=>obtain ⟨pos,ks⟩:=sg;simp only [hsg] at hK;obtain ⟨hg,hw⟩:=adO hG.fn hsg ho rl h hK;exact .an (by simp [kE,DB,ho,rl,hg]) hw
   |none=>
   simp only [hsg] at hK;cases hI:c.ti o.type with
   |none=>simp [hI] at hK
   |some I=>simp only [hI] at hK;exact .cl f (by simp [kE,DB, *]) (adD hG.fn ho rl h hK)
  ·rename_i x _ rl;cases hdy:c.dyn with
   |cons k0 avu=>simp [hdy] at hK
   |nil=>
   simp only [hdy] at hK;cases hI:c.ti o.type with
   |none=>simp [hI] at hK
   |some I=>simp only [hI] at hK;exact .gr (.inl (by simp [kE, *])) (ahp hG.fn ho rl h hK)
  ·rename_i rl;split at hK
   ·rename_i t HN;cases hI:c.tv t with
    |none=>simp [hI] at hK
    |some I=>simp only [hI] at hK;exact .rd ⟨by simp [mi,ni, *],by simp [jC, *]⟩ (ahf ho rl HN hI hT h hK)
   ·simp at hK
  ·rename_i rl;split at hK
   ·rename_i s x t t' K7 HN;cases hI:c.tv t with
    |none=>simp [hI] at hK
    |some I=>
     simp only [hI] at hK;cases hL:I.Bm with
     |false=>simp [hL] at hK
     |true=>
      simp only [hL,cond_true] at hK;cases hE:c.tv I.elem with
      |none=>simp [hE] at hK
      |some E=>
       simp only [hE] at hK;obtain ⟨so,xo,gl,rfl,rfl⟩: ∃so xo,cl.args.toList=[so,xo]/\aT c st so=s/\aT c st xo=x:=by
        rw [j7] at K7;match hl:cl.args.toList,K7 with
        |[so,xo],K7=>simp at K7;exact ⟨so,xo,rfl,K7.1,K7.2⟩
        |[],K7=>simp at K7
        |[_],K7=>simp at K7
        |_::_::_::_,K7=>simp at K7
       exact .an (by simp [kE,DB,rl,ho]) (Wz ho rl gl HN hI hL hE hT h hK)
   ·simp at hK
  ·rename_i rl;rw [j7] at hK;split at hK
   ·rename_i m j6;cases hl:cl.args.toList with
    |nil=>rw [hl] at j6;simp at j6
    |cons x xs=>
     rw [hl] at j6;simp only [acE,aaU,aeU] at j6;obtain ⟨he,rfl⟩:=j6;unfold gCx at hK;split at hK
     ·rename_i u v;have hx:=xP (by have:=(h.eval x).1;rw [he] at this;exact this);have Hl:cl.args= #[x]:=by rw [<-ac6,hl]
      refine .rd ⟨by simp [mi,ni, *],by simp [jC, *]⟩ (kQ h ?_ (Ih (.float .f64 u) rfl) trivial hK);have hb: ∀ts ty,Builtin.real_ ts ty #[.complex .f64 u v]=pure (.float .f64 u):=λ_ _=>rfl;simp [execOp,ho,resolve,rl,invoke,builtin,hb,Hl,hx]
     ·cases hK
   ·cases hK
  ·rename_i rl;rw [j7] at hK;split at hK
   ·rename_i m j6;cases hl:cl.args.toList with
    |nil=>rw [hl] at j6;simp at j6
    |cons x xs=>
     rw [hl] at j6;simp only [acE,aaU,aeU] at j6;obtain ⟨he,rfl⟩:=j6;unfold gCx at hK;split at hK
     ·rename_i u v;have hx:=xP (by have:=(h.eval x).1;rw [he] at this;exact this);have Hl:cl.args= #[x]:=by rw [<-ac6,hl]
      refine .rd ⟨by simp [mi,ni, *],by simp [jC, *]⟩ (kQ h ?_ (Ih (.float .f64 v) rfl) trivial hK);have hb: ∀ts ty,Builtin.imag_ ts ty #[.complex .f64 u v]=pure (.float .f64 v):=λ_ _=>rfl;simp [execOp,ho,resolve,rl,invoke,builtin,hb,Hl,hx]
     ·cases hK
   ·cases hK
  ·rename_i rl;rw [j7] at hK;split at hK
   ·rename_i u v j6;match hl:cl.args.toList,j6 with
    |[x,y],j6=>
     simp only [acE,List.map_nil,aaU,and_true] at j6;have hx:=xP (by have:=(h.eval x).1;rw [j6.1] at this;exact this);have hy:=xP (by have:=(h.eval y).1;rw [j6.2] at this;exact this);have Hl:cl.args= #[x,y]:=by rw [<-ac6,hl]
     refine .rd ⟨by simp [mi,ni, *],by simp [jC, *]⟩ (kQ h ?_ (Ih (.complex .f64 u v) rfl) trivial hK);have hb: ∀ts ty,Builtin.complex_ ts ty #[.float .f64 u,.float .f64 v]=pure (.complex .f64 u v):=λ_ _=>rfl;simp [execOp,ho,resolve,rl,invoke,builtin,hb,Hl,hx,hy]
    |[],j6=>simp at j6
    |[_],j6=>simp at j6
    |_::_::_::_,j6=>simp at j6
   ·cases hK
  ·rename_i rl;cases hm:SC false (lq c st cl.args.toList) with
   |none=>simp [hm] at hK
   |some m=>simp only [hm] at hK;exact .rd ⟨by simp [mi,ni, *],by simp [jC, *]⟩ (Ml (mx:=false) ho rl h hm hK)
  ·rename_i rl;cases hm:SC true (lq c st cl.args.toList) with
   |none=>simp [hm] at hK
   |some m=>simp only [hm] at hK;exact .rd ⟨by simp [mi,ni, *],by simp [jC, *]⟩ (Ml (mx:=true) ho rl h hm hK)
  ·simp at hK
 ·simp at hK
theorem qN.wp (h:qN P c Z K r e a w o Q):o.wp P a w (Out c Z K r e.φ w) Q:=by
 cases h with
 |rd _ h=>exact h.wp trivial
 |ld _ hi h=>exact h.wp ⟨λ_=>(dN.refl w).for,hi⟩
 |me _ _ _ _ _ h=>exact ads (λa w h=>h.2) h
 |gr _ h=>exact ads (λa w h=>h.2) h
 |cl f _ h=>exact ads (λa w h=>h.2) h
 |an _ h=>exact h
theorem qN.apT (h:qN P c Z K r e a w o Q)(hr:kE o=true)(hv:jC c o=false):Rd P c Z K r e a w o (λw'=>mi c o=true->(still c o=false->fK c o w w')/\qy e.φ w'):=by
 cases h with
 |rd hl h=>obtain ⟨v,h1,h2⟩:=h;exact ⟨v,λw' _=>h1 w' trivial,h2⟩
 |ld hl _ h=>obtain ⟨v,h1,h2⟩:=h;exact ⟨v,λw' hg=>h1 w' (hg hl.1),h2⟩
 |gr hn h=>rw [hr,hv] at hn;simp at hn
 |me _ _ _ _ hn h=>rw [hr] at hn;cases hn.1
 |cl f hn h=>rw [hr] at hn;cases hn.1
 |an hn h=>rw [hr] at hn;cases hn.1
theorem qN.apU (h:qN P c Z K r e a w o Q)(hr:kE o=true\/DB c o=true):o.wp P a w (λa' w'=>dN w w'/\Out c Z K r e.φ w a' w') Q:=by
 have rd: ∀G:World->Prop,G w->Rd P c Z K r e a w o G->o.wp P a w (λa' w'=>dN w w'/\Out c Z K r e.φ w a' w') Q:=by rintro G hG ⟨v,h1,h2⟩;unfold agf;rw [h1 w hG,aec];exact ⟨.refl w,h2⟩
 cases h with
 |rd hl h=>exact rd _ trivial h
 |ld _ hi h=>exact rd _ ⟨λ_=>(dN.refl w).for,hi⟩ h
 |me _ _ _ _ hn h=>
  rcases hr with hr|hr
  ·rw [hr] at hn;cases hn.1
  ·rw [hr] at hn;cases hn.2
 |gr hn h=>exact h
 |cl f hn h=>
  rcases hr with hr|hr
  ·rw [hr] at hn;cases hn.1
  ·rw [hn.2] at hr;exact ads (λa w h=>⟨h.1 (by simpa using hr),h.2⟩) h
 |an hn h=>
  rcases hr with hr|hr
  ·rw [hr] at hn;cases hn.1
  ·rw [hr] at hn;cases hn.2
theorem alo (hG:Good P c)(h:b9 c Z e st a w)(hK:opK c o st (λs st=>bC c st o.dst s K)=some r){oi:Oper}(hr:wQ oi o=true):o.wp P a w (λa' w'=>fK c oi w w'/\Out c Z K r e.φ w a' w') Q:=by
 unfold wQ at hr;split at hr
 ·rename_i t t' h1 h2;have ht:=cV hr;subst ht;have Tf: ∃m k,o.op= .mapEntry t m k:=by
   unfold Y4 at h2;split at h2
   ·rename_i u m k ho;cases h2;exact ⟨m,k,ho⟩
   ·cases h2
  obtain ⟨m,k,ho⟩:=Tf;unfold opK at hK;simp only [ho] at hK;unfold YY at hK;cases hs:we c t with
  |none=>simp [hs] at hK
  |some s=>simp only [hs] at hK;refine ads (λa w h=>⟨?_,h.2⟩) (Gr ho (hG.mt t s hs) h hK);simpa [fK,Tp,h1,hs] using h.1
 ·cases hr
end
end Dn
/-
  Guards; operations one behind the other. Conditions: none.
-/
namespace Dn
open Go
section
variable {P:Program}{c:Ctx} {Z Z':bI} {e e':Env}{st:St}{a:Act} {w w':World}{R:Type}{K:St->Option R}{r:R}{Q:Exit->Act->World->Prop}{o:Oper}
theorem b9.frame {qJ:Fr}(h:b9 c Z e st a w)(hf: ∀t,av qJ t=av st.fr t)(hn:(aU qJ).Nodup):b9 c Z e {st with fr:=qJ} a w:=by
 have hr: ∀s,dc st.fr s->dc qJ s:=by intro s hs;cases s<;>simp only [dc,hf] at hs⊢ <;>exact hs
 exact ⟨h.defers,h.size,h.m,h.key,hn,λt=>by show cn Z e w t _ (av qJ t);rw [hf];exact h.slot t,λt=>by show dc qJ (av qJ t);rw [hf];exact hr _ (h.root t),h.iC,λt t' cs kR h1 h2=>h.bb t t' cs kR (by rw [<-hf];exact h1) (by rw [<-hf];exact h2),λt cs f o h1=>h.bf t cs f o (by rw [<-hf];exact h1),h.ff,h.kP,h.cS⟩
theorem b9.reset {t:Nat}{s:Slot}(h:b9 c Z e st a w)(hs:av st.fr t=s):b9 c Z e {st with fr:=dt st.fr t s} a w:=by
 refine h.frame (λt'=> ?_) (iN h.nodup);rw [cj];by_cases ht:t'=t
 ·subst ht;simp [hs]
 ·simp [ht]
theorem Qt {ops:Array Oper} {K':Bool->St->Option R}(h:b9 c Z e st a w)(hK:SE ops.toList o st K'=some r): ∃bZ go,b9 c Z e bZ a w/\K' go bZ=some r/\age o (yielded ops a.tmps)=go:=by
 unfold SE at hK;unfold age;cases hg:o.guard with
 |none=>simp only [hg] at hK;exact ⟨st,true,h,hK,rfl⟩
 |some jw=>
  obtain ⟨j,want⟩:=jw;simp only [hg] at hK;cases hp:ops.toList[j]? with
  |none=>simp [hp] at hK
  |some p=>
   simp only [hp] at hK;have Hn:ops[j]? =some p:=by simpa using hp
   cases hd:p.dst with
   |none=>simp [hd] at hK
   |some t=>
    simp only [hd] at hK;have qv:=h.slot t;split at hK
    ·rename_i v hv;rw [hv] at qv;have ya:a.tmps.getD t undef= .bool v:=Ab qv;have hy:yielded ops a.tmps j=some v:=by
      unfold yielded;have:a.tmps[t]? =some (.bool v):=by
       rw [ac2] at ya;cases ht:a.tmps[t]? with
       |none=>rw [ht] at ya;simp [undef] at ya
       |some u=>rw [ht] at ya;simpa using ya
      simp [Hn,hd,this]
     simp only [hy];cases v<;>simp only [rj] at hK
     ·exact ⟨_,_,h.reset hv,hK,by cases want<;>rfl⟩
     ·exact ⟨_,_,h.reset hv,hK,by cases want<;>rfl⟩
    ·rename_i hv;rw [hv] at qv;simp only [cn,ah] at qv;have hy:yielded ops a.tmps j=none:=by
      unfold yielded;rw [ac2] at qv;cases ht:a.tmps[t]? with
      |none=>simp [Hn,hd,ht]
      |some u=>rw [ht] at qv;simp at qv;subst qv;simp [Hn,hd,ht,undef]
     simp only [hy];exact ⟨st,false,h,hK,by cases want<;>rfl⟩
    ·simp at hK
theorem Oj {ops:Array Oper}{i:Nat}(hG:Good P c)(hi:ops[i]? =some o)(h:b9 c Z e st a w)(hK:UZ c ops.toList o st K=some r): wpOp P ops Q i (Out c Z K r e.φ w) a w:=by
 unfold UZ at hK;obtain ⟨bZ,go,h',hK,hw⟩:=Qt h hK;unfold wpOp;simp only [hi];rw [hw];cases go with
 |true=>simp only [cond_true] at hK;simp only [if_true];exact .inl (Tq hG h' hK).wp
 |false=>simp only [cond_false] at hK;simp only [abF,if_false];obtain ⟨e2,ef,h1,h2,h3⟩:=dz (v:=undef) (s:= .skip) h' ⟨rfl,trivial⟩ hK;exact ⟨e2,ef,h1,by rw [h3];exact .refl _ _ _,h2⟩
theorem Ok {ops:Array Oper}{is:List Nat}(hG:Good P c): ∀{os:List Oper} {e:Env} {st:St} {a:Act} {w:World},is.map (ops[·]?)=os.map some->b9 c Z e st a w->CJ c ops.toList os st K=some r-> ∀{φ0:Ph} {w0:World},Trans Z φ0 w0 e.φ w->(∀a' w',Out c Z K r φ0 w0 a' w'->Q .normal a' w')->wpOps P ops Q is a w:=by
 induction is with
 |nil=>
  intro os e st a w hm h hK φ0 w0 ht hQ;cases os with
  |nil=>exact hQ a w ⟨e,st,h,ht,hK⟩
  |cons=>simp at hm
 |cons i is ih=>
  intro os e st a w hm h hK φ0 w0 ht hQ;cases os with
  |nil=>simp at hm
  |cons o os=>simp only [acE,aaU] at hm;simp only [CJ] at hK;rw [wpOps_cons];refine wpOp_mono ?_ (Oj hG hm.1 h hK);rintro a' w' ⟨e2,ef,h1,h2,h3⟩;exact ih hm.2 h1 h3 (ht.trans h2) hQ
end
end Dn
/-
  Parts of a state. Conditions: none.
-/
namespace Dn
open Go
section
variable {P:Program}{c:Ctx}{Z Zi:bI} {e e':Env}{st bZ:St}{a:Act} {w w':World}{R:Type}{K:St->Option R}{r:R}{Q:Exit->Act->World->Prop}{o:Oper}
theorem WK {fs:List Nat}: ∀{e:Env} {st:St},b9 c Z e st a w->(∀f∈fs,∀o,aQ st.bo f=some o->f∉Z.db\/o.fb=true)-> ∃φ' m',lS e.φ φ'/\(∀b off,¬Z.In b->φ' b off=e.φ b off)/\b9 c Z {e with φ:=φ',m:=m'} {st with bo:=m'} a w/\ (∀f,aQ m' f=(aQ st.bo f).map λo=>if f∈fs then ⟨o.ty,true,o.xs⟩ else o)/\ (∀f∈fs,∀o I cells,aQ st.bo f=some o->c.ti o.ty=some I->w.ownsRow 0 o.ty I.size (e.E f) o.xs.length cells-> ∀bt,(e.E f).ownBlock=some bt-> ∀j,j<cells.length->φ' bt j=cells[j]?):=by
 induction fs with
 |nil=>
  intro e st h _;refine ⟨e.φ,st.bo,.refl _,λ_ _ _=>rfl,?_,λf=>by cases aQ st.bo f<;>simp,λf hf=>by simp at hf⟩;have hm:e.m=st.bo:=h.m;have he:({e with φ:=e.φ,m:=st.bo}:Env)=e:=by cases e;simp at hm⊢;exact hm.symm
  rw [he];exact h
 |cons g gs ih=>
  intro e st h hp;cases hg:aQ st.bo g with
  |none=>
   obtain ⟨φ',m',h1,h2,h3,h4,h5⟩:=ih h (λf hf=>hp f (by simp [hf]));refine ⟨φ',m',h1,h2,h3,λf=> ?_,λf hf o I cells ho=> ?_⟩
   ·rw [h4];by_cases PK:f=g
    ·subst PK;rw [hg];rfl
    ·simp [PK]
   ·rcases AI.1 hf with rfl|hf
    ·rw [hg] at ho;cases ho
    ·exact h5 f hf o I cells ho
  |some og=>
   obtain ⟨φ1,k1,k2,k3,_,k5⟩:=freeze h hg (hp g (by simp) og hg);obtain ⟨φ',m',h1,h2,h3,h4,h5⟩:=ih k3 (by
    intro f hf o ho;have ho:aQ (cb st.bo g ⟨og.ty,true,og.xs⟩) f=some o:=ho;rw [bx] at ho;by_cases PK:f=g
    ·rw [if_pos PK] at ho;cases ho;exact .inr rfl
    ·rw [if_neg PK] at ho;exact hp f (by simp [hf]) o ho)
   refine ⟨φ',m',k1.trans h1,λb off hb=>(h2 b off hb).trans (k2 b off hb),h3,λf=> ?_,λf hf o I cells ho hI eW bt hb j hj=> ?_⟩
   ·rw [h4];show Option.map _ (aQ (cb st.bo g ⟨og.ty,true,og.xs⟩) f)=_;rw [bx];by_cases PK:f=g
    ·subst PK;simp [hg]
    ·simp [PK]
   ·by_cases PK:f=g
    ·subst PK;rw [hg] at ho;cases ho;exact h1.Bn (k5 I cells hI eW bt hb j hj) hj
    ·rcases AI.1 hf with rfl|hf
     ·exact absurd rfl PK
     ·refine h5 f hf o I cells ?_ hI eW bt hb j hj;show aQ (cb st.bo g ⟨og.ty,true,og.xs⟩) f=_;rw [bx,if_neg PK];exact ho
end
end Dn
/-
  What a piece of code begins with, and what stays as it was behind it. Conditions: none.
-/
namespace Dn
open Go
theorem vv {l k:List Nat}(h:meets l k=false): ∀x∈l,x∉k:=by
 induction l with
 |nil=>simp
 |cons y l ih=>
  simp only [meets] at h;cases hm:bJ k y with
  |true=>simp [hm] at h
  |false=>
   simp only [hm,cond_false] at h;intro x hx;rcases AI.1 hx with rfl|hx
   ·rw [<-bL,hm];simp
   ·exact ih h x hx
theorem IG {ks:List Nat}{r:Fr}: ∀t∈aU (pw ks r),t∈ks:=by
 induction r with
 |nil=>simp [aU,pw]
 |cons p r ih=>
  obtain ⟨k,x⟩:=p;simp only [pw];cases hb:bJ ks k&&!dW x with
  |false=>simpa using ih
  |true=>
   simp only [sh] at hb;intro t ht;simp only [cond_true,aU,acE,AI] at ht;rcases ht with rfl|ht
   ·exact (bL _ _).1 hb.1
   ·exact ih t ht
theorem Mr {qs:List Nat}{r:Fr}:aU (SM qs r)=aU r:=by simp [aU,SM]
theorem Gt {ks fs qs:List Nat}{m:List (Nat×pn)}{f:Nat}: aQ (ud ks fs qs m) f=if f∈ks then (aQ m f).map λo=>if f∈fs/\f∉qs then ⟨o.ty,true,o.xs⟩ else o else none:=by
 induction m with
 |nil=>simp [ud,aQ]
 |cons p m ih=>
  obtain ⟨k,o⟩:=p;simp only [ud];by_cases hk:k=f
  ·subst hk;cases hm:bJ ks k with
   |false=>
    have:k∉ks:=by rw [<-bL,hm];simp
    simp only [cond_false,ih,this,if_false]
   |true=>
    have:k∈ks:=(bL _ _).1 hm;simp only [cond_true,this,if_true,aQ,eO,decide_true];cases hc:bJ fs k&&!bJ qs k with
    |true=>
     simp only [sh,aaP] at hc;have h1:=(bL _ _).1 hc.1;have h2:k∉qs:=by rw [<-bL,hc.2];simp
     simp [aQ,eO,h1,h2]
    |false=>
     have: ¬(k∈fs/\k∉qs):=by
      rintro ⟨h1,h2⟩;rw [<-bL] at h1;have h2:bJ qs k=false:=by cases hq:bJ qs k with|false=>rfl|true=>exact absurd ((bL _ _).1 hq) h2
      simp [h1,h2] at hc
     simp [aQ,eO,this]
  ·cases hm:bJ ks k with
   |false=>simp only [cond_false,ih,aQ,eO,hk,decide_false]
   |true=>simp only [cond_true,aQ,eO,hk,decide_false,cond_false];cases bJ fs k&&!bJ qs k<;>simp only [cond_true,cond_false,aQ,eO,hk,decide_false]<;>exact ih
theorem vz (m n:List (Nat×pn))(f:Nat):aQ (m++n) f=(match aQ m f with|some o=>some o|none=>aQ n f):=by
 induction m with
 |nil=>simp [aQ]
 |cons p m ih=>obtain ⟨k,o⟩:=p;simp only [abG,aQ,eO];by_cases hk:k=f<;>simp [hk,ih]
def pD:Slot->List aE
 | .sc l=>[l]
 | .ag cs=>cs
 | .tg cs=>cs
 | .box cs=>cs
 |_=>[]
section
variable {P:Program}{c:Ctx}{Z Zb Zi:bI} {e e':Env}{st bZ B:St} {a a':Act} {w w':World}{R:Type}{K:St->Option R}{r:R}{Q:Exit->Act->World->Prop}{o:Oper}{hn:pv}
structure kV (c:Ctx) (Zb Zi:bI) (e:Env) (B:St) (hn:pv) (a:Act) (w:World):Prop where
 uh:b9 c Zb e B a w
 sub: ∀b,Zi.In b->Zb.In b
 new: ∀b,w.heap.size<=b->Zi.In b
 cI: ∀t∈Zb.cI,t∈Zi.cI
 T: ∀t∈Zi.cI,a.tmps.getD t undef=Zi.T t
 keys: ∀t∈aU B.fr,t∈Zi.cI
 box: ∀t cs,av B.fr t= .box cs-> ¬Zi.In (e.B t)
 iC: ∀f o b,aQ B.bo f=some o->(e.E f).ownBlock=some b-> ¬Zi.In b
 Z7: ∀t∈dZ hn.all,t∉Zb.cI/\t∉Zi.cI
 WL: ∀f∈ct hn.all,f∉Zb.db/\aQ B.bo f=none
 ptr: ∀t,dW (av B.fr t)=false
 YD: ∀t f,aE.own f∈pD (av B.fr t)->f∉ct hn.all
theorem kV.later {φ':Ph}(h:kV c Zb Zi e B hn a w)(ht:Trans Zi.In e.φ w φ' w')(hi:qy φ' w')(hd:a'.defers=[])(hs:a'.tmps.size=c.n)(hT: ∀t∈Zi.cI,a'.tmps.getD t undef=Zi.T t): kV c Zb Zi {e with φ:=φ'} B hn a' w':=by
 have h1:=h.uh.called (Z':=Zi.In) h.sub h.box h.iC ht hi;refine ⟨?_,h.sub,λb hb=>h.new b (adr ht.size hb),h.cI,hT,h.keys,h.box,h.iC,h.Z7,h.WL,h.ptr,h.YD⟩;have je: ∀t∈Zi.cI,a'.tmps.getD t undef=a.tmps.getD t undef:=λt ht=>(hT t ht).trans (h.T t ht).symm;refine ⟨⟨hd,h1.defers.2.1,h1.defers.2.2.1,λt ht=>(je t (h.cI t ht)).trans (h1.defers.2.2.2 t ht)⟩,hs,h1.m,h1.key,h1.nodup,?_,h1.root,h1.iC,h1.bb,h1.bf,h1.ff,h1.kP,h1.cS⟩;intro t;by_cases hk:t∈aU B.fr
 ·rw [je t (h.keys t hk)];exact h1.slot t
 ·rw [tE _ _ hk];simp [cn,ah]
theorem WM {K2:St->St->Option R}(h:b9 c Z e st a w)(hK:SI c hn st K2=some r): ∃Zi e1 e2 cR ef,b9 c Zi e1 cR a w/\Trans Z.In e.φ w e1.φ w/\e2.φ=e1.φ/\e2.key=e1.key/\kV c Z Zi e2 (wg st ef) hn a w/\kV c Zi Zi e2 ef hn a w/\(∀b,Zi.In b->Z.In b)/\fB c hn.all=true/\K2 cR ef=some r:=by
 obtain ⟨p,q,fr,m⟩:=st;unfold SI at hK;simp only [z7,adk,ag6,Ze] at hK;cases PL:!fB c hn.all||meets (dZ hn.all) p||meets (ct hn.all) q||meets (dZ hn.all) hn.cI||meets (ct hn.all) hn.db with
 |true=>simp [PL] at hK
 |false=>
  simp only [PL,cond_false] at hK;simp only [OF,acW] at PL;obtain ⟨⟨⟨⟨m0,m1⟩,m2⟩,m3⟩,m4⟩:=PL;have m1:=vv m1;have m2:=vv m2;have m3:=vv m3;have m4:=vv m4;have Tr:p=Z.cI/\q=Z.db:=⟨h.defers.2.1,h.defers.2.2.1⟩
  let mp:=ud hn.db hn.fb q m;let mo:=ud (ct hn.all) hn.fb q m;let rp:=SM hn.db (pw hn.cI fr);let ro:=pw (dZ hn.all) fr;let fs:=hn.db.filter λf=>match aQ mp f with|some o=>o.fb|none=>false
  have Aj: ∀f o,aQ mp f=some o->f∈hn.db/\ ∃o0,aQ m f=some o0/\o0.ty=o.ty/\o0.xs=o.xs/\(o0.fb=true->o.fb=true)/\(f∈q->o=o0):=by
   intro f o ho;have ho:aQ (ud hn.db hn.fb q m) f=some o:=ho;rw [Gt] at ho;split at ho
   ·rename_i hf;refine ⟨hf,?_⟩;cases h0:aQ m f with
    |none=>rw [h0] at ho;cases ho
    |some o0=>
     rw [h0] at ho;simp only [acY,AT] at ho;refine ⟨o0,rfl,?_⟩;split at ho
     ·rename_i hc;subst ho;exact ⟨rfl,rfl,λ_=>rfl,λhq=>absurd hq hc.2⟩
     ·subst ho;exact ⟨rfl,rfl,id,λ_=>rfl⟩
   ·cases ho
  have hmo: ∀f o,aQ mo f=some o->f∈ct hn.all/\ ∃o0,aQ m f=some o0/\o0.ty=o.ty/\o0.xs=o.xs/\(o0.fb=true->o.fb=true):=by
   intro f o ho;have ho:aQ (ud (ct hn.all) hn.fb q m) f=some o:=ho;rw [Gt] at ho;split at ho
   ·rename_i hf;refine ⟨hf,?_⟩;cases h0:aQ m f with
    |none=>rw [h0] at ho;cases ho
    |some o0=>
     rw [h0] at ho;simp only [acY,AT] at ho;refine ⟨o0,rfl,?_⟩;split at ho
     ·subst ho;exact ⟨rfl,rfl,λ_=>rfl⟩
     ·subst ho;exact ⟨rfl,rfl,id⟩
   ·cases ho
  obtain ⟨φ',m',f1,f2,f3,f4,f5⟩:=WK (fs:=fs) h (by
   intro f hf o ho;simp only [fs,adl] at hf;obtain ⟨N0,Dt⟩:=hf;by_cases hq:f∈Z.db
   ·right;cases Lt:aQ mp f with
    |none=>simp [Lt] at Dt
    |some o1=>simp only [Lt] at Dt;obtain ⟨_,o0,g1,_,_,_,g5⟩:=Aj f o1 Lt;have ho:aQ m f=some o:=ho;rw [g1] at ho;cases ho;have:=g5 (by rw [Tr.2];exact hq);rw [<-this];exact Dt
   ·exact .inl hq)
  let Zi:bI:=⟨λb=>Z.In b/\(∀t cs,av rp t= .box cs->e.B t≠b)/\(∀f o,aQ mp f=some o->(e.E f).ownBlock≠some b),hn.cI++p,hn.db++q,λt=>a.tmps.getD t undef,False,λ_=>True⟩
  have rR: ∀b,w.heap.size<=b->Zi.In b:=by
   intro b hb;refine ⟨f3.cS b hb,λt cs ht=> ?_,λf o ho It=> ?_⟩
   ·have hrp:av rp t=HK hn.db (av (pw hn.cI fr) t):=Mf _ _ _;rw [hrp,CR _ _ h.nodup] at ht;split at ht
    ·have: ∃Hp,av fr t= .box Hp:=by generalize av fr t=s at ht;cases s<;>simp only [HK] at ht<;>first|(cases ht;done)|exact ⟨_,rfl⟩
     obtain ⟨Hp,h0⟩:=this;have:=Fp (st:=⟨p,q,fr,m⟩) h h0;omega
    ·simp [HK,So] at ht
   ·obtain ⟨_,o0,g1,_⟩:=Aj f o ho;have:=Fq (st:=⟨p,q,fr,m⟩) h g1 It;omega
  have adQ: ∀t,av rp t=if bJ hn.cI t&&!dW (av fr t) then HK hn.db (av fr t) else .sc .un:=by intro t;have hrp:av rp t=HK hn.db (av (pw hn.cI fr) t):=Mf _ _ _;rw [hrp,CR _ _ h.nodup];split<;>rfl
  have ahx: ∀t,av ro t=if bJ (dZ hn.all) t&&!dW (av fr t) then av fr t else .sc .un:=λt=>CR _ _ h.nodup t
  have ahy: ∀t∈aU rp,t∈hn.cI:=by intro t ht;have ht:t∈aU (SM hn.db (pw hn.cI fr)):=ht;rw [Mr] at ht;exact IG t ht
  have IH: ∀t cs,av rp t= .box cs->t∈hn.cI/\ ∃Hp,av fr t= .box Hp:=by
   intro t cs ht;rw [adQ] at ht;split at ht
   ·rename_i hc;simp only [sh] at hc;refine ⟨(bL _ _).1 hc.1,?_⟩;generalize av fr t=s at ht;cases s<;>simp only [HK] at ht<;>first|(cases ht;done)|exact ⟨_,rfl⟩
   ·cases ht
  have apV: ∀f o,aQ mp f=some o->o.fb=true->f∈fs:=by intro f o ho hz;simp only [fs,adl];exact ⟨(Aj f o ho).1,by simp only [ho];exact hz⟩
  have Mh: ∀f o0,aQ m f=some o0->aQ m' f=some (if f∈fs then ⟨o0.ty,true,o0.xs⟩ else o0):=by intro f o0 h0;rw [f4];show Option.map _ (aQ m f)=_;rw [h0];rfl
  have af2: ∀f o,aQ (mp++mo) f=some o-> ∃o1,aQ m' f=some o1/\o1.ty=o.ty/\o1.xs=o.xs/\(o1.fb=true->o.fb=true):=by
   intro f o ho;rw [vz] at ho;cases Lt:aQ mp f with
   |some o1=>
    simp only [Lt,AT] at ho;subst ho;obtain ⟨_,o0,g1,g2,g3,g4,_⟩:=Aj f o1 Lt;refine ⟨_,Mh f o0 g1,?_⟩;split
    ·rename_i Z8;refine ⟨g2,g3,λ_=> ?_⟩;simp only [fs,adl,Lt] at Z8;exact Z8.2
    ·exact ⟨g2,g3,g4⟩
   |none=>
    simp only [Lt] at ho;obtain ⟨g0,o0,g1,g2,g3,g4⟩:=hmo f o ho;refine ⟨_,Mh f o0 g1,?_⟩;have:f∉fs:=by intro Z8;simp only [fs,adl] at Z8;exact m4 f g0 Z8.1
    rw [if_neg this];exact ⟨g2,g3,g4⟩
  have alq: ∀f o,aQ mp f=some o-> ∃o1,aQ m' f=some o1/\o1.ty=o.ty/\o1.xs=o.xs/\(o1.fb=true->o.fb=true):=by intro f o ho;exact af2 f o (by rw [vz,ho])
  have adE: ∀f o I cells b,aQ mp f=some o->o.fb=true->c.ti o.ty=some I->w.ownsRow 0 o.ty I.size (e.E f) o.xs.length cells->(e.E f).ownBlock=some b-> ∀j,j<cells.length->φ' b j=cells[j]? :=by intro f o I cells b ho hz hI eW hb j hj;obtain ⟨_,o0,g1,g2,g3,_⟩:=Aj f o ho;exact f5 f (apV f o ho hz) o0 I cells g1 (by rw [g2];exact hI) (by rw [g2,g3];exact eW) b hb j hj
  have alr:(hn.cI++p)=Zi.cI/\(hn.db++q)=Zi.db/\ ∀t∈Zi.cI,a.tmps.getD t undef=Zi.T t:=⟨rfl,rfl,λ_ _=>rfl⟩
  have hkd:(aU rp).Nodup:=by have:aU rp=aU (pw hn.cI fr):=Mr;rw [this];exact (xN _ _).nodup h.nodup
  have Z9: ∀t,av rp t= .sc .un\/(dW (av fr t)=false/\(av rp t=av fr t\/ ∃qs,av rp t=HK qs (av fr t))):=by
   intro t;rw [adQ];cases hc:bJ hn.cI t&&!dW (av fr t) with
   |false=>exact .inl (by simp)
   |true=>simp only [sh,aaP] at hc;exact .inr ⟨hc.2,.inr ⟨hn.db,by simp⟩⟩
  have af3: ∀(Zb:bI) (pb qb:List Nat),pb=Zb.cI->qb=Zb.db->(∀t∈Zb.cI,a.tmps.getD t undef=Zb.T t)->(∀t∈Z.cI,t∈Zb.cI)->(∀t cs,av rp t= .box cs->(t∈Zb.cI/\Zb.Pr (e.B t))\/Zb.In (e.B t))-> (∀f o b,aQ mp f=some o->(e.E f).ownBlock=some b->(f∈Zb.db/\Zb.Pr b)\/Zb.In b)->(∀b,w.heap.size<=b->Zb.In b)->b9 c Zb {e with φ:=φ',m:=mp} ⟨pb,qb,rp,mp⟩ a w:=by intro Zb pb qb h1 h2 h3 hpp h4 h5 h6;exact f3.sub (bZ:=⟨pb,qb,rp,mp⟩) hpp ⟨h1,h2,h3⟩ hkd Z9 alq h4 h5 (λf o I cells b ho _ hz hI eW hb j hj=>adE f o I cells b ho hz hI eW hb j hj) h6
  have adR: ∀t f,aE.own f∈pD (av rp t)->f∉ct hn.all:=by
   intro t f hf;have:f∈hn.db:=by
    rw [adQ] at hf;split at hf
    ·generalize av fr t=s at hf;cases s<;>simp only [HK,pD,AI,acU,List.not_mem_nil,or_false] at hf
     ·exact NP hn.db _ f hf.symm
     ·obtain ⟨l,_,hl⟩:=hf;exact NP hn.db l f hl
     ·obtain ⟨l,_,hl⟩:=hf;exact NP hn.db l f hl
     ·obtain ⟨l,_,hl⟩:=hf;exact NP hn.db l f hl
    ·simp [pD] at hf
   exact λho=>m4 f ho this
  have Zz: ∀t,dW (av rp t)=false:=by
   intro t;rw [adQ];split
   ·rename_i hc;simp only [sh,aaP] at hc;generalize av fr t=s at hc;cases s<;>simp [dW] at hc<;>rfl
   ·rfl
  have af4: ∀b,Zi.In b->Z.In b:=λb hb=>hb.1;refine ⟨Zi,{e with φ:=φ',m:=mp++mo},{e with φ:=φ',m:=mp},⟨hn.cI++p,hn.db++q,rp++ro,mp++mo⟩,⟨hn.cI++p,hn.db++q,rp,mp⟩,?_,⟨f1,λ_ _ _=>rfl,f2,adP _,.refl _⟩,rfl,rfl,?_,?_,af4,m0,hK⟩
  ·have hkk: ∀t,av (rp++ro) t=av rp t\/(t∈dZ hn.all/\av rp t= .sc .un/\av (rp++ro) t=av ro t):=by
    intro t;rw [z8];by_cases hk:t∈aU rp
    ·simp [hk]
    ·simp only [hk,if_false];have h0:=tE rp t hk;by_cases PH:t∈dZ hn.all
     ·exact .inr ⟨PH,h0,trivial⟩
     ·left;rw [h0,ahx];have:bJ (dZ hn.all) t=false:=by cases hq:bJ (dZ hn.all) t with|false=>rfl|true=>exact absurd ((bL _ _).1 hq) PH
      simp [this]
   refine f3.sub (bZ:=⟨hn.cI++p,hn.db++q,rp++ro,mp++mo⟩) (λt ht=>aaJ _ (by rw [Tr.1];exact ht)) alr ?_ ?_ af2 ?_ ?_ ?_ rR
   ·show (aU (rp++ro)).Nodup;have:aU (rp++ro)=aU rp++aU ro:=by simp [aU]
    rw [this];refine List.nodup_append.2 ⟨hkd,(xN _ _).nodup h.nodup,?_⟩;intro x hx y hy hxy;subst hxy;exact m3 x (IG x hy) (ahy x hx)
   ·intro t;show av (rp++ro) t=_\/(_/\(av (rp++ro) t=_\/ ∃qs,av (rp++ro) t=_));rcases hkk t with hk|⟨hk1,PH,hk⟩
    ·rw [hk];exact Z9 t
    ·rw [hk,ahx];cases hc:bJ (dZ hn.all) t&&!dW (av fr t) with
     |false=>exact .inl (by simp)
     |true=>simp only [sh,aaP] at hc;exact .inr ⟨hc.2,.inl (by simp)⟩
   ·intro t cs ht;have ht:av (rp++ro) t= .box cs:=ht;rcases hkk t with hk|⟨hk1,PH,hk⟩
    ·rw [hk] at ht;exact .inl ⟨aau _ (IH t cs ht).1,trivial⟩
    ·rw [hk,ahx] at ht;split at ht
     ·right;refine ⟨?_,?_,?_⟩
      ·have hs:=h.slot t;have DG:av (St.fr ⟨p,q,fr,m⟩) t= .box cs:=ht;rw [DG] at hs;refine Sp hs.2.cS ?_;rw [<-Tr.1];exact m1 t hk1
      ·intro t2 qw wN uf;obtain ⟨g1,Hp,g2⟩:=IH t2 qw wN;exact h.bb t2 t Hp cs g2 ht (by intro he;subst he;exact m3 t2 hk1 g1) uf
      ·intro f o ho uf;obtain ⟨_,o0,g1,_⟩:=Aj f o ho;exact h.bf t cs f o0 ht g1 uf
     ·cases ht
   ·intro f o b ho hb;have ho:aQ (mp++mo) f=some o:=ho;rw [vz] at ho;cases Lt:aQ mp f with
    |some o1=>exact .inl ⟨aau _ (Aj f o1 Lt).1,trivial⟩
    |none=>
     right;simp only [Lt] at ho;obtain ⟨g0,o0,g1,_⟩:=hmo f o ho;obtain ⟨I,cells,_,_,_,_,g5⟩:=(h.iC f o0 g1).row;refine ⟨Sp (g5 b hb).1 (by rw [<-Tr.2];exact m2 f g0),?_,?_⟩
     ·intro t cs ht uf;obtain ⟨_,Hp,k2⟩:=IH t cs ht;exact h.bf t Hp f o0 k2 g1 (by rw [uf];exact hb)
     ·intro f2 o2 cU uf;obtain ⟨k0,o20,k1,_⟩:=Aj f2 o2 cU;have:=h.ff f f2 o0 o20 b g1 k1 hb uf;subst this;exact m4 f g0 k0
   ·intro f o I cells b ho hp hz hI eW hb j hj;have ho:aQ (mp++mo) f=some o:=ho;rw [vz] at ho;cases Lt:aQ mp f with
    |some o1=>simp only [Lt,AT] at ho;subst ho;exact adE f o1 I cells b Lt hz hI eW hb j hj
    |none=>
     simp only [Lt] at ho;obtain ⟨g0,_⟩:=hmo f o ho;exfalso;rcases acX.1 hp with hp|hp
     ·exact m4 f g0 hp
     ·exact m2 f g0 hp
  ·refine ⟨af3 Z p q Tr.1 Tr.2 h.defers.2.2.2 (λ_ h=>h) ?_ ?_ f3.cS,af4,rR,λt ht=>aaJ _ (by rw [Tr.1];exact ht),λ_ _=>rfl,λt ht=>aau _ (ahy t ht),?_,?_,?_,?_,Zz,adR⟩
   ·intro t cs ht;obtain ⟨_,Hp,g2⟩:=IH t cs ht;have hs:=h.slot t;have g2':av (St.fr ⟨p,q,fr,m⟩) t= .box Hp:=g2;rw [g2'] at hs;exact hs.2.cS
   ·intro f o b ho hb;obtain ⟨_,o0,g1,_⟩:=Aj f o ho;obtain ⟨I,cells,_,_,_,_,g5⟩:=(h.iC f o0 g1).row;exact (g5 b hb).1
   ·intro t cs ht hz;exact hz.2.1 t cs ht rfl
   ·intro f o b ho hb hz;exact hz.2.2 f o ho hb
   ·intro t ht;exact ⟨by rw [<-Tr.1];exact m1 t ht,by show t∉hn.cI++p;simp only [acX,not_or];exact ⟨m3 t ht,m1 t ht⟩⟩
   ·intro f hf;refine ⟨by rw [<-Tr.2];exact m2 f hf,?_⟩;cases Lt:aQ mp f with
    |none=>first|exact Lt|rfl
    |some o1=>exact absurd (Aj f o1 Lt).1 (m4 f hf)
  ·refine ⟨af3 Zi _ _ rfl rfl (λ_ _=>rfl) (λt ht=>aaJ _ (by rw [Tr.1];exact ht)) ?_ ?_ rR,λb hb=>hb,rR,λt ht=>ht,λ_ _=>rfl,λt ht=>aau _ (ahy t ht),?_,?_,?_,?_,Zz,adR⟩
   ·intro t cs ht;exact .inl ⟨aau _ (IH t cs ht).1,trivial⟩
   ·intro f o b ho hb;exact .inl ⟨aau _ (Aj f o ho).1,trivial⟩
   ·intro t cs ht hz;exact hz.2.1 t cs ht rfl
   ·intro f o b ho hb hz;exact hz.2.2 f o ho hb
   ·intro t ht;have:t∉hn.cI++p:=by simp only [acX,not_or];exact ⟨m3 t ht,m1 t ht⟩
    exact ⟨this,this⟩
   ·intro f hf;refine ⟨by show f∉hn.db++q;simp only [acX,not_or];exact ⟨m4 f hf,m2 f hf⟩,?_⟩;cases Lt:aQ mp f with
    |none=>first|exact Lt|rfl
    |some o1=>exact absurd (Aj f o1 Lt).1 (m4 f hf)
theorem Ak {K2:St->St->Option R}(h:b9 c Z e st a w)(hK:CL c hn st K2=some r): ∃Zi e1 e2 cR ef,b9 c Zi e1 cR a w/\Trans Z.In e.φ w e1.φ w/\e2.φ=e1.φ/\e2.key=e1.key/\kV c Z Zi e2 (wg st ef) hn a w/\kV c Zi Zi e2 ef hn a w/\(∀b,Zi.In b->Z.In b)/\fB c hn.all=true/\K2 cR ef=some r:=by unfold CL at hK;obtain ⟨Zi,e1,e2,cR,ef,h1,t1,hφ,hk,j1,j2,iy,jJ,hK⟩:=WM h hK;obtain ⟨fr,g1,g2⟩:=Ix h (Ql h.nodup) h1 hK;exact ⟨Zi,e1,e2,_,ef,g1,t1,hφ,hk,j1,j2,iy,jJ,g2⟩
end
end Dn
/-
  What a piece of code hands on. Conditions: none.
-/
namespace Dn
open Go
section
variable {P:Program}{c:Ctx}{Z Zb Zi:bI} {e e' e3:Env}{st bZ pC B:St} {a a':Act} {w w':World}{R:Type}{K:St->Option R}{r:R}{Q:Exit->Act->World->Prop}{o:Oper}{hn:pv}
structure Ev (S:Nat->Prop) (e e':Env):Prop where
 key:e'.key=e.key
 φ:e'.φ=e.φ
 iC: ∀f o,aQ e'.m f=some o->S f->(∃o0,aQ e.m f=some o0)/\e'.E f=e.E f
theorem Ev.refl (S:Nat->Prop)(e:Env):Ev S e e:=⟨rfl,rfl,λf o h _=>⟨⟨o,h⟩,rfl⟩⟩
theorem Ev.trans {S:Nat->Prop} {e e' e'':Env}(h:Ev S e e') (h':Ev S e' e''):Ev S e e'':=⟨h'.key.trans h.key,h'.φ.trans h.φ,λf o ho hs=>by obtain ⟨⟨o1,g1⟩,g2⟩:=h'.iC f o ho hs;obtain ⟨g3,g4⟩:=h.iC f o1 g1 hs;exact ⟨g3,g2.trans g4⟩⟩
theorem Ev.adS {S S':Nat->Prop} {e e':Env}(h:Ev S e e')(hs: ∀f,S' f->S f):Ev S' e e':=⟨h.key,h.φ,λf o ho hf=>h.iC f o ho (hs f hf)⟩
theorem aX.ev {S:Nat->Prop}(h:Ev S e e'){vs:List Value}{l:aE}(hl: ∀f,l= .own f->S f)(hr:aX e vs l):aX e' vs l:=by
 cases l with
 |own f=>obtain ⟨v,rfl,hv,hf⟩:=hr;refine ⟨v,rfl,hv,λo' Li=> ?_⟩;obtain ⟨⟨o,ho⟩,hE⟩:=h.iC f o' Li (hl f rfl);rw [hE];exact hf o ho
 |p m=>exact ⟨hr.1,by rw [h.key,h.φ];exact hr.2⟩
 |_=>exact hr
theorem ay.ev {S:Nat->Prop}(h:Ev S e e'){cs:List aE}: ∀{vs:List Value},(∀f,aE.own f∈cs->S f)->ay e vs cs->ay e' vs cs:=by
 induction cs with
 |nil=>intro vs _ hr;exact hr
 |cons l r ih=>intro vs hl hr;obtain ⟨v,u,rfl,h1,h2⟩:=hr;exact ⟨v,u,rfl,h1.ev h (λf hf=>hl f (by simp [hf])),ih (λf hf=>hl f (by simp [hf])) h2⟩
theorem lc.ev {S:Nat->Prop}(h:Ev S e e'){ob:Obj}{cs:List aE}(hl: ∀f,aE.own f∈cs->S f)(hr:lc e ob cs):lc e' ob cs:=by
 cases ob with
 |cells arr T z=>exact ⟨hr.1,hr.2.ev h hl⟩
 |map es clock=>exact hr
 |stringIter x pos=>exact hr
 |_=>exact hr.elim
theorem ah.ev {S:Nat->Prop}(h:Ev S e e'){v:Value}{s:Slot}(hp:dW s=false)(hl: ∀f,aE.own f∈pD s->S f)(hr:ah e v s):ah e' v s:=by
 have ZO:mF (λ_=>False) (λ_=>False) e e':=⟨h.key,by rw [h.φ];exact .refl _,λ_ hf=>hf.elim,λ_ _ _ hf=>hf.elim⟩
 cases s with
 |sc l=>
  cases l<;>first|exact hr|skip
  ·exact aX.ev (l:= .p _) h (λf hf=>by cases hf) hr
  ·rename_i f;exact aX.ev (l:= .own f) h (λf hf=>hl f (by simp [pD,hf])) hr
 |ag cs=>simp only [ah] at hr⊢;obtain ⟨arr,h1,h2⟩:=hr;exact ⟨arr,h1,h2.ev h (λf hf=>hl f hf)⟩
 |tg cs=>simp only [ah] at hr⊢;obtain ⟨arr,h1,h2⟩:=hr;exact ⟨arr,h1,h2.ev h (λf hf=>hl f hf)⟩
 |ptr=>simp [dW] at hp
 |zT=>simp [dW] at hp
 |rp=>simp [dW] at hp
 |hp=>simp [dW] at hp
 |ep=>simp [dW] at hp
 |_=>exact hr.on ZO (by simp [hM])
theorem wY {fr:Fr}{s:Slot}(h:dW s=false):dc fr s:=by cases s<;>simp [dW] at h<;>trivial
theorem b9.adT {t:Nat}{s:Slot}(h:b9 c Z e st a w)(hp: ∀t,dW (av st.fr t)=false)(hs:dW s=false)(hb:dy s=false)(hr:ah e (a.tmps.getD t undef) s): b9 c Z e {st with fr:=dt st.fr t s} a w:=by
 have hg: ∀t',av (dt st.fr t s) t'=if t'=t then s else av st.fr t':=λt'=>cj _ _ _ _
 have uZ: ∀t' cs,av (dt st.fr t s) t'= .box cs->t'≠t/\av st.fr t'= .box cs:=by
  intro t' cs ht;rw [hg] at ht;by_cases wj:t'=t
  ·rw [if_pos wj] at ht;subst ht;simp [dy] at hb
  ·rw [if_neg wj] at ht;exact ⟨wj,ht⟩
 refine ⟨h.defers,h.size,h.m,h.key,iN h.nodup,?_,?_,h.iC,?_,?_,h.ff,h.kP,h.cS⟩
 ·intro t';show cn Z e w t' _ (av (dt st.fr t s) t');rw [hg];by_cases wj:t'=t
  ·subst wj;simp only [if_true];cases s<;>first|exact hr|(simp [dy] at hb)
  ·simp only [wj,if_false];exact h.slot t'
 ·intro t';show dc _ (av (dt st.fr t s) t');rw [hg];by_cases wj:t'=t
  ·simp only [wj,if_true];exact wY hs
  ·simp only [wj,if_false];exact wY (hp t')
 ·intro t1 t2 c1 c2 h1 h2 di;exact h.bb t1 t2 c1 c2 (uZ t1 c1 h1).2 (uZ t2 c2 h2).2 di
 ·intro t1 c1 f o h1 h2;exact h.bf t1 c1 f o (uZ t1 c1 h1).2 h2
theorem b9.ahA {t bt:Nat}{cs:List aE}(h:b9 c Z e st a w)(hp: ∀t,dW (av st.fr t)=false)(hv:tied Z t (a.tmps.getD t undef) cs bt)(B2:vj (Z.bz t) e w bt cs)(h1: ∀t' kR,av st.fr t'= .box kR->t'≠t->e.B t'≠bt)(h2: ∀f o,aQ st.bo f=some o->(e.E f).ownBlock≠some bt): b9 c Z (e.DF t bt) {st with fr:=dt st.fr t (.box cs)} a w:=by
 have uX:mF (λ_=>True) (λ_=>False) e (e.DF t bt):=⟨rfl,.refl _,λr hr=>hr.elim,λf o ho _=>⟨o,ho,rfl,rfl⟩⟩
 have hg: ∀t',av (dt st.fr t (.box cs)) t'=if t'=t then .box cs else av st.fr t':=λt'=>cj _ _ _ _
 refine ⟨h.defers,h.size,h.m,h.key,iN h.nodup,?_,?_,λf o ho=>(h.iC f o ho).env rfl rfl,?_,?_,h.ff,h.kP,h.cS⟩
 ·intro t';show cn Z _ w t' _ (av (dt st.fr t (.box cs)) t');rw [hg];by_cases wj:t'=t
  ·subst wj;simp only [if_true,cn,Env.DF];exact ⟨hv,B2.env rfl rfl rfl rfl⟩
  ·simp only [wj,if_false];have hs:=h.slot t';have Hn:=hp t';generalize av st.fr t'=s at hs Hn;cases s<;>simp only [cn] at hs⊢ <;>first|(simp [dW] at Hn;done)|exact hs.on uX (by simp [hM,j0])|skip
   simp only [Env.DF,wj,if_false];exact ⟨hs.1,hs.2.env rfl rfl rfl rfl⟩
 ·intro t';show dc _ (av (dt st.fr t (.box cs)) t');rw [hg];by_cases wj:t'=t
  ·simp only [wj,if_true];trivial
  ·simp only [wj,if_false];exact wY (hp t')
 ·intro t1 t2 c1 c2 g1 g2 di;have g1:av (dt st.fr t (.box cs)) t1= .box c1:=g1;have g2:av (dt st.fr t (.box cs)) t2= .box c2:=g2;rw [hg] at g1 g2;simp only [Env.DF];by_cases k1:t1=t
  ·by_cases k2:t2=t
   ·exact absurd (k1.trans k2.symm) di
   ·rw [if_neg k2] at g2;simp only [k1,k2,if_true,if_false];exact λhe=>h1 t2 c2 g2 k2 he.symm
  ·rw [if_neg k1] at g1;by_cases k2:t2=t
   ·simp only [k1,k2,if_true,if_false];exact h1 t1 c1 g1 k1
   ·rw [if_neg k2] at g2;simp only [k1,k2,if_false];exact h.bb t1 t2 c1 c2 g1 g2 di
 ·intro t1 c1 f o g1 g2;have g1:av (dt st.fr t (.box cs)) t1= .box c1:=g1;rw [hg] at g1;simp only [Env.DF];by_cases k1:t1=t
  ·simp only [k1,if_true];exact h2 f o g2
  ·rw [if_neg k1] at g1;simp only [k1,if_false];exact h.bf t1 c1 f o g1 g2
def Env.Ol (e:Env)(f:Nat)(v:Value)(fo:pn):Env:={e with E:=λg=>if g=f then v else e.E g,m:=cb e.m f fo}
theorem b9.aaa {f:Nat}{v:Value}{fo:pn}(h:b9 c Z e st a w)(hp: ∀t,dW (av st.fr t)=false)(zN:f∉Z.db)(jK:cT c Z.nc e w v fo)(hb: ∀b,v.ownBlock=some b->(∀t cs,av st.fr t= .box cs->e.B t≠b)/\(∀g o,g≠f->aQ st.bo g=some o->(e.E g).ownBlock≠some b))(K7:Ev (λg=> ∃t,aE.own g∈pD (av st.fr t)) e (e.Ol f v fo)):b9 c Z (e.Ol f v fo) {st with bo:=cb st.bo f fo} a w:=by
 refine ⟨h.defers,h.size,by show cb e.m f _=cb st.bo f _;rw [h.m],h.key,h.nodup,?_,h.root,?_,h.bb,?_,?_,h.kP,h.cS⟩
 ·intro t;have hs:=h.slot t;have hl: ∀f,aE.own f∈pD (av st.fr t)-> ∃t,aE.own f∈pD (av st.fr t):=λf hf=>⟨t,hf⟩
  have hpt:=hp t;show cn Z _ w t _ (av st.fr t);generalize av st.fr t=s at hs hpt hl;by_cases NZ: ∃cs,s= .box cs
  ·obtain ⟨cs,rfl⟩:=NZ;simp only [cn] at hs⊢;obtain ⟨o2,h1,h2⟩:=hs.2.obj;exact ⟨hs.1,hs.2.cS,⟨o2,h1,h2.ev K7 hl⟩,hs.2.free⟩
  ·have zb:ah e (a.tmps.getD t undef) s:=by cases s<;>simp only [cn] at hs<;>first|exact hs|exact absurd ⟨_,rfl⟩ NZ
   have h2:=zb.ev K7 hpt hl;cases s<;>first|exact h2|exact absurd ⟨_,rfl⟩ NZ
 ·intro f2 o2 cU;have cU:aQ (cb st.bo f fo) f2=some o2:=cU;rw [bx] at cU;show cT c (Z.fz f2) _ w (if f2=f then v else e.E f2) o2;by_cases ga:f2=f
  ·rw [if_pos ga];rw [if_pos ga] at cU;cases cU;rw [ga];exact (jK.to zN).env rfl rfl
  ·rw [if_neg ga];rw [if_neg ga] at cU;exact (h.iC f2 o2 cU).env rfl rfl
 ·intro t c1 f2 o2 h1 h2;have h2:aQ (cb st.bo f fo) f2=some o2:=h2;rw [bx] at h2;show (if f2=f then v else e.E f2).ownBlock≠some (e.B t);by_cases ga:f2=f
  ·rw [if_pos ga];intro hh;exact (hb _ hh).1 t c1 h1 rfl
  ·rw [if_neg ga] at h2⊢;exact h.bf t c1 f2 o2 h1 h2
 ·intro f1 f2 o1 o2 k h1 h2 h3 h4;have h1:aQ (cb st.bo f fo) f1=some o1:=h1;have h2:aQ (cb st.bo f fo) f2=some o2:=h2;have h3:(if f1=f then v else e.E f1).ownBlock=some k:=h3;have h4:(if f2=f then v else e.E f2).ownBlock=some k:=h4;rw [bx] at h1 h2;by_cases k1:f1=f
  ·by_cases k2:f2=f
   ·rw [k1,k2]
   ·rw [if_pos k1] at h3;rw [if_neg k2] at h4 h2;exact absurd h4 ((hb k h3).2 f2 o2 k2 h2)
  ·rw [if_neg k1] at h3 h1;by_cases k2:f2=f
   ·rw [if_pos k2] at h4;exact absurd h3 ((hb k h4).2 f1 o1 k1 h1)
   ·rw [if_neg k2] at h4 h2;exact h.ff f1 f2 o1 o2 k h1 h2 h3 h4
inductive TK (st:St) (ps:List (Nat×Nat)):LK->aE->MV->List (Nat×Nat)->Prop
 |Oe:TK st ps (.k .l) .nil (.list []) ps
 |hs (x:pk):TK st ps (.k .h) (.hs x) (.h x) ps
 |p (x:Kd) (m:MV):TK st ps (.k x) (.p m) m ps
 |own (f ty:Nat) (fb:Bool) (g:Nat) (o:pn):aQ st.bo g=some o->o.ty=ty->(o.fb=true->fb=true)->g∉st.db->nM ps f (g+1)=true->TK st ps (.own f ty fb) (.own g) (.list o.xs) ((f,g+1)::ps)
 |yb (f ty:Nat) (fb:Bool):nM ps f 0=true->TK st ps (.own f ty fb) .nil (.list []) ((f,0)::ps)
theorem Ts {k:Kd}{m:MV} {K':aE->Option R}(h:kn k m K'=some r): ∃l,K' l=some r:=by obtain ⟨l,_,h⟩:=oN (e:=⟨λn=>n,λ_ _=>none,λ_=>undef,λ_=>0,[]⟩) (vs:=[]) h;exact ⟨l,h⟩
theorem Qu {ps:List (Nat×Nat)}{k:LK}{l:aE} {K':MV->List (Nat×Nat)->Option R}(h:NL st ps k l K'=some r): ∃m kU,TK st ps k l m kU/\K' m kU=some r:=by
 unfold NL at h;split at h
 ·exact ⟨_,_,.Oe,h⟩
 ·exact ⟨_,_,.hs _,h⟩
 ·obtain ⟨_,h⟩:=Ts h;exact ⟨_,_,.p _ _,h⟩
 ·rename_i f ty fb g;cases ho:aQ st.bo g with
  |none=>simp [ho] at h
  |some o=>
   simp only [ho] at h;cases hc:!BY o.ty ty||(o.fb&&!fb)||bJ st.db g||!nM ps f (g+1) with
   |true=>simp [hc] at h
   |false=>
    simp only [hc,cond_false] at h;simp only [OF,acW] at hc;obtain ⟨⟨⟨h1,h2⟩,h3⟩,h4⟩:=hc;refine ⟨_,_,.own f ty fb g o ho (cV h1) ?_ ?_ h4,h⟩
    ·intro hz;rw [hz] at h2;simpa using h2
    ·rw [<-bL,h3];simp
 ·rename_i f ty fb;cases hc:nM ps f 0 with
  |false=>simp [hc] at h
  |true=>simp only [hc,cond_true] at h;exact ⟨_,_,.yb f ty fb hc,h⟩
 ·simp at h
theorem Gu {ps:List (Nat×Nat)}{f g:Nat}(h:nM ps f g=true):(∀b,(f,b)∈ps->b=g/\g≠0)/\(∀x,(x,g)∈ps->x≠f->g=0):=by
 induction ps with
 |nil=>simp
 |cons p ps ih=>
  obtain ⟨x,y⟩:=p;simp only [nM,sh,eO] at h;obtain ⟨h1,h2⟩:=h;obtain ⟨i1,i2⟩:=ih h2;refine ⟨?_,?_⟩
  ·intro b hb;rcases AI.1 hb with hb|hb
   ·cases hb;simp at h1;exact ⟨h1.1,h1.2⟩
   ·exact i1 b hb
  ·intro z hz di;rcases AI.1 hz with hz|hz
   ·cases hz;simp [di] at h1;exact h1
   ·exact i2 z hz di
structure Inv (c:Ctx) (Zb Zi:bI) (e3:Env) (pC:St) (F:List Nat) (ps:List (Nat×Nat)) (e:Env) (st:St) (a:Act) (w:World):Prop where
 uh:b9 c Zb e st a w
 φ:e.φ=e3.φ
 box: ∀t cs,av st.fr t= .box cs-> ¬Zi.In (e.B t)\/(e.B t=e3.B t/\ ∃xJ,av pC.fr t= .box xJ)
 iC: ∀f o b,aQ st.bo f=some o->(e.E f).ownBlock=some b-> ¬Zi.In b\/ ∃g,(f,g+1)∈ps
 pair: ∀f g,(f,g+1)∈ps->e.E f=e3.E g/\ ∃o3,aQ pC.bo g=some o3
 has: ∀f x,(f,x)∈ps-> ∃o,aQ st.bo f=some o
 own: ∀f∈F,∀o,aQ st.bo f=some o-> ∃x,(f,x)∈ps
 ptr: ∀t,dW (av st.fr t)=false
 YD: ∀t f,aE.own f∈pD (av st.fr t)->f∉F\/ ∃x,(f,x)∈ps
theorem WN {F:List Nat}{ps kU:List (Nat×Nat)}{k:LK}{l:aE}{m:MV}{vs:List Value} {K':aE->St->Option R}(hi:Inv c Zb Zi e3 pC F ps e st a w)(h3:b9 c Zi e3 pC a w)(iy: ∀b,Zi.In b->Zb.In b)(hF: ∀f∈cB [k],f∈F/\f∉Zb.db)(hl:aX e3 vs l)(ht:TK pC ps k l m kU)(hK:kZ st k m K'=some r)(jJ: ∀f ty fb,k= .own f ty fb-> ∃I,c.ti ty=some I/\I.cQ=[]): ∃e' bZ l',K' l' bZ=some r/\Inv c Zb Zi e3 pC F kU e' bZ a w/\aX e' vs l'/\bZ.fr=st.fr/\Ev (λf=>f∉F\/ ∃x,(f,x)∈ps) e e'/\(∀p∈ps,p∈kU)/\(∀f,l'= .own f-> ∃x,(f,x)∈kU)/\e'.B=e.B/\l'≠ .un:=by
 have hkφ: ∀{vs m},jz e3.key e3.φ vs m->jz e.key e.φ vs m:=by intro vs m h;rw [hi.φ,hi.uh.key,<-h3.key];exact h
 have simple: ∀{x:Kd} {m:MV},jz e3.key e3.φ vs m->(kn x m λl=>K' l st)=some r-> ∃e' bZ l',K' l' bZ=some r/\Inv c Zb Zi e3 pC F ps e' bZ a w/\aX e' vs l'/\bZ.fr=st.fr/\Ev (λf=>f∉F\/ ∃x,(f,x)∈ps) e e'/\(∀p∈ps,p∈ps)/\(∀f,l'= .own f-> ∃x,(f,x)∈ps)/\e'.B=e.B/\l'≠ .un:=by
  intro x m hr hK;obtain ⟨l',Ff,hK⟩:=oN (e:=e) (vs:=vs) hK;refine ⟨e,st,l',hK,hi,Ff.Ws (hkφ hr),rfl,.refl _ _,λp hp=>hp,λf hf=> ?_,rfl,λhu=> ?_⟩
  ·have:=Ff.Yy;rw [hf] at this;simp [uc] at this
  ·have:=Ff.Yy;rw [hu] at this;simp [uc] at this
 cases ht with
 |Oe=>have hl:vs=[.slice none 0 0]:=hl;subst hl;exact simple (x:= .l) (.list none 0 [] 0 0 0 (λ_=>[]) (by simp) (by simp) (by simp) (by simp) (by simp)) hK
 |hs x=>have hl:vs=cc x:=hl;subst hl;exact simple (x:= .h) (.h x) hK
 |p x m=>exact simple hl.2 hK
 |own f ty fb g o3 ho als hfz hg hpo=>
  obtain ⟨v,rfl,hv,hE⟩:=hl;have hE:=hE o3 (by rw [h3.m];exact ho);obtain ⟨hfF,hfp⟩:=hF f (by simp [cB]);obtain ⟨p1,p2⟩:=Gu hpo;simp only [kZ,gL,pz] at hK;have hgz:g∉Zi.db:=by rw [<-h3.defers.2.2.1];exact hg
  obtain ⟨I,cells,q1,q2,q3,q4,q5⟩:=(h3.iC g o3 ho).row;have qB: ∀b,v.ownBlock=some b->Zi.In b:=λb hb=>Sp (q5 b (by rw [<-hE];exact hb)).1 hgz;have jK:cT c Zb.nc e w v ⟨ty,fb,o3.xs⟩:=by refine ⟨I,cells,by rw [<-als];exact q1,q2,by rw [<-als,hE];exact q3,by rw [hi.φ,hi.uh.key,<-h3.key];exact q4,λbt hb=>⟨iy _ (qB bt hb),λoff u hu=> ?_,λhc=>hc.elim⟩⟩;rw [hi.φ] at hu;obtain ⟨k1,k2⟩:=(q5 bt (by rw [<-hE];exact hb)).2.1 off u hu;exact ⟨hfz k1,k2⟩
  have hold: ∀x,(f,x)∈ps->e.E f=v:=by intro x hx;have:=(p1 x hx).1;subst this;rw [(hi.pair f g hx).1,hE]
  have aab: ∀S:Nat->Prop,(S f-> ∃x,(f,x)∈ps)->Ev S e (e.Ol f v ⟨ty,fb,o3.xs⟩):=by
   intro S hS;refine ⟨rfl,rfl,λf2 o2 cU hs=> ?_⟩;have cU:aQ (cb e.m f ⟨ty,fb,o3.xs⟩) f2=some o2:=cU;rw [bx] at cU;by_cases ga:f2=f
   ·subst ga;obtain ⟨x,hx⟩:=hS hs;obtain ⟨o0,h0⟩:=hi.has f2 x hx;exact ⟨⟨o0,by rw [hi.uh.m];exact h0⟩,by simp only [Env.Ol,if_true];exact (hold x hx).symm⟩
   ·rw [if_neg ga] at cU;exact ⟨⟨o2,cU⟩,by simp only [Env.Ol,ga,if_false]⟩
  have It: ∀b,v.ownBlock=some b->(∀t cs,av st.fr t= .box cs->e.B t≠b)/\(∀g' o',g'≠f->aQ st.bo g'=some o'->(e.E g').ownBlock≠some b):=by
   intro b hb;refine ⟨λt cs B2 hbt=> ?_,λg' o' di hog hbg=> ?_⟩
   ·rcases hi.box t cs B2 with h0|⟨h0,xJ,h1⟩
    ·exact h0 (by rw [hbt];exact qB b hb)
    ·exact h3.bf t xJ g o3 h1 ho (by rw [<-hE,<-h0,hbt];exact hb)
   ·rcases hi.iC g' o' b hog hbg with h0|⟨x,h0⟩
    ·exact h0 (qB b hb)
    ·obtain ⟨h5,o5,h6⟩:=hi.pair g' x h0;rw [h5] at hbg;have:=h3.ff g x o3 o5 b ho h6 (by rw [<-hE];exact hb) hbg;subst this;have:=p2 g' h0 di;omega
  have ta:=hi.uh.aaa hi.ptr hfp jK It (aab _ (λ⟨t,hm⟩=>(hi.YD t f hm).resolve_left (λhn=>hn hfF)));refine ⟨_,_,.own f,hK,⟨ta,hi.φ,hi.box,?_,?_,?_,?_,hi.ptr,?_⟩,?_,rfl,aab _ (λhs=>hs.resolve_left (λhn=>hn hfF)),λp hp=>by simp [hp],λf' Zp=>by cases Zp;exact ⟨g+1,by simp⟩,rfl,λhu=>by cases hu⟩
  ·intro f2 o2 b cU hb;have cU:aQ (cb st.bo f ⟨ty,fb,o3.xs⟩) f2=some o2:=cU;have hb:(if f2=f then v else e.E f2).ownBlock=some b:=hb;rw [bx] at cU;by_cases ga:f2=f
   ·subst ga;exact .inr ⟨g,by simp⟩
   ·rw [if_neg ga] at cU hb;rcases hi.iC f2 o2 b cU hb with h0|⟨x,h0⟩
    ·exact .inl h0
    ·exact .inr ⟨x,by simp [h0]⟩
  ·intro f2 g2 hp;show (if f2=f then v else e.E f2)=_/\_;rcases AI.1 hp with Mk|Mk
   ·simp only [abB,ac8] at Mk;obtain ⟨rfl,rfl⟩:=Mk;simp only [if_true];exact ⟨hE,o3,ho⟩
   ·by_cases ga:f2=f
    ·subst ga;have:=(p1 _ Mk).1;have:g2=g:=by omega
     subst this;simp only [if_true];exact ⟨hE,o3,ho⟩
    ·rw [if_neg ga];exact hi.pair f2 g2 Mk
  ·intro f2 x hp;show∃o,aQ (cb st.bo f ⟨ty,fb,o3.xs⟩) f2=some o;rw [bx];by_cases ga:f2=f
   ·rw [if_pos ga];exact ⟨_,rfl⟩
   ·rw [if_neg ga];rcases AI.1 hp with hp|hp
    ·exact absurd (Prod.mk.inj hp).1 ga
    ·exact hi.has f2 x hp
  ·intro f2 Dt o2 cU;have cU:aQ (cb st.bo f ⟨ty,fb,o3.xs⟩) f2=some o2:=cU;rw [bx] at cU;by_cases ga:f2=f
   ·subst ga;exact ⟨g+1,by simp⟩
   ·rw [if_neg ga] at cU;obtain ⟨x,hx⟩:=hi.own f2 Dt o2 cU;exact ⟨x,by simp [hx]⟩
  ·intro t f2 hm;rcases hi.YD t f2 hm with h0|⟨x,hx⟩
   ·exact .inl h0
   ·exact .inr ⟨x,by simp [hx]⟩
  ·exact ⟨v,rfl,hv,λo' _=>by simp [Env.Ol]⟩
 |yb f ty fb hpo=>
  have hl:vs=[.slice none 0 0]:=hl;subst hl;obtain ⟨hfF,hfp⟩:=hF f (by simp [cB]);obtain ⟨p1,_⟩:=Gu hpo;have B3: ∀x,(f,x)∉ps:=λx hx=>(p1 x hx).2 rfl;simp only [kZ,gL,pz] at hK;obtain ⟨I,hI,hIc⟩:=jJ f ty fb rfl;have jK:cT c Zb.nc e w (.slice none 0 0) ⟨ty,fb,[]⟩:=⟨I,[],hI,hIc,⟨by simp,.inl ⟨rfl,rfl⟩⟩,rfl,λbt hb=>by simp [IT] at hb⟩
  have aab: ∀S:Nat->Prop,(S f->False)->Ev S e (e.Ol f (.slice none 0 0) ⟨ty,fb,[]⟩):=by
   intro S hS;refine ⟨rfl,rfl,λf2 o2 cU hs=> ?_⟩;have cU:aQ (cb e.m f ⟨ty,fb,[]⟩) f2=some o2:=cU;rw [bx] at cU;by_cases ga:f2=f
   ·subst ga;exact (hS hs).elim
   ·rw [if_neg ga] at cU;exact ⟨⟨o2,cU⟩,by simp only [Env.Ol,ga,if_false]⟩
  have ta:=hi.uh.aaa hi.ptr hfp jK (λb hb=>by simp [IT] at hb) (aab _ (λ⟨t,hm⟩=>(hi.YD t f hm).elim (λhn=>hn hfF) (λ⟨x,hx⟩=>B3 x hx)));refine ⟨_,_,.own f,hK,⟨ta,hi.φ,hi.box,?_,?_,?_,?_,hi.ptr,?_⟩,?_,rfl,aab _ (λhs=>hs.elim (λhn=>hn hfF) (λ⟨x,hx⟩=>B3 x hx)),λp hp=>by simp [hp],λf' Zp=>by cases Zp;exact ⟨0,by simp⟩,rfl,λhu=>by cases hu⟩
  ·intro f2 o2 b cU hb;have cU:aQ (cb st.bo f ⟨ty,fb,[]⟩) f2=some o2:=cU;have hb:(if f2=f then adf none 0 0 else e.E f2).ownBlock=some b:=hb;rw [bx] at cU;by_cases ga:f2=f
   ·rw [if_pos ga] at hb;simp [IT] at hb
   ·rw [if_neg ga] at cU hb;rcases hi.iC f2 o2 b cU hb with h0|⟨x,h0⟩
    ·exact .inl h0
    ·exact .inr ⟨x,by simp [h0]⟩
  ·intro f2 g2 hp;show (if f2=f then adf none 0 0 else e.E f2)=_/\_;rcases AI.1 hp with Mk|Mk
   ·simp at Mk
   ·by_cases ga:f2=f
    ·subst ga;exact absurd Mk (B3 _)
    ·rw [if_neg ga];exact hi.pair f2 g2 Mk
  ·intro f2 x hp;show∃o,aQ (cb st.bo f ⟨ty,fb,[]⟩) f2=some o;rw [bx];by_cases ga:f2=f
   ·rw [if_pos ga];exact ⟨_,rfl⟩
   ·rw [if_neg ga];rcases AI.1 hp with hp|hp
    ·exact absurd (Prod.mk.inj hp).1 ga
    ·exact hi.has f2 x hp
  ·intro f2 Dt o2 cU;have cU:aQ (cb st.bo f ⟨ty,fb,[]⟩) f2=some o2:=cU;rw [bx] at cU;by_cases ga:f2=f
   ·subst ga;exact ⟨0,by simp⟩
   ·rw [if_neg ga] at cU;obtain ⟨x,hx⟩:=hi.own f2 Dt o2 cU;exact ⟨x,by simp [hx]⟩
  ·intro t f2 hm;rcases hi.YD t f2 hm with h0|⟨x,hx⟩
   ·exact .inl h0
   ·exact .inr ⟨x,by simp [hx]⟩
  ·exact ⟨_,rfl,rfl,λo' _=>by simp [Env.Ol]⟩
end
end Dn
/-
  What a piece of code hands on: all of it. Conditions: none.
-/
namespace Dn
open Go
theorem Tt {c:Ctx}{ks:List LK}(h:kp c ks=true): ∀f ty fb,LK.own f ty fb∈ks-> ∃I,c.ti ty=some I/\I.cQ=[]:=by
 induction ks with
 |nil=>intro f ty fb hm;simp at hm
 |cons k ks ih=>
  intro f ty fb hm;cases k with
  |k x=>
   simp only [kp] at h;rcases AI.1 hm with hm|hm
   ·cases hm
   ·exact ih h f ty fb hm
  |own f' ty' apL=>
   simp only [kp] at h;cases hI:c.tv ty' with
   |none=>simp [hI] at h
   |some I=>
    simp only [hI] at h;rcases AI.1 hm with hm|hm
    ·cases hm;exact ⟨I,bG hI⟩
    ·exact ih h f ty fb hm
theorem Gv (k:LK)(ks:List LK):cB (k::ks)=cB [k]++cB ks:=by cases k<;>simp [cB]
section
variable {P:Program}{c:Ctx}{Z Zb Zi:bI} {e e' e3:Env}{st bZ pC B:St} {a a':Act} {w w':World}{R:Type}{K:St->Option R}{r:R}{Q:Exit->Act->World->Prop}{o:Oper}{hn:pv}
inductive TKs (st:St):List (Nat×Nat)->List LK->List aE->List MV->List (Nat×Nat)->Prop
 |nil (ps):TKs st ps [] [] [] ps
 |cons {ps ps1 ps2 k l m ks ls ms}:TK st ps k l m ps1->TKs st ps1 ks ls ms ps2->TKs st ps (k::ks) (l::ls) (m::ms) ps2
theorem yc {ks:List LK}: ∀{ps:List (Nat×Nat)} {ls:List aE} {K':List MV->List (Nat×Nat)->Option R},ma st ps ks ls K'=some r-> ∃ms kU,TKs st ps ks ls ms kU/\K' ms kU=some r:=by
 induction ks with
 |nil=>
  intro ps ls K' h;cases ls with
  |nil=>exact ⟨[],ps,.nil ps,h⟩
  |cons=>simp [ma] at h
 |cons k ks ih=>
  intro ps ls K' h;cases ls with
  |nil=>simp [ma] at h
  |cons l ls=>simp only [ma] at h;obtain ⟨m,ps1,h1,h⟩:=Qu h;obtain ⟨ms,ps2,h2,h⟩:=ih h;exact ⟨m::ms,ps2,.cons h1 h2,h⟩
theorem Al {F:List Nat}{ks:List LK}: ∀{ps kU:List (Nat×Nat)} {ls:List aE} {ms rest:List MV} {vs:List Value} {e:Env} {st:St} {K':List aE->List MV->St->Option R},Inv c Zb Zi e3 pC F ps e st a w->b9 c Zi e3 pC a w->(∀b,Zi.In b->Zb.In b)-> (∀f∈cB ks,f∈F/\f∉Zb.db)->kp c ks=true->ay e3 vs ls->TKs pC ps ks ls ms kU->dh st ks (ms++rest) K'=some r-> ∃e' bZ zf,K' zf rest bZ=some r/\Inv c Zb Zi e3 pC F kU e' bZ a w/\ay e' vs zf/\bZ.fr=st.fr/\Ev (λf=>f∉F\/ ∃x,(f,x)∈ps) e e'/\(∀p∈ps,p∈kU)/\(∀f,aE.own f∈zf-> ∃x,(f,x)∈kU)/\e'.B=e.B/\(∀l∈zf,l≠ .un):=by
 induction ks with
 |nil=>intro ps kU ls ms rest vs e st K' hi h3 iy hF jJ hl ht hK;cases ht;exact ⟨e,st,[],hK,hi,hl,rfl,.refl _ _,λp hp=>hp,λf hf=>by simp at hf,rfl,by simp⟩
 |cons k ks ih=>
  intro ps kU ls ms rest vs e st K' hi h3 iy hF jJ hl ht hK;cases ht with
  |cons La wN=>
   obtain ⟨v,u,rfl,NV,y9⟩:=hl;simp only [dh,abG,gC] at hK;have ku:=Tt jJ;obtain ⟨e1,cR,l',nX,wZ,xS,Fl,adU,aac,Ck,hB1,aad⟩:=WN hi h3 iy (λf hf=>hF f (by rw [Gv];exact aau _ hf)) NV La hK (λf ty fb hk=>ku f ty fb (by rw [hk];simp));have Tu:kp c ks=true:=by
    cases k with
    |k x=>exact jJ
    |own f ty fb=>
     simp only [kp] at jJ;cases hI:c.tv ty with
     |none=>simp [hI] at jJ
     |some I=>simpa [hI] using jJ
   obtain ⟨e2,ef,zf,xI,hi2,CU,adu,alw,alx,aly,hB2,apZ⟩:=ih wZ h3 iy (λf hf=>hF f (by rw [Gv];exact aaJ _ hf)) Tu y9 wN nX;refine ⟨e2,ef,l'::zf,xI,hi2,⟨v,u,rfl,?_,CU⟩,adu.trans Fl,adU.trans (alw.adS ?_),λp hp=>alx p (aac p hp),?_,hB2.trans hB1,by intro l hl;rcases AI.1 hl with rfl|hl<;>first|exact aad|exact apZ l hl⟩
   ·exact xS.ev alw (λf hf=> .inr (Ck f hf))
   ·rintro f (hf|⟨x,hx⟩)
    ·exact .inl hf
    ·exact .inr ⟨x,aac _ hx⟩
   ·intro f hf;rcases AI.1 hf with hf|hf
    ·obtain ⟨x,hx⟩:=Ck f hf.symm;exact ⟨x,alx _ hx⟩
    ·exact aly f hf
inductive TO (st:St):List (Nat×Nat)->List (Nat×OK)->List MV->Prop
 |nil (ps):TO st ps [] []
 |sc {ps kU t k l ms r ns}:av st.fr t= .sc l->TKs st ps [k] [l] ms kU->TO st kU r ns->TO st ps ((t,.sc k)::r) (ms++ns)
 |ag {ps kU t ks ls ms r ns}:av st.fr t= .ag ls->TKs st ps ks ls ms kU->TO st kU r ns->TO st ps ((t,.ag ks)::r) (ms++ns)
 |box {ps kU t ks ls ms r ns}:av st.fr t= .box ls->TKs st ps ks ls ms kU->TO st kU r ns->TO st ps ((t,.box ks)::r) (ms++ns)
 |mp {ps t s es r ns}:av st.fr t= .box [.mp s es]->TO st ps r ns->TO st ps ((t,.mp s)::r) (.list es::ns)
 |pt {ps t root off r ns}:av st.fr t= .ptr root off->y8 root=false->E6 (av st.fr root)=true->TO st ps r ns->TO st ps ((t,.pt root off)::r) ns
theorem mJ {os:List (Nat×OK)}: ∀{ps:List (Nat×Nat)} {R:Type} {r:R} {K':List MV->Option R},mE st ps os K'=some r-> ∃ms,TO st ps os ms/\K' ms=some r:=by
 induction os with
 |nil=>intro ps R r K' h;exact ⟨[],.nil ps,h⟩
 |cons p os ih=>
  intro ps R r K' h;obtain ⟨t,k⟩:=p;simp only [mE] at h;split at h
  ·rename_i k l hf;obtain ⟨ms,kU,h1,h⟩:=yc h;obtain ⟨ns,h2,h⟩:=ih h;simp only [z7] at h;exact ⟨_,.sc hf h1 h2,h⟩
  ·rename_i ks ls hf;obtain ⟨ms,kU,h1,h⟩:=yc h;obtain ⟨ns,h2,h⟩:=ih h;simp only [z7] at h;exact ⟨_,.ag hf h1 h2,h⟩
  ·rename_i ks ls hf;obtain ⟨ms,kU,h1,h⟩:=yc h;obtain ⟨ns,h2,h⟩:=ih h;simp only [z7] at h;exact ⟨_,.box hf h1 h2,h⟩
  ·rename_i s s' es hf;cases hm:msB s s' with
   |false=>simp [hm] at h
   |true=>simp only [hm,cond_true] at h;have:=Tc hm;subst this;obtain ⟨ns,h2,h⟩:=ih h;exact ⟨_,.mp hf h2,h⟩
  ·rename_i root off Y2 SH hf;cases hc:BY root Y2&&(BY off SH&&(!y8 root&&E6 (av st.fr root))) with
   |false=>simp [hc] at h
   |true=>rw [hc] at h;simp only [sh,aaP] at hc;obtain ⟨k1,k2,k3,k4⟩:=hc;have k1:=cV k1;have k2:=cV k2;subst k1 k2;obtain ⟨ns,h2,h⟩:=ih h;exact ⟨_,.pt hf k3 k4 h2,h⟩
  ·simp at h
theorem aae {os:List (Nat×OK)}: ∀{ps:List (Nat×Nat)} {ms:List MV} {st:St},b9 c Zb e st a w->b9 c Zi e3 pC a w->TO pC ps os ms->Y3 os ms st K=some r-> ∃bZ,b9 c Zb e bZ a w/\K bZ=some r:=by
 induction os with
 |nil=>intro ps ms st h h3 ht hK;cases ht;exact ⟨st,h,hK⟩
 |cons p os ih=>
  obtain ⟨t,k⟩:=p;intro ps ms st h h3 ht hK;cases k with
  |pt root off=>
   cases ht with
   |pt hf hp hb wN=>
    obtain ⟨pr,q,fr,m⟩:=st;simp only [Y3] at hK;cases hc:!y8 root&&(E6 (av fr root)&&!dy (av fr t)) with
    |false=>simp [hc] at hK
    |true=>
     rw [hc] at hK;simp only [sh,aaP] at hc;obtain ⟨_,u6,hn⟩:=hc;simp only [cond_true,rj] at hK;obtain ⟨cs,N0,_⟩:=Br u6;have hB:=Qk h3 h hp hb u6;have hv:ah e (a.tmps.getD t undef) (.ptr root off):=by have:=h3.slot t;rw [hf] at this;simp only [cn,ah] at this⊢;rw [hB];exact this
     exact ih (h.ZL N0 hn hv) h3 wN hK
  |_=>simp [Y3] at hK
theorem WO {F:List Nat}{os:List (Nat×OK)}: ∀{ps:List (Nat×Nat)} {ms:List MV} {e:Env} {st:St},Inv c Zb Zi e3 pC F ps e st a w->b9 c Zi e3 pC a w->(∀b,Zi.In b->Zb.In b)-> (∀f∈ct os,f∈F/\f∉Zb.db)->(∀t∈dZ os,t∉Zi.cI)->fB c os=true->TO pC ps os ms->nF st os ms K=some r-> ∃e' bZ,b9 c Zb e' bZ a w/\e'.φ=e3.φ/\K bZ=some r:=by
 induction os with
 |nil=>intro ps ms e st hi h3 iy hF hk jJ ht hK;cases ht;exact ⟨e,st,hi.uh,hi.φ,hK⟩
 |cons p os ih=>
  intro ps ms e st hi h3 iy hF hk jJ ht hK;obtain ⟨t,k⟩:=p;have h3t:=h3.slot t;have next: ∀{kU:List (Nat×Nat)} {s:Slot} {e1:Env} {cR:St} {ns:List MV},Inv c Zb Zi e3 pC F kU e1 cR a w->dW s=false->dy s=false->ah e1 (a.tmps.getD t undef) s->(∀f,aE.own f∈pD s-> ∃x,(f,x)∈kU)-> (∀f∈ct os,f∈F/\f∉Zb.db)->fB c os=true->TO pC kU os ns->(PV cR t s λst=>nF st os ns K)=some r-> ∃e' bZ,b9 c Zb e' bZ a w/\e'.φ=e3.φ/\K bZ=some r:=by
   intro kU s e1 cR ns wZ hp hb hr adR Ft Tu wN hK;simp only [PV,rj] at hK;have hg: ∀t',av (dt cR.fr t s) t'=if t'=t then s else av cR.fr t':=λt'=>cj _ _ _ _
   refine ih ⟨wZ.uh.adT wZ.ptr hp hb hr,wZ.φ,?_,wZ.iC,wZ.pair,wZ.has,wZ.own,?_,?_⟩ h3 iy Ft (λt' DG=>hk t' (by simp [dZ,DG])) Tu wN hK
   ·intro t' cs B2;have B2:av (dt cR.fr t s) t'= .box cs:=B2;rw [hg] at B2;by_cases wj:t'=t
    ·rw [if_pos wj] at B2;subst B2;simp [dy] at hb
    ·rw [if_neg wj] at B2;exact wZ.box t' cs B2
   ·intro t';show dW (av (dt cR.fr t s) t')=false;rw [hg];by_cases wj:t'=t
    ·rw [if_pos wj];exact hp
    ·rw [if_neg wj];exact wZ.ptr t'
   ·intro t' f hm;have hm:aE.own f∈pD (av (dt cR.fr t s) t'):=hm;rw [hg] at hm;by_cases wj:t'=t
    ·rw [if_pos wj] at hm;exact .inr (adR f hm)
    ·rw [if_neg wj] at hm;exact wZ.YD t' f hm
  have aaf: ∀{kU:List (Nat×Nat)} {ls zf:List aE} {ob:Obj} {e1:Env} {cR:St} {ns:List MV},Inv c Zb Zi e3 pC F kU e1 cR a w->av pC.fr t= .box ls->tied Zb t (a.tmps.getD t undef) zf (e3.B t)->w.heap[e3.B t]? =some ob->lc e1 ob zf-> (∀f,aE.own f∈zf-> ∃x,(f,x)∈kU)->(∀f∈ct os,f∈F/\f∉Zb.db)->fB c os=true->TO pC kU os ns->(PV cR t (.box zf) λst=>nF st os ns K)=some r-> ∃e' bZ,b9 c Zb e' bZ a w/\e'.φ=e3.φ/\K bZ=some r:=by
   intro kU ls zf ob e1 cR ns wZ hf hv fG xS Ck Ft Tu wN nX;rw [hf] at h3t;have B2:=h3t.2;simp only [PV,rj] at nX;have htp:t∉Zi.cI:=hk t (by simp [dZ]);have qB:Zi.In (e3.B t):=Sp B2.cS htp;have hg: ∀t',av (dt cR.fr t (.box zf)) t'=if t'=t then .box zf else av cR.fr t':=λt'=>cj _ _ _ _
   have wh:=wZ.uh.ahA (t:=t) (bt:=e3.B t) (cs:=zf) wZ.ptr hv ⟨.inr (iy _ qB),⟨ob,fG,xS⟩,λoff=>by rw [wZ.φ];exact B2.free off⟩ (by
     intro t' kR Fg di S4;rcases wZ.box t' kR Fg with h0|⟨h0,xJ,h1⟩
     ·exact h0 (by rw [S4];exact qB)
     ·exact h3.bb t' t xJ ls h1 hf di (by rw [<-h0];exact S4))
    (by
     intro f o ho S4;rcases wZ.iC f o _ ho S4 with h0|⟨g,h0⟩
     ·exact h0 qB
     ·obtain ⟨h5,o5,h6⟩:=wZ.pair f g h0;rw [h5] at S4;exact h3.bf t ls g o5 hf h6 S4)
   refine ih (e:=e1.DF t (e3.B t)) ⟨wh,wZ.φ,?_,wZ.iC,wZ.pair,wZ.has,wZ.own,?_,?_⟩ h3 iy Ft (λt' DG=>hk t' (by simp [dZ,DG])) Tu wN nX
   ·intro t' cs Fg;have Fg:av (dt cR.fr t (.box zf)) t'= .box cs:=Fg;rw [hg] at Fg;show¬Zi.In (if t'=t then e3.B t else e1.B t')\/((if t'=t then e3.B t else e1.B t')=e3.B t'/\_);by_cases wj:t'=t
    ·subst wj;simp only [if_true];exact .inr ⟨trivial,ls,hf⟩
    ·rw [if_neg wj] at Fg⊢;exact wZ.box t' cs Fg
   ·intro t';show dW (av (dt cR.fr t (.box zf)) t')=false;rw [hg];by_cases wj:t'=t
    ·rw [if_pos wj];rfl
    ·rw [if_neg wj];exact wZ.ptr t'
   ·intro t' f hm;have hm:aE.own f∈pD (av (dt cR.fr t (.box zf)) t'):=hm;rw [hg] at hm;by_cases wj:t'=t
    ·rw [if_pos wj] at hm;exact .inr (Ck f hm)
    ·rw [if_neg wj] at hm;exact wZ.YD t' f hm
  cases ht with
  |sc hf La wN=>
   rename_i kU k l ms ns;rw [hf] at h3t;simp only [fB] at jJ;cases II:kp c [k] with
   |false=>simp [II] at jJ
   |true=>
    simp only [II,cond_true] at jJ;have hF1: ∀f∈cB [k],f∈F/\f∉Zb.db:=λf hf=>hF f (by simp only [ct];exact aau _ hf);have Ft: ∀f∈ct os,f∈F/\f∉Zb.db:=λf hf=>hF f (by simp only [ct];exact aaJ _ hf);simp only [nF] at hK;have sN: ∃vs,aX e3 vs l/\ ∀(e1:Env) (l':aE),aX e1 vs l'->(∀m,l'= .p m->m.one=true)->l'≠ .un->ah e1 (a.tmps.getD t undef) (.sc l'):=by
     have h3s:ah e3 (a.tmps.getD t undef) (.sc l):=h3t;cases La with
     |cons hk1 _=>
      generalize a.tmps.getD t undef=v at h3s;by_cases hh: ∃x,l= .hs x
      ·obtain ⟨x,rfl⟩:=hh;refine ⟨cc x,rfl,λe1 l' Ff ho hu=> ?_⟩;have hv:v= .agg (cc x).toArray:=h3s;have hlen:=gX x;cases l' with
       |un=>exact absurd rfl hu
       |hs y=>have Ff:cc x=cc y:=Ff;show v=_;rw [<-Ff];exact hv
       |nil=>have Ff:cc x=[_]:=Ff;rw [Ff] at hlen;simp at hlen
       |mp s es=>exact Ff.elim
       |own f=>obtain ⟨u,hu2,_⟩:=Ff;rw [hu2] at hlen;simp at hlen
       |p m=>obtain ⟨u,hu2,_⟩:=Ff.2.one (ho m rfl);rw [hu2] at hlen;simp at hlen
      ·have WQ:l≠ .un:=by intro he;subst he;cases hk1
       have ic:aX e3 [v] l:=(ah.ag7 (λx he=>hh ⟨x,he⟩) WQ).1 h3s;refine ⟨[v],ic,λe1 l' Ff ho hu=> ?_⟩;cases l' with
       |un=>exact absurd rfl hu
       |hs y=>have Ff:[v]=cc y:=Ff;have:=gX y;rw [<-Ff] at this;simp at this
       |nil=>exact Ff
       |mp s es=>exact Ff
       |own f=>exact Ff
       |p m=>exact Ff
    obtain ⟨vs,tF,alz⟩:=sN;obtain ⟨e1,cR,zf,nX,wZ,xS,Fl,adU,aac,Ck,hB1,aad⟩:=Al (vs:=vs) hi h3 iy hF1 II (show ay e3 vs [l] from ⟨vs,[],by simp,tF,rfl⟩) La hK;split at nX
    ·rename_i l';obtain ⟨v1,u1,hvu,NV,hu1⟩:=xS;have hu1:u1=[]:=hu1;subst hu1;have hvu:vs=v1:=by simpa using hvu
     subst hvu;refine next wZ rfl rfl ?_ (λf hf=>Ck f (by simpa [pD] using hf)) Ft jJ wN nX
     refine alz e1 l' NV ?_ ?_
     ·intro m hm;subst hm;exact NV.1
     ·exact aad l' (by simp)
    ·cases nX
  |ag hf La wN=>
   rename_i kU ks ls ms ns;rw [hf] at h3t;simp only [fB] at jJ;cases II:kp c ks with
   |false=>simp [II] at jJ
   |true=>simp only [II,cond_true] at jJ;simp only [nF] at hK;have h3s:ah e3 (a.tmps.getD t undef) (.ag ls):=h3t;simp only [ah] at h3s;obtain ⟨arr,hv,tF⟩:=h3s;obtain ⟨e1,cR,zf,nX,wZ,xS,Fl,adU,aac,Ck,hB1,aad⟩:=Al hi h3 iy (λf hf=>hF f (by simp only [ct];exact aau _ hf)) II tF La hK;exact next (s:= .ag zf) wZ rfl rfl ⟨arr,hv,xS⟩ Ck (λf hf=>hF f (by simp only [ct];exact aaJ _ hf)) jJ wN nX
  |box hf La wN=>
   rename_i kU ks ls ms ns;rw [hf] at h3t;simp only [fB] at jJ;cases II:kp c ks with
   |false=>simp [II] at jJ
   |true=>
    simp only [II,cond_true] at jJ;simp only [nF] at hK;have xQ:iW ls=false:=by
     cases hm:iW ls with
     |false=>rfl
     |true=>obtain ⟨s,es,rfl⟩:=NQ hm;cases La;rename_i h1 _;cases h1
    obtain ⟨hv,B2⟩:=h3t;cases Ch:y8 t&&!bJ st.cI (posOf t) with
    |true=>simp [Ch] at hK
    |false=>
    simp only [Ch,cond_false] at hK;have nV: ∀zf,iW zf=false->tied Zb t (a.tmps.getD t undef) zf (e3.B t):=λzf Mh=>⟨λhp=>by rw [hv.1 hp,ue xQ,ue Mh],λhp=>by
     obtain ⟨k1,k2⟩:=hv.2 hp;rw [hp] at Ch;have k3:posOf t∈Zb.cI:=by rw [<-hi.uh.defers.2.1,<-bL];simpa using Ch
     exact ⟨k3,by rw [<-hi.uh.defers.2.2.2 _ k3,h3.defers.2.2.2 _ k1,k2]⟩⟩
    obtain ⟨arr,T,fG,tF⟩:=B2.cells xQ;obtain ⟨e1,cR,zf,nX,wZ,xS,Fl,adU,aac,Ck,hB1,aad⟩:=Al hi h3 iy (λf hf=>hF f (by simp only [ct];exact aau _ hf)) II tF La hK;exact aaf wZ hf (nV _ xS.Ce) fG ⟨rfl,xS⟩ Ck (λf hf=>hF f (by simp only [ct];exact aaJ _ hf)) jJ wN nX
  |mp hf wN=>
   rename_i s es ns;rw [hf] at h3t;simp only [fB] at jJ;simp only [nF] at hK;cases Ch:y8 t with
   |true=>simp [Ch] at hK
   |false=>
   simp only [Ch,cond_false,gC,gL] at hK;obtain ⟨Lr,B2⟩:=h3t;have hv:tied Zb t (a.tmps.getD t undef) [aE.mp s es] (e3.B t):= .own Ch (Lr.1 Ch);obtain ⟨ob,fG,hob⟩:=B2.obj;cases ob with
   |cells arr T z=>exact absurd hob.2.Ce (by simp [iW])
   |map arr n=>exact aaf hi hf hv fG hob (λf hf=>by simp at hf) (λf hf=>hF f (by simp only [ct];exact hf)) jJ wN hK
   |stringIter x n=>exact aaf hi hf hv fG hob (λf hf=>by simp at hf) (λf hf=>hF f (by simp only [ct];exact hf)) jJ wN hK
   |_=>exact hob.elim
  |pt hf hp hb wN=>simp only [nF] at hK;obtain ⟨bZ,g1,g2⟩:=aae hi.uh h3 (.pt hf hp hb wN) hK;exact ⟨e,bZ,g1,hi.φ,g2⟩
theorem Bv {os:List (Nat×OK)}{ms:List MV}(hJ:kV c Zb Zi e B hn a w)(h3:b9 c Zi e3 pC a w) (hφ:e3.φ=e.φ)(hos:(∀t∈dZ os,t∈dZ hn.all)/\(∀f∈ct os,f∈ct hn.all))(jJ:fB c os=true)(ht:TO pC [] os ms)(hK:nF B os ms K=some r): ∃e' bZ,b9 c Zb e' bZ a w/\e'.φ=e.φ/\K bZ=some r:=by
 rw [<-hφ];refine WO (F:=ct hn.all) ⟨hJ.uh,hφ.symm,λt cs hb=> .inl (hJ.box t cs hb),λf o b ho hb=> .inl (hJ.iC f o b ho hb),λf g hp=>by simp at hp,λf x hp=>by simp at hp,?_,hJ.ptr,λt f hm=> .inl (hJ.YD t f hm)⟩ h3 hJ.sub ?_ ?_ jJ ht hK
 ·intro f hf o ho;rw [(hJ.WL f hf).2] at ho;cases ho
 ·intro f hf;exact ⟨hos.2 f hf,(hJ.WL f (hos.2 f hf)).1⟩
 ·intro t DG;exact (hJ.Z7 t (hos.1 t DG)).2
end
end Dn
/-
  Code. Conditions: none.
-/
namespace Dn
open Go
theorem vA {os:List (Nat×OK)}{t:Nat}:t∈dZ os↔ ∃k,(t,k)∈os:=by
 induction os with
 |nil=>simp [dZ]
 |cons p os ih=>
  obtain ⟨t',k'⟩:=p;simp only [dZ,AI,ih,abB];constructor
  ·rintro (rfl|⟨k,h⟩)
   ·exact ⟨k',.inl ⟨rfl,rfl⟩⟩
   ·exact ⟨k,.inr h⟩
  ·rintro ⟨k,⟨rfl,_⟩|h⟩
   ·exact .inl rfl
   ·exact .inr ⟨k,h⟩
def aag:OK->List Nat
 | .sc k=>cB [k]
 | .ag ks=>cB ks
 | .box ks=>cB ks
 | .mp _=>[]
 | .pt _ _=>[]
theorem Om (t:Nat)(k:OK)(os:List (Nat×OK)):ct ((t,k)::os)=aag k++ct os:=by cases k<;>rfl
theorem vB {os:List (Nat×OK)}{f:Nat}:f∈ct os↔ ∃p∈os,f∈aag p.2:=by
 induction os with
 |nil=>simp [ct]
 |cons p os ih=>obtain ⟨t',k'⟩:=p;rw [Om];simp [ih]
def IJ (c:Ctx):OK->Bool
 | .sc k=>kp c [k]
 | .ag ks=>kp c ks
 | .box ks=>kp c ks
 | .mp _=>true
 | .pt _ _=>true
theorem Qv {c:Ctx}(t:Nat)(k:OK)(os:List (Nat×OK)):fB c ((t,k)::os)=(IJ c k&&fB c os):=by
 cases k with
 |sc k=>simp only [fB,IJ];cases kp c [k]<;>rfl
 |ag k=>simp only [fB,IJ];cases kp c k<;>rfl
 |box k=>simp only [fB,IJ];cases kp c k<;>rfl
 |mp s=>simp only [fB,IJ,afy]
 |pt r o=>simp only [fB,IJ,afy]
theorem IK {c:Ctx}{os:List (Nat×OK)}:fB c os=true↔ ∀p∈os,IJ c p.2=true:=by
 induction os with
 |nil=>simp [fB]
 |cons p os ih=>obtain ⟨t',k'⟩:=p;rw [Qv,sh,ih,List.forall_mem_cons]
theorem aah {l:List (Nat×List (Nat×OK))}{e:Nat}{p:Nat×OK}(h:p∈YO l e):p∈UW l:=by
 induction l with
 |nil=>simp [YO] at h
 |cons q l ih=>
  obtain ⟨k,m⟩:=q;simp only [YO] at h;simp only [UW,acX];cases hb:BY k e with
  |true=>simp [hb] at h;exact .inl h
  |false=>simp [hb] at h;exact .inr (ih h)
theorem IL {hn:pv}{e:Nat}:(∀t∈dZ (hn.ex e),t∈dZ hn.all)/\(∀f∈ct (hn.ex e),f∈ct hn.all)/\ ∀{c:Ctx},fB c hn.all=true->fB c (hn.ex e)=true:=by
 have hm: ∀p∈hn.ex e,p∈hn.all:=λp hp=>aaJ _ (aah hp);refine ⟨λt ht=> ?_,λf hf=> ?_,λh=> ?_⟩
 ·obtain ⟨k,hk⟩:=vA.1 ht;exact vA.2 ⟨k,hm _ hk⟩
 ·obtain ⟨p,hp,hf⟩:=vB.1 hf;exact vB.2 ⟨p,hm _ hp,hf⟩
 ·rw [IK] at h⊢;exact λp hp=>h p (hm p hp)
theorem aai {hn:pv}:(∀t∈dZ hn.outs,t∈dZ hn.all)/\(∀f∈ct hn.outs,f∈ct hn.all)/\ ∀{c:Ctx},fB c hn.all=true->fB c hn.outs=true:=by
 have hm: ∀p∈hn.outs,p∈hn.all:=λp hp=>aau _ hp;refine ⟨λt ht=> ?_,λf hf=> ?_,λh=> ?_⟩
 ·obtain ⟨k,hk⟩:=vA.1 ht;exact vA.2 ⟨k,hm _ hk⟩
 ·obtain ⟨p,hp,hf⟩:=vB.1 hf;exact vB.2 ⟨p,hm _ hp,hf⟩
 ·rw [IK] at h⊢;exact λp hp=>h p (hm p hp)
theorem IQ {R:Type}{r:R}{l:List Nat}{e:Nat}{K:Nat->Option R}(h:exs l e K=some r):K e=some r:=by
 induction l with
 |nil=>simp [exs] at h
 |cons p l ih=>
  cases l with
  |nil=>
   simp only [exs,eO] at h;by_cases he:e=p
   ·subst he;simpa using h
   ·simp [he] at h
  |cons q l=>
   simp only [exs,eO] at h;by_cases he:e=p
   ·subst he;simpa using h
   ·simp only [he,decide_false,cond_false] at h;exact ih h
theorem WR {σ R:Type}{r:R}{body:σ->Option (Sum σ R)}{s:σ}(h:Loop body s=some r): ∃n,iter body n s=some r:=by
 unfold Loop at h;split at h
 ·rename_i hx;obtain ⟨n,hn⟩:=acT hx;exact ⟨n,by rw [hn];exact h⟩
 ·cases h
def lU:Nat->Exit
 |0=> .normal
 |1=> .ret
 |n+2=> .exit n
section
variable {P:Program}{c:Ctx}{Z Zb Zi:bI} {e e' e3:Env}{st bZ pC B:St} {a a':Act} {w w':World}{R:Type}{r:R}{Q:Exit->Act->World->Prop}{o:Oper}{hn:pv}
def On (P:Program)(c:Ctx)(id:Nat)(ops:Array Oper)(d:Bool)(l:List Oper):Prop:=∀{Z:bI} {e:Env} {st:St} {a:Act} {w:World} {R:Type} {K:St->Option R} {r:R} {Q:Exit->Act->World->Prop},b9 c Z e st a w->CJ c ops.toList l st K=some r-> (∀a' w',Out c Z K r e.φ w a' w'->Q .normal a' w')->(aet id ops d).wp P Q a w
theorem WS (hG:Good P c)(id:Nat)(ops:Array Oper):On P c id ops false ops.toList:=by
 intro Z e st a w R K r Q h hK hQ;refine wp_region (Ok hG (os:=ops.toList) ?_ h hK (.refl _ _ _) hQ);apply afV;intro i;simp only [acV];by_cases hi:i<ops.size
 ·simp [aeO hi,hi]
 ·have h1:(afP ops.size)[i]? =none:=by simp;omega
  have h2:ops.toList[i]? =none:=by simp;omega
  rw [h1,h2];rfl
theorem Ms {id:Nat}{ops:Array Oper}{d:Bool}{l:List Oper}{K:St->Option R}(hr:On P c id ops d l)(h:b9 c Z e st a w)(hK:HJ c id ops.toList l st K=some r)(hQ: ∀a' w',Out c Z K r e.φ w a' w'->Q .normal a' w'):(aet id ops d).wp P Q a w:=by
 unfold HJ at hK;cases hg:guarded ops.toList with
 |false=>simp only [hg,cond_false] at hK;obtain ⟨bZ,h',hK⟩:=vu h hK;exact hr h' hK hQ
 |true=>
  simp only [hg,cond_true] at hK;obtain ⟨Zi,e1,e2,cR,ef,h1,t1,hφ,hk,j1,j2,iy,jJ,hK⟩:=Ak h hK;obtain ⟨vs,hv,hK⟩:=nj hK;obtain ⟨ap4,Gf,hv⟩:=vu h1 hv;refine hr Gf hv ?_;rintro a' w' ⟨e3,pC,h3,t3,hv3⟩;obtain ⟨ms,ht,Lq⟩:=mJ hv3;cases Lq;have t3':Trans Zi.In e2.φ w e3.φ w':=by rw [hφ];exact t3
  have jl:=j1.later t3' h3.kP h3.defers.1 h3.size h3.defers.2.2.2;obtain ⟨s1,s2,s3⟩:=IL (hn:=c.zp id) (e:=0);obtain ⟨e5,st5,g1,g2,g3⟩:=Bv jl h3 rfl ⟨s1,s2⟩ (s3 jJ) ht hK;refine hQ a' w' ⟨e5,st5,g1,?_,g3⟩;rw [g2];exact t1.trans ⟨t3.ph,λb hb=>t3.heap b (λhz=>hb (iy b hz)),λb o hb=>t3.free b o (λhz=>hb (iy b hz)),t3.size,t3.rest⟩
theorem Trans.sup {I J:Nat->Prop} {φ φ':Ph}(h:Trans I φ w φ' w')(hs: ∀b,I b->J b):Trans J φ w φ' w':=⟨h.ph,λb hb=>h.heap b (λhz=>hb (hs b hz)),λb o hb=>h.free b o (λhz=>hb (hs b hz)),h.size,h.rest⟩
theorem xa {n:Nat}{next:Act->World->Prop}(hn:n≠0):Exit.then next Q (lU n)=Q (lU n):=by
 match n,hn with
 |1,_=>rfl
 |n+2,_=>rfl
def Qw (P:Program)(c:Ctx)(id:Nat)(ops:Array Oper):Prop:=∀{Z:bI} {e:Env} {st:St} {a:Act} {w:World} {R:Type} {K:St->Option R} {r:R} {Q:Exit->Act->World->Prop},b9 c Z e st a w->Y5 c id ops.toList st K=some r-> (∀a' w',Out c Z K r e.φ w a' w'->Q .normal a' w')->(aet id ops false).wp P Q a w
def IR (P:Program)(c:Ctx):Prop:=(∀(id:Nat) (ops:Array Oper),Qw P c id ops)/\(∀(id:Nat) (ops:Array Oper) (l:List Oper),ub c ops (c.ord id)=true->rh ops.toList (c.ord id)=some l->On P c id ops true l)/\ ∀(id:Nat) (ops:Array Oper) (k:Nat) (l:List Nat) {Z:bI} {e:Env} {st:St} {a:Act} {w:World} {R:Type} {K:St->Option R} {r:R} {Q:Exit->Act->World->Prop},b9 c Z e st a w->H6 c st K k ops l=some r-> (∀a' w',Out c Z K r e.φ w a' w'->Q .normal a' w')->(aet id ops true).wp P Q a w
theorem WT {R:Type}{x y:Option R}{r:R}(h:both x y=some r):x=some r/\y=some r:=by
 unfold both at h;split at h
 ·rename_i he;exact ⟨h,by rw [<-he];exact h⟩
 ·cases h
theorem Tv {n:Nat}{l o1 o2:List Nat}{A B:Nat}(h:Y6 n l=some (o1,o2,A,B)):A≠B/\A<n/\B<n:=by
 unfold Y6 at h;split at h
 ·rename_i m A' B' _;cases hb:BY A' B'||(adY n A'||adY n B') with
  |true=>rw [hb] at h;cases h
  |false=>
   rw [hb] at h;simp only [cond_false,AT,abB] at h;obtain ⟨_,_,rfl,rfl⟩:=h;simp only [OF] at hb;obtain ⟨h1,h2,h3⟩:=hb;refine ⟨λhe=> ?_,?_,?_⟩
   ·rw [he] at h1;simp [eO] at h1
   ·by_cases hh:A'<n
    ·exact hh
    ·rw [aej (by omega)] at h2;cases h2
   ·by_cases hh:B'<n
    ·exact hh
    ·rw [aej (by omega)] at h3;cases h3
 ·cases h
theorem ahB {ts:List Nat}{K:St->Option R}(h:b9 c Z e st a w)(hK:fzK c ts st K=some r): ∃e' bZ,b9 c Z e' bZ a w/\Trans Z.In e.φ w e'.φ w/\K bZ=some r:=by
 unfold fzK at hK;split at hK
 ·exact ⟨e,st,h,.refl _ _ _,hK⟩
 ·obtain ⟨e',bZ,ms,h1,h2,_,h3,_⟩:=Iu h hK;exact ⟨e',bZ,h1,h2.tr,h3⟩
theorem vC (hG:Good P c)(hD:IR P c): ∀(code:Code) {R:Type} {r:R} {Z:bI} {e:Env} {st:St} {a:Act} {w:World} {K:Nat->St->Option R} {Q:Exit->Act->World->Prop},b9 c Z e st a w->lr c code R st K=some r-> (∀n e' bZ a' w',b9 c Z e' bZ a' w'->Trans Z.In e.φ w e'.φ w'->K n bZ=some r->Q (lU n) a' w')->code.wp P Q a w:=by
 intro code;induction code with
 |skip=>intro R r Z e st a w K Q h hK hQ;exact wp_skip (hQ 0 e st a w h (.refl _ _ _) hK)
 |exit id=>intro R r Z e st a w K Q h hK hQ;exact wp_exit (hQ (id+2) e st a w h (.refl _ _ _) hK)
 |ret=>intro R r Z e st a w K Q h hK hQ;exact wp_ret (hQ 1 e st a w h (.refl _ _ _) hK)
 |region id ops d=>
  intro R r Z e st a w K Q h hK hQ;have IU: ∀a' w',Out c Z (λst=>K 0 st) r e.φ w a' w'->Q .normal a' w':=by rintro a' w' ⟨e2,ef,h1,h2,h3⟩;exact hQ 0 e2 ef a' w' h1 h2 h3
  simp only [lr,U0] at hK;obtain ⟨e0,H4,h0,t0,hK⟩:=ahB h hK;have IU: ∀a' w',Out c Z (λst=>K 0 st) r e0.φ w a' w'->Q .normal a' w':=by rintro a' w' ⟨e2,ef,h1,h2,h3⟩;exact IU a' w' ⟨e2,ef,h1,t0.trans h2,h3⟩
  replace h:=h0
  cases d with
  |false=>exact hD.1 id ops h hK IU
  |true=>
   simp only [cond_true] at hK;cases h2:!BY (c.ord id).length ops.toList.length with
   |true=>
    simp only [h2,cond_true] at hK;unfold akD at hK;cases hg:guarded ops.toList with
    |true=>
     simp only [hg,cond_true] at hK;obtain ⟨Zi,e1,e2,cR,ef,h1,t1,hφ,hk,j1,j2,iy,jJ,hK⟩:=Ak h hK;obtain ⟨vs,hv,hK⟩:=nj hK;obtain ⟨ap4,Gf,hv⟩:=vu h1 hv;refine hD.2.2 id ops _ _ Gf hv ?_;rintro a' w' ⟨e3,pC,h3,t3,hv3⟩;obtain ⟨ms,ht,Lq⟩:=mJ hv3;cases Lq;have t3':Trans Zi.In e2.φ w e3.φ w':=by rw [hφ];exact t3
     have jl:=j1.later t3' h3.kP h3.defers.1 h3.size h3.defers.2.2.2;obtain ⟨s1,s2,s3⟩:=IL (hn:=c.zp id) (e:=0);obtain ⟨e5,st5,g1,g2,g3⟩:=Bv jl h3 rfl ⟨s1,s2⟩ (s3 jJ) ht hK;refine IU a' w' ⟨e5,st5,g1,?_,g3⟩;rw [g2];exact t1.trans ⟨t3.ph,λb hb=>t3.heap b (λhz=>hb (iy b hz)),λb o hb=>t3.free b o (λhz=>hb (iy b hz)),t3.size,t3.rest⟩
    |false=>simp only [hg,cond_false] at hK;obtain ⟨bZ,h',hK⟩:=vu h hK;exact hD.2.2 id ops _ _ h' hK IU
   |false=>
   simp only [h2,cond_false] at hK;cases hd:ub c ops (c.ord id) with
   |false=>simp [hd] at hK
   |true=>
    simp only [hd,cond_true] at hK;cases hp:rh ops.toList (c.ord id) with
    |none=>simp [hp] at hK
    |some l=>simp only [hp] at hK;exact Ms (hD.2.1 id ops l hd hp) h hK IU
 |seq x y ihx ihy=>
  intro R r Z e st a w K Q h hK hQ;refine wp_seq (ihx h hK ?_);intro n e1 cR a1 w1 h1 t1 nX;by_cases hn:n=0
  ·subst hn;exact ihy h1 nX (λn e2 ef a2 w2 h2 t2 xI=>hQ n e2 ef a2 w2 h2 (t1.trans t2) xI)
  ·rw [xa hn];have:BY n 0=false:=by rw [eO];simp [hn]
   simp only [this,cond_false] at nX;exact hQ n e1 cR a1 w1 h1 t1 nX
 |cond x y z ihy ihz=>
  intro R r Z e st a w K Q h hK hQ;simp only [lr] at hK;obtain ⟨hx,_⟩:=h.eval x;split at hK
  ·rename_i v hv;rw [hv] at hx;have hxv:=Ab hx;refine wp_cond hxv ?_;cases hj:bJ (lR y) 0&&bJ (lR z) 0 with
   |false=>
    simp only [hj,cond_false] at hK;cases v with
    |true=>exact ihy h hK hQ
    |false=>exact ihz h hK hQ
   |true=>
    simp only [hj,cond_true] at hK;generalize hh:c.Bk ((gZ (.seq y z)).getD 0)=hn at hK;obtain ⟨Zi,e1,e2,cR,ef,h1,t1,hφ,hk,j1,j2,iy,jJ,hK⟩:=Ak h hK;obtain ⟨⟨n,vs⟩,hv,hK⟩:=nj hK;have hK:=IQ hK;have fin: ∀n' e3 pC a3 w3,b9 c Zi e3 pC a3 w3->Trans Zi.In e1.φ w e3.φ w3->mE pC [] (hn.ex n') (λvs=>some (n',vs))=some (n,vs)->Q (lU n') a3 w3:=by
     intro n' e3 pC a3 w3 h3 t3 hv3;obtain ⟨ms,ht,Lq⟩:=mJ hv3;cases Lq;have t3':Trans Zi.In e2.φ w e3.φ w3:=by rw [hφ];exact t3
     have jl:=j1.later t3' h3.kP h3.defers.1 h3.size h3.defers.2.2.2;obtain ⟨s1,s2,s3⟩:=IL (hn:=hn) (e:=n);obtain ⟨e5,st5,g1,g2,g3⟩:=Bv jl h3 rfl ⟨s1,s2⟩ (s3 jJ) ht hK;refine hQ n e5 st5 a3 w3 g1 ?_ g3;rw [g2];exact t1.trans (t3.sup iy)
    cases v with
    |true=>exact ihy h1 hv fin
    |false=>exact ihz h1 hv fin
  ·simp at hK
 |block id b ih=>
  intro R r Z e st a w K Q h hK hQ;refine wp_block (ih h hK ?_);intro n e1 cR a1 w1 h1 t1 nX;by_cases hn:n=id+2
  ·subst hn;simp only [eO,decide_true,cond_true] at nX;have:=hQ 0 e1 cR a1 w1 h1 t1 nX;simpa [lU,agm] using this
  ·simp only [eO,hn,decide_false,cond_false] at nX;have:=hQ n e1 cR a1 w1 h1 t1 nX;match n,hn,this with
   |0,_,this=>exact this
   |1,_,this=>exact this
   |i+2,hn,this=>have hi:i≠id:=λhe=>hn (by rw [he]);simpa [lU,agm,hi] using this
 |loop b ih=>
  intro R r Z e st a w K Q h hK hQ;simp only [lr] at hK;generalize hh:c.wM ((gZ b).getD 0)=hn at hK;obtain ⟨Zi,e1,e2,cR,ef,h1,t1,hφ,hk,j1,j2,iy,jJ,hK⟩:=Ak h hK;obtain ⟨vs,ht,hK⟩:=mJ hK;obtain ⟨⟨n,ms⟩,hl,hK⟩:=nj hK;obtain ⟨k,PH⟩:=WR hl;have hK:=IQ hK;refine wp_loop_rounds k ?_;have key: ∀(k:Nat) (vs:List MV) (e2 e3:Env) (pC:St) (a3:Act) (w3:World),b9 c Zi e3 pC a3 w3->e3.φ=e2.φ->TO pC [] hn.outs vs->kV c Z Zi e2 (wg st ef) hn a3 w3->kV c Zi Zi e2 ef hn a3 w3->Trans Z.In e.φ w e2.φ w3-> iter (λms=>nF ef hn.outs ms λst=>lr c b (Sum (List MV) (Nat×List MV)) st λe st=>bif BY e 0 then mE st [] hn.outs λvs=>some (.inl vs) else mE st [] (hn.ex e) λvs=>some (.inr (e,vs))) k vs=some (n,ms)->agr P b Q k a3 w3:=by
   intro k;induction k with
   |zero=>intro vs e2 e3 pC a3 w3 _ _ _ _ _ _ hi;simp [iter] at hi
   |succ k ihk=>
    intro vs e2 e3 pC a3 w3 h3 hφ3 YE j1 j2 t3 hi;simp only [iter] at hi;obtain ⟨s1,s2,s3⟩:=aai (hn:=hn);rw [rounds_succ];have go: ∀(res:Sum (List MV) (Nat×List MV)),(nF ef hn.outs vs λst=>lr c b (Sum (List MV) (Nat×List MV)) st λe st=>
     bif BY e 0 then mE st [] hn.outs λvs=>some (.inl vs) else mE st [] (hn.ex e) λvs=>some (.inr (e,vs)))=some res->
     (∀Su,res= .inl Su->iter (λms=>nF ef hn.outs ms λst=>lr c b (Sum (List MV) (Nat×List MV)) st λe st=>bif BY e 0 then mE st [] hn.outs λvs=>some (.inl vs) else mE st [] (hn.ex e) λvs=>some (.inr (e,vs))) k Su=some (n,ms))->
     (∀q,res= .inr q->q=(n,ms))->b.wp P (Exit.then (agr P b Q k) Q) a3 w3:=by
     intro res po hl hr;obtain ⟨e5,st5,g1,g2,g3⟩:=Bv j2 h3 hφ3 ⟨s1,s2⟩ (s3 jJ) YE po;refine ih g1 g3 ?_;intro n' e6 st6 a6 w6 h6 t6 To;have t6':Trans Zi.In e2.φ w3 e6.φ w6:=by rw [<-g2];exact t6
     have jl1:=j1.later t6' h6.kP h6.defers.1 h6.size h6.defers.2.2.2;have jl2:=j2.later t6' h6.kP h6.defers.1 h6.size h6.defers.2.2.2;by_cases Yx:n'=0
     ·subst Yx;obtain ⟨Su,ht6,hv6⟩:=mJ To;cases hv6;exact ihk Su {e2 with φ:=e6.φ} e6 st6 a6 w6 h6 rfl ht6 jl1 jl2 (t3.trans (t6'.sup iy)) (hl Su rfl)
     ·rw [xa Yx];have:BY n' 0=false:=by rw [eO];simp [Yx]
      simp only [this,cond_false] at To;obtain ⟨Su,ht6,hv6⟩:=mJ To;cases hv6;cases hr _ rfl;obtain ⟨x1,x2,x3⟩:=IL (hn:=hn) (e:=n);obtain ⟨e7,st7,q1,q2,q3⟩:=Bv jl1 h6 rfl ⟨x1,x2⟩ (x3 jJ) ht6 hK;refine hQ n e7 st7 a6 w6 q1 ?_ q3;rw [q2];exact t3.trans (t6'.sup iy)
    split at hi
    ·rename_i s' hs;exact go _ hs (λSu he=>by cases he;exact hi) (λq he=>by cases he)
    ·rename_i q hs;cases hi;exact go _ hs (λSu he=>by cases he) (λq he=>by cases he;rfl)
    ·cases hi
  refine key k vs e2 e1 cR a w h1 hφ.symm ht j1 j2 ?_ PH;rw [hφ];exact t1
 |_=>intros;rename_i hK _;simp [lr] at hK
end
end Dn
/-
  Whole functions. Conditions: none.
-/
namespace Dn
open Go
section
variable {P:Program}{c:Ctx}{Z Zb Zi:bI} {e e' e3:Env}{st bZ pC B:St} {a a':Act} {w w':World}{R:Type}{r:R}{Q:Exit->Act->World->Prop}{o:Oper}
theorem Gw {ts:List Nat}: ∀{n:Nat} {vs:List Value} {ms:List MV} {K:Fr->List MV->Option R},bV e.key e.φ vs ms->H7 c ts n ms K=some r-> ∃fr rest lK uj,K fr rest=some r/\vs=lK++uj/\lK.length=ts.length/\bV e.key e.φ uj rest/\aU fr=ad1 n ts.length/\ (∀p∈fr,dW p.2=false/\dy p.2=false/\ ∃v,lK[p.1-n]? =some v/\ah e v p.2):=by
 induction ts with
 |nil=>intro n vs ms K h hK;exact ⟨[],ms,[],vs,hK,rfl,rfl,h,rfl,by simp⟩
 |cons t ts ih=>
  intro n vs ms K h hK;simp only [H7] at hK;cases hI:c.tv t with
  |none=>simp [hI] at hK
  |some I=>
   simp only [hI] at hK;cases ms with
   |nil=>simp [gC] at hK
   |cons m ms=>
    simp only [gC] at hK;obtain ⟨v,u,rfl,h1,h2⟩:=h;obtain ⟨s,g1,g2,hK⟩:=xW h1 hK;obtain ⟨fr,rest,lK,uj,hK,rfl,q1,q2,q3,q4⟩:=ih h2 hK;refine ⟨(n,s)::fr,rest,v::lK,uj,hK,rfl,by simp [q1],q2,?_,?_⟩
    ·simp only [aU,acE,adb] at q3⊢;rw [q3,af6]
    ·intro p hp;rcases AI.1 hp with rfl|hp
     ·refine ⟨?_,?_,v,by simp,g1⟩
      ·cases s<;>simp [Cd] at g2<;>rfl
      ·cases s<;>simp [Cd] at g2<;>rfl
     ·obtain ⟨k1,k2,v',k3,k4⟩:=q4 p hp;refine ⟨k1,k2,v',?_,k4⟩;have hk:p.1∈aU fr:=acU.2 ⟨p,hp,rfl⟩;rw [q3,aee] at hk;obtain ⟨i,hi,he⟩:=hk;have:p.1-n=(p.1-(n+1))+1:=by omega
      rw [this];simpa using k3
theorem Mt {jL:List (List Kd)}: ∀{n:Nat} {vs:List Value} {ms:List MV} {K:Fr->Option R},bV e.key e.φ vs ms->SK jL n ms K=some r-> ∃fr,K fr=some r/\vs.length=jL.length/\aU fr=ad1 n jL.length/\ (∀p∈fr,dW p.2=false/\(∀cs,p.2≠ .box cs)/\ ∃v,vs[p.1-n]? =some v/\ah e v p.2):=by
 induction jL with
 |nil=>
  intro n vs ms K h hK;cases ms with
  |nil=>cases h;exact ⟨[],hK,rfl,rfl,by simp⟩
  |cons m ms=>simp [SK,gN] at hK
 |cons ks jL ih=>
  intro n vs ms K h hK;cases ms with
  |nil=>simp [SK,gC] at hK
  |cons m ms=>
   simp only [SK,gC] at hK;obtain ⟨v,u,rfl,h1,h2⟩:=h;unfold gP at hK;split at hK
   ·rename_i cs;obtain ⟨_,h1⟩:=h1;obtain ⟨bt,off,us,hv,hr,hφ⟩: ∃bt off us,v= .pointer (some ⟨bt,off,none⟩)/\jd e.key e.φ us cs/\ ∀j,j<us.length->e.φ bt (off+j)=us[j]? :=by
     generalize Bq:[v]=ws at h1;cases h1 with
     |rp bt off us _ hr hφ=>exact ⟨bt,off,us,by simpa using Bq,hr,hφ⟩
    obtain ⟨ls,K8,hK⟩:=xT (e:=e) (vs:=us) hK;obtain ⟨fr,hK,q1,q3,q4⟩:=ih h2 hK;refine ⟨(n,.zQ ls)::fr,hK,by simp [q1],?_,?_⟩
    ·simp only [aU,acE,adb] at q3⊢;rw [q3,af6]
    ·intro p hp;rcases AI.1 hp with rfl|hp
     ·refine ⟨rfl,λcs he=>(by cases he),v,by simp,?_⟩;simp only [ah];exact ⟨bt,off,us,hv,K8.Ws hr,K8.Yy,hφ⟩
     ·obtain ⟨k1,k2,v',k3,k4⟩:=q4 p hp;refine ⟨k1,k2,v',?_,k4⟩;have hk:p.1∈aU fr:=acU.2 ⟨p,hp,rfl⟩;rw [q3,aee] at hk;obtain ⟨i,hi,he⟩:=hk;have:p.1-n=(p.1-(n+1))+1:=by omega
      rw [this];simpa using k3
   ·simp at hK
theorem DO {r:Fr}{t:Nat}(ht:t∈aU r):(t,av r t)∈r:=by
 induction r with
 |nil=>simp [aU] at ht
 |cons p r ih=>
  obtain ⟨k,x⟩:=p;simp only [av,eO];by_cases h:k=t
  ·simp [h]
  ·simp only [h,decide_false,cond_false];simp only [aU,acE,AI] at ht;exact abz _ (ih (ht.resolve_left (λe=>h e.symm)))
def jf (tmps:Array Value):ResultVar->Sem Value
 | .tmp t=>pure (tmps.getD t undef)
 | .cell a t=>do loadVar t (<-asAddr (tmps.getD a undef))
theorem WU {rs:List ResultVar}(hT:kq P c.ti): ∀{e:Env} {st:St} {K:List MV->Option R},b9 c Z e st a w->SL c st none rs K=some r-> ∃e' bZ ms vs,b9 c Z e' bZ a w/\Ext Z.In e e'/\(rs.mapM (jf a.tmps)).run P w= .ok vs w/\bV e'.key e'.φ vs ms/\K ms=some r:=by
 induction rs with
 |nil=>intro e st K h hK;exact ⟨e,st,[],[],h,.refl _ _,by simp,rfl,hK⟩
 |cons x rs ih=>
  intro e st K h hK;have go: ∀(s:Slot) (v:Value),ah e v s->(jf a.tmps x).run P w= .ok v w->(nJ st s λm st=>SL c st none rs λms=>K (m::ms))=some r-> ∃e' bZ ms vs,b9 c Z e' bZ a w/\Ext Z.In e e'/\((x::rs).mapM (jf a.tmps)).run P w= .ok vs w/\bV e'.key e'.φ vs ms/\K ms=some r:=by
   intro s v hs cr hK;obtain ⟨e1,cR,m,h1,h2,h3,h4,hK⟩:=o7 h hs hK;obtain ⟨e2,ef,ms,vs,q1,q2,q3,q4,hK⟩:=ih h1 hK;refine ⟨e2,ef,m::ms,v::vs,q1,h2.trans q2,?_,⟨v,vs,rfl,?_,q4⟩,hK⟩
   ·simp [aev,cr,q3]
   ·have:=h4.mono q2.on.φ;rw [<-q2.on.key] at this;exact this
  simp only [SL] at hK;cases x with
  |tmp t=>
   simp only at hK;have hs:=h.slot t;by_cases hb: ∃cs,av st.fr t= .box cs
   ·obtain ⟨cs,hb⟩:=hb;rw [hb] at hK;simp [nJ] at hK
   ·refine go (av st.fr t) (a.tmps.getD t undef) ?_ rfl hK;generalize av st.fr t=s at hs hb;cases s<;>first|exact hs|exact absurd ⟨_,rfl⟩ hb
  |cell b t=>
   simp only at hK;have hs:=h.slot b;split at hK
   ·rename_i I cs hI hb;obtain ⟨PE,Ac⟩:=bG hI;rw [hb] at hs;obtain ⟨hv,B2⟩:=hs;cases Aj:iW cs||y8 b with
    |true=>simp [Aj] at hK
    |false=>
    obtain ⟨xQ,hpb⟩:=OF.1 Aj;simp only [Aj,cond_false] at hK;have hv:=hv.1 hpb;rw [ue xQ] at hv;obtain ⟨arr,T,fG,tF⟩:=B2.cells xQ;have hm:w.rangeAt (e.B b) 0 arr.toList:=by intro j v hj;rw [ac5,cell_of fG];simpa using hj
    obtain ⟨v,s,h1,h2,h3,h4⟩:=jI (P:=P) (st:=st) (s:= .skip) (hT t I PE) Ac tF hm hK;refine go s v h2 ?_ h4;simpa [jf,hv,asAddr,afW,aeN] using h1 w hm
   ·simp at hK
theorem Mu {rs:List ResultVar}(hT:kq P c.ti)(h:b9 c Z e st a w): ∀{K:List MV->Option R},PY c st rs K=some r-> ∃ms vs,(rs.mapM (jf a.tmps)).run P w= .ok vs w/\bV e.key e.φ vs ms/\ms.length=rs.length/\K ms=some r:=by
 induction rs with
 |nil=>intro K hK;exact ⟨[],[],by simp,rfl,rfl,hK⟩
 |cons x rs ih=>
  intro K hK;have go: ∀(s:Slot) (v:Value),ah e v s->(jf a.tmps x).run P w= .ok v w->(match s with
   | .sc (.p m)=>PY c st rs λms=>K (m::ms)
   |_=>none)=some r-> ∃ms vs,((x::rs).mapM (jf a.tmps)).run P w= .ok vs w/\bV e.key e.φ vs ms/\ms.length=(x::rs).length/\K ms=some r:=by
   intro s v hs cr hK;split at hK
   ·rename_i m;obtain ⟨ms,vs,q1,q2,q3,hK⟩:=ih hK;simp only [ah] at hs;obtain ⟨g1,g2⟩:m.one=true/\jz e.key e.φ [v] m:=hs;exact ⟨m::ms,v::vs,by simp [aev,cr,q1],⟨v,vs,rfl,by cases m<;>simp [MV.one] at g1<;>exact ⟨rfl,g2⟩,q2⟩,by simp [q3],hK⟩
   ·cases hK
  simp only [PY] at hK;cases x with
  |tmp t=>
   simp only at hK;have hs:=h.slot t;by_cases hb: ∃cs,av st.fr t= .box cs
   ·obtain ⟨cs,hb⟩:=hb;rw [hb] at hK;simp at hK
   ·refine go (av st.fr t) (a.tmps.getD t undef) ?_ rfl hK;generalize av st.fr t=s at hs hb;cases s<;>first|exact hs|exact absurd ⟨_,rfl⟩ hb
  |cell b t=>
   simp only at hK;have hs:=h.slot b;split at hK
   ·rename_i I cs hI hb;obtain ⟨PE,Ac⟩:=bG hI;rw [hb] at hs;obtain ⟨hv,B2⟩:=hs;cases Aj:iW cs||y8 b with
    |true=>simp [Aj] at hK
    |false=>
    obtain ⟨xQ,hpb⟩:=OF.1 Aj;simp only [Aj,cond_false] at hK;have hv:=hv.1 hpb;rw [ue xQ] at hv;obtain ⟨arr,T,fG,tF⟩:=B2.cells xQ;have hm:w.rangeAt (e.B b) 0 arr.toList:=by intro j v hj;rw [ac5,cell_of fG];simpa using hj
    obtain ⟨v,s,h1,h2,h3,h4⟩:=jI (P:=P) (st:=st) (s:= .skip) (hT t I PE) Ac tF hm hK;refine go s v h2 ?_ h4;simpa [jf,hv,asAddr,afW,aeN] using h1 w hm
   ·simp at hK
theorem WV {x:ResultVar}{rs:List ResultVar}{ty:Nat}{I:TI}{K:List MV->Option R}(hI:c.tv ty=some I)(hT:kq P c.ti)(zN:Z.db=[])(h:b9 c Z e st a w)(hK:SL c st (some ty) (x::rs) K=some r): ∃v xs us ms,((x::rs).mapM (jf a.tmps)).run P w= .ok (v::us) w/\cT c Z.nc e w v ⟨ty,false,xs⟩/\bV e.key e.φ us ms/\ms.length=rs.length/\K (.fresh xs::ms)=some r:=by
 obtain ⟨nV,hc⟩:=bG hI;have go: ∀(s:Slot) (v:Value),ah e v s->(jf a.tmps x).run P w= .ok v w->(match s with
  | .sc (.own f)=>(match aQ st.bo f with|some o=>bif o.fb||!BY o.ty ty then none else PY c st rs λms=>K (.fresh o.xs::ms)|none=>none)
  | .sc .nil=>PY c st rs λms=>K (.fresh []::ms)
  |_=>none)=some r-> ∃v xs us ms,((x::rs).mapM (jf a.tmps)).run P w= .ok (v::us) w/\cT c Z.nc e w v ⟨ty,false,xs⟩/\bV e.key e.φ us ms/\ms.length=rs.length/\K (.fresh xs::ms)=some r:=by
  intro s v hs cr hK;have hr: ∀{us:List Value},(rs.mapM (jf a.tmps)).run P w= .ok us w->((x::rs).mapM (jf a.tmps)).run P w= .ok (v::us) w:=λh=>by simp [aev,cr,h]
  split at hK
  ·rename_i f;cases hf:aQ st.bo f with
   |none=>simp [hf] at hK
   |some o=>
    simp only [hf] at hK;cases hb:o.fb||!BY o.ty ty with
    |true=>simp [hb] at hK
    |false=>simp only [hb,cond_false] at hK;obtain ⟨ms,us,q1,q2,q3,hK⟩:=Mu hT h hK;obtain ⟨h1,h2⟩:=OF.1 hb;have jJ:o.ty=ty:=cV (by simpa using h2);obtain ⟨hv,_⟩:=s9 h hs hf;obtain ⟨J,cells,k1,k2,k3,k4,k5⟩:=(h.iC f o hf).row;refine ⟨v,o.xs,us,ms,hr q1,⟨J,cells,by rw [<-jJ];exact k1,k2,by rw [hv,<-jJ];exact k3,k4,λbt hb=> ?_⟩,q2,q3,hK⟩;rw [hv] at hb;obtain ⟨q1,q2,_⟩:=k5 bt hb;refine ⟨Sp q1 (by rw [zN];simp),λoff u hu=> ?_,λhc=>hc.elim⟩;have:=(q2 off u hu).1;rw [h1] at this;cases this
  ·obtain ⟨ms,us,q1,q2,q3,hK⟩:=Mu hT h hK;simp only [ah] at hs;have hs:[v]=[adf none 0 0]:=hs;simp at hs;refine ⟨v,[],us,ms,hr q1,⟨I,[],nV,hc,by rw [hs];exact World.ownsRow_nil w 0 ty I.size,rfl,λbt hb=> ?_⟩,q2,q3,hK⟩;rw [hs] at hb;simp [IT] at hb
  ·cases hK
 simp only [SL] at hK;cases x with
 |tmp t=>
  simp only at hK;have hs:=h.slot t;by_cases hb: ∃cs,av st.fr t= .box cs
  ·obtain ⟨cs,hb⟩:=hb;rw [hb] at hK;simp at hK
  ·refine go (av st.fr t) (a.tmps.getD t undef) ?_ rfl hK;generalize av st.fr t=s at hs hb;cases s<;>first|exact hs|exact absurd ⟨_,rfl⟩ hb
 |cell b t=>
  simp only at hK;have hs:=h.slot b;split at hK
  ·rename_i I cs hI hb;obtain ⟨PE,Ac⟩:=bG hI;rw [hb] at hs;obtain ⟨hv,B2⟩:=hs;cases Aj:iW cs||y8 b with
   |true=>simp [Aj] at hK
   |false=>
   obtain ⟨xQ,hpb⟩:=OF.1 Aj;simp only [Aj,cond_false] at hK;have hv:=hv.1 hpb;rw [ue xQ] at hv;obtain ⟨arr,T,fG,tF⟩:=B2.cells xQ;have hm:w.rangeAt (e.B b) 0 arr.toList:=by intro j v hj;rw [ac5,cell_of fG];simpa using hj
   obtain ⟨v,s,h1,h2,h3,h4⟩:=jI (P:=P) (st:=st) (s:= .skip) (hT t I PE) Ac tF hm hK;refine go s v h2 ?_ h4;simpa [jf,hv,asAddr,afW,aeN] using h1 w hm
  ·simp at hK
theorem Qx {X:Code->St->(Nat->St->Option MV)->Option MV}(hX: ∀(b:Code){r:MV}{Z:bI}{e:Env}{st:St}{a:Act}{w:World}{K:Nat->St->Option MV}{Q:Exit->Act->World->Prop},b9 c Z e st a w->X b st K=some r-> (∀n e' bZ a' w',b9 c Z e' bZ a' w'->Trans Z.In e.φ w e'.φ w'->K n bZ=some r->Q (lU n) a' w')->b.wp P Q a w)
 {f:FuncId} {fn:Func} {dJ:List (List Kd)} {ms:List MV} {m:MV} (hG:Good P c) (hf:P.funcs[f]? =some fn) (Am:(fn.name== "runtime.NumGoroutine")=false)
 (hn:c.n=fn.ntmps) (rR:fn.params.size+dJ.length<=fn.ntmps) (hg:c.fF (c.key f)=false) {fresh:Option Nat} (Fi: ∀ty,fresh=some ty->ty=c.nT (c.key f)/\1<=fn.results.toList.length/\ ∃I,c.tv ty=some I) (hb:U1 X c dJ fresh fn ms=some m):j8 P c f ms m:=by
 intro φ w Z vs hz gl mn;simp only [fJ,hg,abF,if_false] at gl;unfold U1 at hb;cases rU:fn.body with
 |none=>simp [rU] at hb
 |some b=>
  simp only [rU] at hb;have cr:(callFunc f vs.toArray).run P w= .ok (.enter f vs.toArray) w:=by
   have Lk: ¬fn.name= "runtime.NumGoroutine" :=by simpa using Am
   simp [callFunc,hf,Lk,rU]
  unfold dQ;rw [cr];refine calls_of_wp hf rU ?_;let e:Env:=oO c.key φ;have gl:bV e.key e.φ vs ms:=gl;obtain ⟨fr,rest,lK,uj,hb,rfl,l1,a2,k1,s1⟩:=Gw gl hb;obtain ⟨qJ,hb,l2,k2,s2⟩:=Mt a2 hb;simp only [z7] at hb;have htn:(lK++uj).toArray.size=fn.params.size+dJ.length:=by simp [l1,l2]
  let a:Act:={tmps:=(lK++uj).toArray++aef (fn.ntmps-(lK++uj).toArray.size) undef,defers:=[]}
  have HN: ∀(t:Nat) (v:Value),(lK++uj)[t]? =some v->a.tmps.getD t undef=v:=by intro t v ht;have cJ:t<(lK++uj).length:=(abJ.1 ht).1;rw [ac2];show (((lK++uj).toArray++aef _ undef)[t]?).getD undef=v;rw [Array.getElem?_append_left (by simpa using cJ)];simp only [List.getElem?_toArray];rw [ht];rfl
  have IV: ∀t,dW (av (fr++qJ) t)=false/\(∀cs,av (fr++qJ) t≠ .box cs)/\ah e (a.tmps.getD t undef) (av (fr++qJ) t):=by
   intro t;rw [z8];by_cases h1:t∈aU fr
   ·simp only [h1,if_true];obtain ⟨g1,g2,v,g3,g4⟩:=s1 _ (DO h1);refine ⟨g1,?_,?_⟩
    ·intro cs hc;simp only [hc,dy] at g2;cases g2
    ·rw [HN t v ?_];exact g4;have cJ:t<lK.length:=(abJ.1 g3).1;rw [ac7 cJ];exact g3
   ·simp only [h1,if_false];by_cases h2:t∈aU qJ
    ·obtain ⟨g1,g2,v,g3,g4⟩:=s2 _ (DO h2);refine ⟨g1,g2,?_⟩;rw [HN t v ?_];exact g4;have hk:=h2;rw [k2,aee] at hk;obtain ⟨i,hi,he⟩:=hk;have Ch:fn.params.size=lK.length:=by rw [l1];simp
     rw [ac4 (by omega),<-Ch];exact g3
    ·rw [tE _ _ h2];exact ⟨rfl,λcs hc=>(by cases hc),by simp [ah]⟩
  have aaj: ∀t cs,av (fr++qJ) t= .box cs->False:=λt cs hc=>(IV t).2.1 cs hc;have ta:b9 c (bI.plain Z) e ⟨[],[],fr++qJ,[]⟩ a w:=by
   refine ⟨⟨rfl,rfl,rfl,λt ht=>by simp [bI.plain] at ht⟩,?_,rfl,rfl,?_,?_,λt=>wY (IV t).1,λf o ho=>by simp [aQ] at ho,λt t' cs kR h1=>(aaj t cs h1).elim,λt cs f o h1=>(aaj t cs h1).elim,λf f' o o' k h1=>by simp [aQ] at h1,mn,hz⟩
   ·show ((lK++uj).toArray++aef (fn.ntmps-(lK++uj).toArray.size) undef).size=c.n;rw [Array.size_append,Array.size_replicate,htn,hn];omega
   ·show (aU (fr++qJ)).Nodup;have:aU (fr++qJ)=aU fr++aU qJ:=by simp [aU]
    rw [this,k1,k2];have:ad1 0 fn.params.toList.length++ad1 fn.params.size dJ.length=ad1 0 (fn.params.toList.length+dJ.length):=by have:=List.range'_append_1 (s:=0) (m:=fn.params.toList.length) (n:=dJ.length);simpa using this
    rw [this];exact List.nodup_range'
   ·intro t;obtain ⟨g1,g2,g3⟩:=IV t;show cn _ e w t _ (av (fr++qJ) t);generalize av (fr++qJ) t=s at g1 g2 g3;cases s<;>first|exact g3|exact absurd rfl (g2 _)
  refine hX b ta hb ?_;intro n e' bZ a' w' h' t' hK;cases hle:adY n 1 with
  |false=>simp [hle] at hK
  |true=>
   simp only [hle,cond_true] at hK;have ap9: ∃φ' us,Trans Z e'.φ w' φ' w'/\qy φ' w'/\(fn.results.toList.mapM (jf a'.tmps)).run P w'= .ok us w'/\iG c Z φ' w' (c.key f) (if h:us.toArray.size=1 then us.toArray[0] else .tuple us.toArray) m:=by
    cases fresh with
    |some ty=>
     obtain ⟨h1,h2,I,h3⟩:=Fi ty rfl;match hrs:fn.results.toList,h2 with
     |x::rs,_=>
      rw [hrs] at hK;obtain ⟨v,xs,us,ms,g1,g2,g4,g5,g3⟩:=WV (P:=P) h3 hG.ti rfl h' hK;have g2':cT c (bI.plain Z) (oO c.key e'.φ) w' v ⟨c.nT (c.key f),false,xs⟩:=by rw [<-h1];exact g2.env (e':=oO c.key e'.φ) h'.key.symm rfl
      rw [h'.key] at g4;refine ⟨e'.φ,v::us,.refl _ _ _,h'.kP,g1,?_⟩;cases ms with
      |nil=>have g3:some (MV.fresh xs)=some m:=g3;cases g3;have:us=[]:=g4;subst this;simp only [afZ,aek,dite_true];exact g2'
      |cons m1 ms=>have g3:some (MV.eu (.fresh xs::m1::ms))=some m:=g3;cases g3;obtain ⟨u1,us1,rfl,g6,g7⟩:=g4;rw [dif_neg (by simp)];exact ⟨v,u1::us1,rfl,g2',u1,us1,rfl,g6,g7⟩
    |none=>
    obtain ⟨e2,ef,ns,us,q1,q2,q3,q4,hK⟩:=WU (P:=P) hG.ti h' hK;refine ⟨e2.φ,us,q2.tr,q1.kP,q3,?_⟩;have PH:e2.key=c.key:=q1.key;rw [PH] at q4;split at hK
    ·rename_i m';cases hK;obtain ⟨v,u,rfl,g1,g2⟩:=q4;have g2:u=[]:=g2;subst g2;simp only [afZ,aek,dite_true];cases m<;>first|exact g1|exact absurd g1.1 (by simp [MV.one])
    ·rename_i ns' di;cases hK;have di:us.toArray.size≠1:=by
      intro h1;cases us with
      |nil=>simp at h1
      |cons v us=>
       cases us with
       |cons=>simp at h1
       |nil=>
        cases ns with
        |nil=>cases q4
        |cons m1 ns1=>
         obtain ⟨v',u',h2,g1,g2⟩:=q4;simp at h2;obtain ⟨rfl,rfl⟩:=h2;cases ns1 with
         |nil=>exact di m1 rfl
         |cons=>obtain ⟨_,_,h3,_⟩:=g2;simp at h3
     rw [dif_neg di];exact Lo.args (by simpa using q4)
   obtain ⟨φ2,us,p1,p2,q3,p4⟩:=ap9;have po:(results fn a'.tmps).run P w'= .ok (if h:us.toArray.size=1 then us.toArray[0] else .tuple us.toArray) w':=by
    have hm:(fn.results.mapM (jf a'.tmps)).run P w'= .ok us.toArray w':=by rw [Array.mapM_eq_mapM_toList];simp [q3]
    have PF:results fn a'.tmps=(do let vs<-fn.results.mapM (jf a'.tmps);pure (if h:vs.size=1 then vs[0] else .tuple vs)):=by unfold results;congr 1
    rw [PF];simp [hm]
   have Qy: ∃φ',Trans Z φ w φ' w'/\qy φ' w'/\iG c Z φ' w' (c.key f) (if h:us.toArray.size=1 then us.toArray[0] else .tuple us.toArray) m:=⟨φ2,t'.trans p1,p2,p4⟩
   match n,hle with
   |0,_=>exact ⟨h'.defers.1,_,po,_,rfl,Qy.imp λφ' h=>⟨h.1,h.2.1,.plain h.2.2⟩⟩
   |1,_=>exact ⟨h'.defers.1,_,po,_,rfl,Qy.imp λφ' h=>⟨h.1,h.2.1,.plain h.2.2⟩⟩
   |n+2,hle=>simp [adY] at hle
theorem adV {f:FuncId}{fn:Func}{dJ:List (List Kd)}{ms:List MV}{m:MV}(hG:Good P c)(hD:IR P c)(hf:P.funcs[f]? =some fn)(Am:(fn.name== "runtime.NumGoroutine")=false)
 (hn:c.n=fn.ntmps) (rR:fn.params.size+dJ.length<=fn.ntmps) (hg:c.fF (c.key f)=false) {fresh:Option Nat} (Fi: ∀ty,fresh=some ty->ty=c.nT (c.key f)/\1<=fn.results.toList.length/\ ∃I,c.tv ty=some I) (hb:Md c dJ fresh fn ms=some m):j8 P c f ms m:=
 Qx (λb {r Z e st a w K Q} h hK hQ=>vC hG hD b h hK hQ) hG hf Am hn rR hg Fi hb
end
end Dn
/-
  What arguments read as: values of their types. Conditions: none.
-/
namespace Dn
open Go Go.WideShapes
def Fu (W:World):Ph:=λb o=>W.cell? ⟨b,o,none⟩
theorem aak (W:World):qy (Fu W) W:=λb o v h=>h
def Oo (P:Program):List Field->Nat->Nat->Bool
 |[],o,n=>BY o n
 |f::fs,o,n=>BY f.offset o&&Oo P fs (o+P.cellsOf f.type) n
def okT (P:Program):Nat->TypeId->Bool
 |0,_=>false
 |d+1,t=>match P.underlying t with
  |some .bool=>true
  |some (.int _)=>true
  |some .string=>true
  |some (.slice e)=>okT P d e&&adY 1 (P.cellsOf e)
  |some (.struct fs)=>Oo P fs.toList 0 (P.cellsOf t)&&fs.toList.all λf=>okT P d f.type
  |some (.array n e)=>BY n 32&&(match P.underlying e with|some (.int .u8)=>true|_=>false)&&BY (P.cellsOf e) 1&&BY (P.cellsOf t) 32
  |_=>false
def ME (P:Program)(F:TypeId->List MV->Prop)(e:TypeId)(x:MV):Prop:=match P.underlying e with
 |some (.struct _)=> ∃cs,x= .agg cs/\F e cs
 |_=>F e [x]
def FT (F:TypeId->List MV->Prop):List TypeId->List MV->Prop
 |[],ms=>ms=[]
 |t::ts,ms=> ∃a b,ms=a++b/\F t a/\FT F ts b
def MT (P:Program):Nat->TypeId->List MV->Prop
 |0,_,_=>False
 |d+1,t,ms=>match P.underlying t with
  |some .bool=> ∃b,ms=[.b b]
  |some (.int k)=> ∃n,ms=[.i k n]/\(Lit.int k n).wf=true
  |some .string=> ∃l:List UInt8,ms=[.s l]/\l.length<=maxLen
  |some (.slice e)=> ∃xs,ms=[.list xs]/\xs.length<=maxLen/\ ∀x∈xs,ME P (MT P d) e x
  |some (.struct fs)=>FT (MT P d) (fs.toList.map (·.type)) ms
  |some (.array _ _)=> ∃h,ms=[.h h]
  |_=>False
section
variable {H:Type}{enc:TypeId×Value->H}{P:Program}{W:World}{base:Nat}{sp:Nat->Bool}{held:Bool}{key:Nat->Nat}
theorem jd.append {key:Nat->Nat} {φ:Ph}{ms ns:List MV}: ∀{vs us:List Value},jd key φ vs ms->jd key φ us ns->jd key φ (vs++us) (ms++ns):=by
 induction ms with
 |nil=>intro vs us h h';cases h;simpa using h'
 |cons m ms ih=>
  intro vs us h h';cases h with
  |cons v _ vs _ h1 h2=>rw [afS];exact .cons v m _ _ h1 (ih h2 h')
theorem jd.aal {key:Nat->Nat} {φ:Ph}{v:Value}{m:MV}(h:jz key φ [v] m):jd key φ [v] [m]:=by have:=jd.cons [v] m [] [] h .nil;simpa using this
theorem jd.single {key:Nat->Nat} {φ:Ph}{vs:List Value}{m:MV}(h:jd key φ vs [m]):jz key φ vs m:=by
 cases h with
 |cons v _ vs _ h1 h2=>cases h2;simpa using h1
theorem Fw {a:Addr}{n:Nat}{cs:List Value}(h:W.cells? base a n=some cs):cs.length=n/\ ∀j,j<n->W.cell? (a.add j)=cs[j]? :=by
 unfold World.cells? at h;split at h
 ·have hl:=mapM_some_length h;refine ⟨by simpa using hl,λj hj=> ?_⟩;exact mapM_some_get h j j (by simp [hj])
 ·cases h
theorem Qz {F:TypeId->List MV->Prop}{fuel:Nat}{cs:List Value}: ∀(fs:List Field) (o n:Nat) (xs:List (DataW H×List MemPlace)),Oo P fs o n=true->cs.length=n-> (∀(i:Nat) (f:Field),fs[i]? =some f->DataW.trod enc P W base sp held fuel f.type ((cs.drop f.offset).take (P.cellsOf f.type))=xs[i]?)->xs.length=fs.length-> (∀f∈fs,∀kR x,DataW.trod enc P W base sp held fuel f.type kR=some x-> ∃ms,jd key (Fu W) kR ms/\F f.type ms)-> ∃ms,jd key (Fu W) (cs.drop o) ms/\FT F (fs.map (·.type)) ms:=by
 intro fs;induction fs with
 |nil=>intro o n xs hc hl _ _ _;have:o=n:=cV hc;subst this;refine ⟨[],?_,rfl⟩;rw [<-hl,List.drop_length];exact .nil
 |cons f fs ih=>
  intro o n xs hc hl hx hxl hF;simp only [Oo,sh] at hc;have ho:=cV hc.1;cases xs with
  |nil=>simp at hxl
  |cons x xs=>have h0:=hx 0 f rfl;rw [ho] at h0;obtain ⟨m1,r1,t1⟩:=hF f (by simp) _ x (by simpa using h0);obtain ⟨m2,r2,t2⟩:=ih (o+P.cellsOf f.type) n xs hc.2 hl (λi g hg=>by have:=hx (i+1) g (by simpa using hg);simpa using this) (by simpa using hxl) (λg hg=>hF g (by simp [hg]));refine ⟨m1++m2,?_,m1,m2,rfl,t1,t2⟩;have:=r1.append r2;rw [<-List.drop_drop,aeg] at this;exact this
theorem aam: ∀(fuel D:Nat) (t:TypeId) (cs:List Value) (x:DataW H×List MemPlace),okT P D t=true->DataW.trod enc P W base sp held fuel t cs=some x-> ∃ms,jd key (Fu W) cs ms/\MT P fuel t ms:=by
 intro fuel;induction fuel with
 |zero=>intro D t cs x _ h;simp [DataW.trod] at h
 |succ fuel ih=>
  intro D t cs x hD h;cases D with
  |zero=>simp [okT] at hD
  |succ D=>
   unfold okT at hD;cases hu:P.underlying t with
   |none=>simp [hu] at hD
   |some d=>
    cases d<;>simp only [hu] at hD<;>try (cases hD;done)
    case bool=>obtain ⟨b,rfl,_⟩:=DataW.trod_bool hu h;exact ⟨[.b b],.aal (.b b),by simp only [MT,hu];exact ⟨b,rfl⟩⟩
    case int k=>obtain ⟨n,rfl,_,hw⟩:=DataW.trod_int hu h;exact ⟨[.i k n],.aal (.i k n),by simp only [MT,hu];exact ⟨n,rfl,hw⟩⟩
    case string=>obtain ⟨s,rfl,_,hw⟩:=DataW.trod_string hu h;exact ⟨[.s s.data.toList],.aal (.s s),by simp only [MT,hu];exact ⟨_,rfl,by simpa using hw⟩⟩
    case struct fs=>
     obtain ⟨xs,n,hn,_,hl,hxl,hx⟩:=DataW.trod_struct hu h;have hn:n=fuel:=by omega
     subst hn;simp only [sh] at hD;obtain ⟨ms,r1,t1⟩:=Qz (F:=MT P n) (key:=key) fs.toList 0 (P.cellsOf t) xs hD.1 hl (λi f hf=>hx i f (by simpa using hf)) (by simpa using hxl) (λf hf kR x' h'=>ih D f.type kR x' (ada.1 hD.2 f hf) h');exact ⟨ms,by simpa using r1,by simp only [MT,hu];exact t1⟩
    case slice e=>
     simp only [sh] at hD;have iY:1<=P.cellsOf e:=ac1 hD.2;rcases DataW.trod_slice hu h with ⟨rfl,_⟩|⟨a,len,cap,elems,rest,n,hn,rfl,_,_,hlc,K6,hel,hx,_⟩
     ·refine ⟨[.list []],.aal (.list none 0 [] 0 0 0 (λ_=>[]) (by simp) (by simp) (by simp) (by simp) (by simp)),?_⟩;simp only [MT,hu];exact ⟨[],rfl,agp _,by simp⟩
     ·have hn:n=fuel:=by omega
      subst hn;have ml: ∀i,i<len-> ∃kR m,W.cells? base (a.add (i *P.cellsOf e)) (P.cellsOf e)=some kR/\jz key (Fu W) kR m/\ME P (MT P n) e m:=by
       intro i hi;have h1:=hx i hi;cases hc:W.cells? base (a.add (i *P.cellsOf e)) (P.cellsOf e) with
       |none=>
        rw [hc] at h1;have:elems[i]? =none:=by simpa using h1.symm
        rw [adN] at this;omega
       |some kR=>
        rw [hc] at h1;have cJ:i<elems.length:=by omega
        rw [No cJ] at h1;obtain ⟨ms,r1,t1⟩:=ih D e kR _ hD.1 (by simpa using h1);have Qp:=hD.1;by_cases hs: ∃fs,P.underlying e=some (.struct fs)
        ·obtain ⟨fs,hs⟩:=hs;exact ⟨kR,.agg ms,rfl,.agg kR ms r1,by simp only [ME,hs];exact ⟨ms,rfl,t1⟩⟩
        ·have h1m: ∃m,ms=[m]:=by
          cases n with
          |zero=>exact t1.elim
          |succ n=>
           simp only [MT] at t1;cases hue:P.underlying e with
           |none=>simp [hue] at t1
           |some de=>
            cases de<;>simp only [hue] at t1<;>first
             |exact t1.elim
             |(obtain ⟨y,hy,_⟩:=t1;exact ⟨_,hy⟩)
             |(obtain ⟨y,hy⟩:=t1;exact ⟨_,hy⟩)
             |exact absurd ⟨_,hue⟩ hs
         obtain ⟨m,rfl⟩:=h1m;refine ⟨kR,m,rfl,r1.single,?_⟩;unfold ME;cases hue:P.underlying e with
         |none=>exact t1
         |some de=>cases de<;>first|exact t1|exact absurd ⟨_,hue⟩ hs
      let f:Nat->List Value:=λi=>(W.cells? base (a.add (i *P.cellsOf e)) (P.cellsOf e)).getD [];let g:Nat->MV:=λi=>if hi:i<len then aeb (acT (ml i hi)) else default
      have PK: ∀i,i<len->W.cells? base (a.add (i *P.cellsOf e)) (P.cellsOf e)=some (f i)/\jz key (Fu W) (f i) (g i)/\ME P (MT P n) e (g i):=by
       intro i hi;have hsp:=acT (acT (ml i hi));have hf:f i=aeb (ml i hi):=by show (W.cells? base (a.add (i *P.cellsOf e)) (P.cellsOf e)).getD []=_;exact congrArg (λo=>o.getD []) hsp.1
       have hg:g i=aeb (acT (ml i hi)):=by show (if hi:i<len then _ else _)=_;rw [dif_pos hi]
       rw [hf,hg];exact hsp
      have agb:0<len->a=⟨a.block,a.off,none⟩:=by
       intro h0;obtain ⟨h1,_,_⟩:=PK 0 h0;obtain ⟨rl,hcg⟩:=Fw h1;have:=hcg 0 (by omega);rw [Nat.zero_mul] at this;have hz:(a.add 0).add 0=a:=rfl;rw [hz] at this;have cJ:0<(f 0).length:=by omega
       rw [No cJ] at this;unfold World.cell? at this;split at this
       ·cases hsp:a.spot with
        |none=>cases a;simp at hsp;subst hsp;rfl
        |some s=>simp [hsp] at this
       ·cases this
      have alB: ∀i j,i<len->j<P.cellsOf e->Fu W a.block (a.off+i *P.cellsOf e+j)=(f i)[j]? :=by intro i j hi hj;obtain ⟨h1,_,_⟩:=PK i hi;obtain ⟨rl,hcg⟩:=Fw h1;have:=hcg j hj;rw [<-this];unfold Fu;congr 1;have ha:=agb (by omega);rw [ha];rw [agn,agn]
      refine ⟨[.list ((afP len).map g)],.aal ?_,?_⟩
      ·have hlen:((afP len).map g).length=len:=by simp
       have:=jz.list (key:=key) (φ:=Fu W) (some a) cap ((afP len).map g) a.block a.off (P.cellsOf e) f (by rw [hlen];exact hlc) (λh0=>by rw [hlen] at h0;exact congrArg some (agb h0)) (λi hi=>by rw [hlen] at hi;exact (Fw (PK i hi).1).1) (λi j hi hj=>alB i j (by rw [hlen] at hi;exact hi) hj) (λi hi=>by simp at hi;simpa using (PK i hi).2.1);rw [hlen] at this;exact this
      ·simp only [MT,hu];refine ⟨_,rfl,by simp;omega,λy hy=> ?_⟩;obtain ⟨i,hi,rfl⟩:=acU.1 hy;exact (PK i (by simpa using hi)).2.2
    case array n e=>
     simp only [sh] at hD;obtain ⟨⟨⟨h1,h2⟩,h3⟩,h4⟩:=hD;have h1:=cV h1;have h3:=cV h3;have h4:=cV h4;subst h1;obtain ⟨xs,m,hm,_,hl,hxl,hx⟩:=DataW.trod_array hu h;rw [h4] at hl;split at h2
     ·rename_i hue;have sN: ∀i (hi:i<cs.length),∃b:UInt8,cs[i]= .int .u8 (b.toNat:Int):=by
       intro i hi;have aqb:i<32:=by omega
       have:=hx i aqb;rw [h3,Nat.mul_one] at this;have HM:(cs.drop i).take 1=[cs[i]]:=by rw [List.take_one,List.head?_drop,No hi];rfl
       rw [HM,No (by omega)] at this;obtain ⟨k,hk,_,hw⟩:=DataW.trod_int hue this;simp only [aaU,and_true] at hk;refine ⟨adW k.toNat,?_⟩;rw [hk];simp only [Lit.wf,sh,decide_eq_true_eq] at hw;have Zt:IntKind.u8.min=0:=by decide
       have aqc:IntKind.u8.max=255:=by decide
       rw [Zt,aqc] at hw;congr 1;have:(adW k.toNat).toNat=k.toNat:=by rw [UInt8.toNat_ofNat'];omega
       rw [this];omega
      have: ∃l:List UInt8,cs=l.map λb=>agC .u8 (b.toNat:Int):=by
       clear hx hl h;induction cs with
       |nil=>exact ⟨[],rfl⟩
       |cons c cs ihc=>obtain ⟨b,hb⟩:=sN 0 (by simp);obtain ⟨l,hl⟩:=ihc (λi hi=>by have:=sN (i+1) (by simpa using hi);simpa using this);exact ⟨b::l,by simp at hb;rw [hb,hl];rfl⟩
      obtain ⟨l,rfl⟩:=this;have ahE:l.length=32:=by simpa using hl
      refine ⟨[.h ⟨l,ahE⟩],?_,by simp only [MT,hu];exact ⟨_,rfl⟩⟩;have:=jd.cons (key:=key) (φ:=Fu W) _ (.h ⟨l,ahE⟩) [] [] (.h ⟨l,ahE⟩) .nil;simpa using this
     ·cases h2
theorem aan {r:Reach}{b0 D:Nat}{t:TypeId}{v:Value}{d:DataW H}{ps:List MemPlace}(hD:okT P D t=true)(hv:adx P W r b0 t v)(h:DataW.Trod enc P W base sp held t v d ps): ∃m n,fZ key (Fu W) v m/\ME P (MT P n) t m:=by
 obtain ⟨fuel,hf⟩:=h;obtain ⟨ms,r1,t1⟩:=aam (key:=key) fuel D t _ _ hD hf;cases fuel with
 |zero=>exact t1.elim
 |succ fuel=>
  have t2:=t1;simp only [MT] at t1;cases hu:P.underlying t with
  |none=>simp [hu] at t1
  |some k=>
   simp only [hu] at t1;cases k<;>simp only at t1<;>try (exact t1.elim)
   case bool=>obtain ⟨b,rfl⟩:=t1;obtain ⟨b',rfl⟩:=okWide_bool hu hv;refine ⟨.b b,fuel+1,⟨rfl,r1.single⟩,by unfold ME;simp only [hu];exact t2⟩
   case int k=>obtain ⟨n,rfl,_⟩:=t1;obtain ⟨n',rfl⟩:=okWide_int hu hv;refine ⟨.i k n,fuel+1,⟨rfl,r1.single⟩,by unfold ME;simp only [hu];exact t2⟩
   case string=>obtain ⟨l,rfl,_⟩:=t1;obtain ⟨s',rfl⟩:=okWide_string hu hv;refine ⟨.s l,fuel+1,⟨rfl,r1.single⟩,by unfold ME;simp only [hu];exact t2⟩
   case slice e=>
    obtain ⟨xs,rfl,_⟩:=t1;have hvc:v.cells.toList=[v]:=by simp only [adx,hu,Cell.okWide] at hv;cases v<;>simp_all [Cell.ok,adg]
    rw [hvc] at r1;refine ⟨.list xs,fuel+1,⟨rfl,r1.single⟩,by unfold ME;simp only [hu];exact t2⟩
   case struct fs=>obtain ⟨arr,rfl,_⟩:=okWide_struct hu hv;refine ⟨.agg ms,fuel+1,⟨arr,rfl,by simpa [adg] using r1⟩,by unfold ME;simp only [hu];exact ⟨ms,rfl,t2⟩⟩
   case array n e=>
    obtain ⟨h,rfl⟩:=t1;have: ∃arr,v= .agg arr:=by simp only [adx,hu] at hv;obtain ⟨arr,rfl,_⟩:=hv;exact ⟨arr,rfl⟩
    obtain ⟨arr,rfl⟩:=this;refine ⟨.h h,fuel+1,?_,by unfold ME;simp only [hu];exact t2⟩;have hr:=r1.single;simp only [adg] at hr;generalize Bq:arr.toList=vs at hr;cases hr;show Value.agg arr= .agg _;rw [<-Bq]
end
end Dn
/-
  A law of plain data, out of its function's contract. Conditions: none.
-/
namespace Dn
open Go Go.WideShapes Go.ChangeShapes Go.RowKit
section
variable {H:Type}{enc:TypeId×Value->H}{P:Program} {W W':World}{c:Ctx}
theorem Cl (hl:laidOutB P=true)(hb:Below W.heap.size W W'): ∀{ts:List TypeId} {vs:List Value} {ds:List (DataW H)} {ps:List MemPlace},(∀t∈ts,P.readableRec t=true/\t<P.types.size)-> DataW.TrodAll enc P W 0 (λ_=>true) true ts vs ds ps->(∀x∈ps,x.block<W.heap.size)->DataW.TrodAll enc P W' 0 (λb=>decide (b<W.heap.size)) true ts vs ds ps
 |[],[],[],_,_,h,_=>h
 |t::ts,v::vs,d::ds,_,ht,⟨p,q,h1,h2,e⟩,hs=>⟨p,q,Below.trod hl (ht t (by simp)).1 (ht t (by simp)).2 h1 hb (λx hx=>hs x (by rw [e];exact aau _ hx)),Cl hl hb (λu hu=>ht u (by simp [hu])) h2 (λx hx=>hs x (by rw [e];exact aaJ _ hx)),e⟩
def DP (P:Program):List TypeId->List MV->Prop
 |[],ms=>ms=[]
 |t::ts,ms=> ∃m r,ms=m::r/\(∃n,ME P (MT P n) t m)/\DP P ts r
theorem Mv {base:Nat}{sp:Nat->Bool}{held:Bool}{key:Nat->Nat}{r:Reach}{b0:Nat}: ∀{ts:List TypeId} {vs:List Value} {ds:List (DataW H)} {ps:List MemPlace},(∀t∈ts,∃D,okT P D t=true)-> (∀(j:Nat) t v,ts[j]? =some t->vs[j]? =some v->adx P W r b0 t v)->DataW.TrodAll enc P W base sp held ts vs ds ps-> ∃ms,bV key (Fu W) vs ms/\DP P ts ms/\ds.length=ts.length
 |[],[],[],_,_,_,_=>⟨[],rfl,rfl,rfl⟩
 |t::ts,v::vs,d::ds,_,ht,hv,⟨p,q,h1,h2,e⟩=>by obtain ⟨D,hD⟩:=ht t (by simp);obtain ⟨m,n,r1,t1⟩:=aan (key:=key) hD (hv 0 t v rfl rfl) h1;obtain ⟨ms,r2,t2,hl⟩:=Mv (key:=key) (λu hu=>ht u (by simp [hu])) (λj u x hu hx=>hv (j+1) u x (by simpa using hu) (by simpa using hx)) h2;exact ⟨m::ms,⟨v,vs,rfl,r1,r2⟩,⟨m,ms,rfl,⟨n,t1⟩,t2⟩,by simp [hl]⟩
theorem WW {fn:Func}{f:FuncId}{s:ChangeSpec}{args:Array Value}{ds gs:List (DataW H)}{before:List MemPlace}{tb:TypeId}{base:Nat}(hf:P.funcs[f]? =some fn)(rU:fn.body.isSome=true)(Am:(fn.name== "runtime.NumGoroutine")=false)
 (hl:laidOutB P=true) (alC: ∀t∈fn.params.toList,(∃D,okT P D t=true)/\P.readableRec t=true/\t<P.types.size) (po:fn.resultTypes= #[tb]) (htb:P.underlying tb=some .bool) (hv:s.vars=[])
 (hfn: ∀ds:List (DataW H),ds.length=fn.params.toList.length->s.fn H ds={results:=[.lit (.bool true)],args:=ds})
 (ya: ∀(j:Nat) t v,fn.params[j]? =some t->args[j]? =some v->adx P W .any base t v)
 (hW:DataW.Whole enc P fn.params.toList s.vars false W args.toList ds gs before) (hg:c.fF (c.key f)=false)
 (Ai: ∀ms,DP P fn.params.toList ms->j8 P c f ms (.b true)):
 Calls P f args W λe W'=> ∃v,e= .returned v/\s.post enc P fn false true false false W args v W':=by
 have hW':=hW;obtain ⟨p,q,hA,hV,rfl,hfz,hnd⟩:=hW;rw [hv] at hV;obtain ⟨rfl,rfl⟩:=trodVars_none hV;have cJ: ∀x∈p,x.block<W.heap.size:=λx hx=>by simpa using hW'.lt x (by simp [hx])
 obtain ⟨ms,r1,t1,WX⟩:=Mv (key:=c.key) (λt ht=>(alC t ht).1) (λj t v h1 h2=>ya j t v (by simpa using h1) (by simpa using h2)) hA;have hc:=Ai ms t1 (Fu W) W (λb=>W.heap.size<=b) args.toList (λb hb=>hb) (by simp only [fJ,hg,abF,if_false];exact r1) (aak W);have cr:(callFunc f args).run P W= .ok (.enter f args) W:=by
  have Lk: ¬fn.name= "runtime.NumGoroutine" :=by simpa using Am
  cases hb:fn.body with
  |none=>rw [hb] at rU;cases rU
  |some b=>simp [callFunc,hf,Lk,hb]
 unfold dQ at hc;rw [ac3,cr] at hc;refine hc.mono ?_;rintro x W' ⟨v,rfl,φ',ht,mn,hr⟩;have hvb:v= .bool true:=by obtain ⟨_,hr⟩:=hr;generalize Bq:[v]=vs at hr;cases hr;simpa using Bq
 subst hvb;have aao:Below W.heap.size W W':=⟨ht.rest.1,ht.rest.2.1,ht.rest.2.2.1,ht.size,λk hk=>ht.heap k (by omega) hk⟩
 have ahF:=hfn (ds++[]) (by simpa using WX);refine ⟨_,rfl,ds,[],_,[],p,[],hW',?_,?_,?_,aao.frame _,λh=>by cases h⟩
 ·rw [ahF,po];exact trodAll_mk1 (shut_bool htb _)
 ·rw [ahF];simpa using Cl hl aao (λt ht=>(alC t ht).2) hA cJ
 ·rw [ahF,hv];rfl
end
theorem DQ {α:Type}{f:α->MV}{Q:α->Prop}{R:MV->Prop}{xs:List MV}(h: ∀x,R x-> ∃y,x=f y/\Q y)(hx: ∀x∈xs,R x): ∃L:List α,xs=L.map f/\ ∀y∈L,Q y:=by
 induction xs with
 |nil=>exact ⟨[],rfl,by simp⟩
 |cons x xs ih=>obtain ⟨y,rfl,hq⟩:=h x (hx x (by simp));obtain ⟨L,rfl,hL⟩:=ih λz hz=>hx z (by simp [hz]);exact ⟨y::L,rfl,by simp only [AI];rintro z (rfl|hz);exact hq;exact hL z hz⟩
end Dn
/-
  A program's type table, looked through. Conditions: none.
-/
namespace Dn
open Go
theorem aap {a b:Kd}(h:kdB a b=true):a=b:=by cases a<;>cases b<;>simp [kdB,kB] at h<;>first|rfl|(subst h;rfl)
def mK:List Kd->Kd->Bool
 |[k],k'=>kdB k k'
 |_,_=>false
theorem fe {l:List Kd}{k:Kd}(h:mK l k=true):l=[k]:=by
 cases l with
 |nil=>simp [mK] at h
 |cons a l=>cases l with
  |nil=>simp only [mK] at h;rw [aap h]
  |cons=>simp [mK] at h
def Gx:List Nat->List Nat->Bool
 |[],[]=>true
 |a::l,b::m=>BY a b&&Gx l m
 |_,_=>false
theorem IW {l m:List Nat}(h:Gx l m=true):l=m:=by
 induction l generalizing m with
 |nil=>cases m<;>simp [Gx] at h;rfl
 |cons a l ih=>
  cases m with
  |nil=>simp [Gx] at h
  |cons b m=>simp only [Gx,sh] at h;rw [cV h.1,ih h.2]
def yd {α:Type}:List α->Bool
 |[]=>true
 |_=>false
theorem rm {α:Type}{l:List α}(h:yd l=true):l=[]:=by cases l<;>simp [yd] at h;rfl
def Oq (ti:Nat->Option TI)(t:Nat):Bool:=match ti t with|some J=>yd J.cQ&&adY 1 J.size|none=>false
theorem Mw {ti:Nat->Option TI}{t:Nat}(h:Oq ti t=true): ∃J,ti t=some J/\J.cQ=[]/\0<J.size:=by
 unfold Oq at h;cases hJ:ti t with
 |none=>simp [hJ] at h
 |some J=>simp only [hJ,sh] at h;exact ⟨J,rfl,rm h.1,ac1 h.2⟩
def IX:List Value->Nat->Bool
 |[],n=>BY n 0
 | .int .u8 k::r,n+1=>decide (k=0)&&IX r n
 |_,_=>false
theorem QA {l:List Value}{n:Nat}(h:IX l n=true):l=acN n (.int .u8 0):=by
 induction l generalizing n with
 |nil=>have:=cV h;subst this;rfl
 |cons v l ih=>
  cases n with
  |zero=>cases v<;>simp [IX] at h
  |succ n=>
   unfold IX at h;split at h
   ·rename_i h1;simp at h1
   ·rename_i k _ _ h1 h2;simp only [aaU] at h1;obtain ⟨rfl,rfl⟩:=h1;cases h2;simp only [sh,decide_eq_true_eq] at h;rw [h.1,ih h.2];rfl
   ·cases h
def Fx:List aE->aE->Bool
 |[.nil],.nil=>true
 |[.p (.b false)],.p (.b false)=>true
 |[.p (.i k n)],.p (.i k' m)=>kB k k'&&decide (n=m)
 |[.p (.s [])],.p (.s [])=>true
 |_,_=>false
theorem Bw {l:List aE}{x:aE}(h:Fx l x=true):l=[x]:=by
 unfold Fx at h;split at h<;>first|rfl|skip
 ·simp [kB] at h;rw [h.1,h.2]
 ·cases h
def aaq:List aE->Bool
 |[.hs x]=>decide (x=pk.zero)
 |_=>false
theorem aar {l:List aE}(h:aaq l=true):l=[.hs pk.zero]:=by
 unfold aaq at h;split at h
 ·rw [of_decide_eq_true h]
 ·cases h
def aas (ti:Nat->Option TI)(P:Program)(I:TI)(z:Option Value):TypeDesc->Bool
 | .struct fs=>I.st&&yd I.cQ&&adY 1 I.size&&BY (Hk I.lay) I.size&&Gx (fs.toList.map (·.offset)) I.HW&&Gx (fs.toList.map (·.type)) I.Wb&& (fs.toList.all λf=>Oq ti f.type)&&(match z with|some (.agg cs)=>vi I.zero cs.toList&&BY cs.size I.size|_=>false)
 | .tuple ts=>Gx I.cQ ts.toList&&!yd I.cQ&&yd I.lay&&!I.st
 | .slice el=>!I.st&&yd I.cQ&&BY I.size 1&&BY I.elem el&&Oq ti el&&(match z with|some (.slice none 0 0)=>true|_=>false)&&Fx I.zero .nil&&mK I.lay .l
 | .array n el=>!I.st&&yd I.cQ&&BY I.size 32&&BY n 32&&BY I.elem el&&(match P.underlying el with|some (.int .u8)=>true|_=>false)&&(match P.info? el with|some i=>BY i.size 1|none=>false)&& mK I.lay .h&&aaq I.zero&&(match z with|some (.agg cs)=>IX cs.toList 32|_=>false)
 | .bool=>!I.st&&yd I.cQ&&BY I.size 1&&mK I.lay .b&&Fx I.zero (.p (.b false))&&(match z with|some (.bool false)=>true|_=>false)
 | .int k=>!I.st&&yd I.cQ&&BY I.size 1&&mK I.lay (.i k)&&Fx I.zero (.p (.i k 0))&&(match z with|some (.int k' n)=>kB k' k&&decide (n=0)|_=>false)
 | .string=>!I.st&&yd I.cQ&&BY I.size 1&&mK I.lay .s&&Fx I.zero (.p (.s []))&&(match z with|some (.string b)=>yd b.data.toList|_=>false)
 |_=>!I.st&&yd I.cQ&&BY I.size 1&&mK I.lay .raw&&(match z with|some v=>v.oneCell'&&vi I.zero [v]|none=>false)
theorem aat {ti:Nat->Option TI}{P:Program}{I:TI}{z:Option Value}{d:TypeDesc}(h:aas ti P I z d=true):wS ti P I z d:=by
 cases d<;>simp only [aas,sh,aaP] at h<;>simp only [wS];case struct fs=>
  obtain ⟨⟨⟨⟨⟨⟨⟨h1,h2⟩,h3⟩,h4⟩,h5⟩,h6⟩,h7⟩,h8⟩:=h;refine ⟨h1,rm h2,⟨ac1 h3,cV h4⟩,IW h5,IW h6,λk f hk=> ?_,?_⟩
  ·exact Mw (ada.1 h7 f (by
    have:fs.toList[k]? =some f:=by simpa using hk
    exact aer this))
  ·split at h8
   ·rename_i cs;simp only [sh] at h8;exact ⟨cs,rfl,h8.1,cV h8.2⟩
   ·cases h8
 case tuple ts=>obtain ⟨⟨⟨h1,h2⟩,h3⟩,h4⟩:=h;exact ⟨IW h1,λhe=>(by rw [he] at h2;simp [yd] at h2),rm h3,h4⟩
 case slice el=>
  obtain ⟨⟨⟨⟨⟨⟨⟨h1,h2⟩,h3⟩,h4⟩,h5⟩,h6⟩,h7⟩,h8⟩:=h;refine ⟨h1,rm h2,cV h3,cV h4,Mw h5,?_,Bw h7,.l,fe h8,rfl⟩;split at h6
  ·rfl
  ·cases h6
 case array n el=>
  obtain ⟨⟨⟨⟨⟨⟨⟨⟨⟨h1,h2⟩,h3⟩,h4⟩,h5⟩,h6⟩,h7⟩,h8⟩,h9⟩,Ot⟩:=h;refine ⟨h1,rm h2,cV h3,cV h4,cV h5,?_,fe h8,aar h9,?_⟩
  ·split at h6
   ·rename_i hu;split at h7
    ·rename_i i hi;exact ⟨i,hu,hi,cV h7⟩
    ·cases h7
   ·cases h6
  ·split at Ot
   ·rename_i cs;have:=QA Ot;congr 1;congr 1;apply ac6.1;rw [this];rfl
   ·cases Ot
 case bool=>
  obtain ⟨⟨⟨⟨⟨h1,h2⟩,h3⟩,h4⟩,h5⟩,h6⟩:=h;refine ⟨h1,rm h2,cV h3,fe h4,Bw h5,?_⟩;split at h6
  ·rfl
  ·cases h6
 case int k=>
  obtain ⟨⟨⟨⟨⟨h1,h2⟩,h3⟩,h4⟩,h5⟩,h6⟩:=h;refine ⟨h1,rm h2,cV h3,fe h4,Bw h5,?_⟩;split at h6
  ·simp only [kB,sh,decide_eq_true_eq] at h6;rw [h6.1,h6.2]
  ·cases h6
 case string=>
  obtain ⟨⟨⟨⟨⟨h1,h2⟩,h3⟩,h4⟩,h5⟩,h6⟩:=h;refine ⟨h1,rm h2,cV h3,fe h4,Bw h5,?_⟩;split at h6
  ·rename_i b;exact ⟨b,rfl,rm h6⟩
  ·cases h6
 all_goals
  obtain ⟨⟨⟨⟨h1,h2⟩,h3⟩,h4⟩,h5⟩:=h;refine ⟨h1,rm h2,cV h3,fe h4,?_⟩;split at h5
  ·rename_i v;simp only [sh] at h5;exact ⟨v,rfl,h5.1,h5.2⟩
  ·cases h5
def ahG (ti:Nat->Option TI)(P:Program)(t:Nat)(I:TI):Bool:=match P.underlying t,P.info? t with
 |some d,some i=>(!yd I.cQ||(BY i.size I.size&&BY i.bytes I.bytes))&&aas ti P I i.zero d
 |_,_=>false
theorem adX {ti:Nat->Option TI}{P:Program}{t:Nat}{I:TI}(h:ahG ti P t I=true):rQ ti P t I:=by
 unfold ahG at h;split at h
 ·rename_i d i hu hi;simp only [sh,Bool.or_eq_true,aaP] at h;refine ⟨d,i,hu,hi,λhc=> ?_,aat h.2⟩;rcases h.1 with h1|h1
  ·rw [hc] at h1;simp [yd] at h1
  ·exact ⟨cV h1.1,cV h1.2⟩
 ·cases h
def uk:List (Nat×TI)->Nat->Option TI
 |[],_=>none
 |(k,s)::r,t=>bif BY k t then some s else uk r t
def QB (P:Program)(tab:List (Nat×TI)):Bool:=tab.all λp=>ahG (uk tab) P p.1 p.2
theorem Mx {l:List (Nat×TI)}{t:Nat}{I:TI}(h:uk l t=some I):(t,I)∈l:=by
 induction l with
 |nil=>simp [uk] at h
 |cons p l ih=>
  obtain ⟨k,s⟩:=p;simp only [uk,eO] at h;by_cases hk:k=t
  ·subst hk;simp at h;subst h;simp
  ·simp only [hk,decide_false,cond_false] at h;exact abz _ (ih h)
theorem Ou {P:Program}{tab:List (Nat×TI)}(h:QB P tab=true):kq P (uk tab):=λt I hI=>adX (ada.1 h (t,I) (Mx hI))
end Dn
