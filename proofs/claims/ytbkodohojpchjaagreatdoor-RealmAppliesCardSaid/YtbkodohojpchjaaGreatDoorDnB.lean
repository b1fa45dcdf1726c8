import Derived.Test.YtbkodohojpchjaaGreatDoorDnA
import Derived.MapKept
import Derived.Carry
import Derived.Laws.StructEq
import Derived.Laws.RangeAny
import Derived.Laws.BytesArg
import Derived.Laws.MakeOwn
import Derived.LoopN
import Derived.Laws.Sem
import Derived.ProofKit
import Derived.OpenShut
/-
  Contracts of functions; calls. Conditions: none.
-/
set_option linter.unusedSimpArgs false
set_option linter.unusedVariables false
set_option linter.constructorNameAsVariable false
open Nat renaming eq_of_beq_eq_true→c8,beq→AT,le_of_ble_eq_true→aaL,add_right_cancel_iff→acA,ble→acF,ble_eq_true_of_le→acI,le_trans→acV,zero_add→ac1,succ_mul→age,le_refl→agf
open Bool renaming and_eq_true→sh,or_eq_false_iff→By,not_eq_true'→IN,false_eq_true→aaH,not_eq_false'→aaJ,not_true→acM,true_and→acO,and_true→acP,eq_iff_iff→adY,not_false→afR,false_or→af2
open Option.some renaming injEq→AI
open List renaming mem_cons→AS,mem_append_left→IS,mem_cons_of_mem→IT,mem_append_right→No,cons_append→OF,getElem?_eq_getElem→aaa,getElem?_eq_some_iff→aai,take_append_drop→aaG,drop_drop→aaX,all_eq_true→aa5,mem_map→aa6,drop_eq_nil_of_le→abc,mem_append→abG,size_toArray→abM,getElem?_append_right→acw,map_cons→acB,mem_range'→acC,range'→acD,getElem?_map→acE,flatMap_cons→acH,length_singleton→acJ,mem_filter→acR,getD_eq_getElem?_getD→adb,replicate→adj,length_append→adq,getElem?_append_left→adv,length_cons→adJ,range'_succ→adK,nil_append→adX,getElem?_toArray→aec,mapM_cons→aeh,range'_append_1→aez,getElem?_take→aeE,range→aeF,append_assoc→aeG,filter_cons→aeK,length_take→ae4,length_drop→afq,nodup_cons→afJ,length_map→afL
open Go.Value renaming ownBlock→BY,slice→acQ,okWide→ac4,int→aeA,cells→afI
open Prod.mk renaming injEq→aaf
open List.cons renaming injEq→aaj
open Array renaming getD_eq_getD_getElem?→aaI,replicate→abH,toArray_toList→abT,toList_inj→acL,getElem?_append_left→ade,mapM_eq_mapM_toList→adz,toList_map→adF,size_replicate→aey,size_append→aeI
open Classical renaming choose_spec→aaK,choose→adP
open Go.Result renaming andThen_ok→abR,andThen→ab1
open Go.Sem renaming run_bind→acG
open Go.Deferred renaming ofValue→acK
open Go.Instr renaming sameNow→acN,checkKey→ac6,sureAddr→aew,loadAt→aeH
open UInt8 renaming ofNat→adC
open Go.Oper renaming wp_mono→adQ,upon_value→afK,wp→agi
open Go.Code renaming region→aeg
open Go.Value.pointer renaming injEq→aeB
open Go.ByteArray renaming toList_eq→aeC
open Go.World renaming frozen?→aeD
open Go.Utf8 renaming decode→afF
open Option renaming map_some→afM
open Go renaming part→afO
open Go.Op renaming equal→afQ,equalIn→afU
open Go.Region renaming wanted→af1
open Ne renaming symm→af7
open Go.Addr renaming add_mid→agd
open False renaming elim→agh
namespace Dn
open Go
def Co (φ:Ph)(w:World):Prop:= ∀b o v,φ b o=some v->w.cell? ⟨b,o,none⟩=some v
def qg (key:Nat->Nat) (φ:Ph):Env:=⟨key,φ,λ_=>undef,λ_=>0,[]⟩
def ia (P:Program)(f:FuncId)(args:Array Value)(w:World)(R:Value->World->Prop):Prop:=match (callFunc f args).run P w with
 | .ok (.enter g as) w'=>Calls P g as w' λx Bf=> ∃v,x= .returned v/\R v Bf
 | .ok (.value v) w'=>R v w'
 |_=>False
def UO (ks:List LK)(ls:List MV):Option (List aS×List (Nat×oS)):=dw ⟨[],[],[],[]⟩ ks ls λcs rest st=>gN rest (some (cs,st.bk))
def oZ (c:Ctx)(Z:Nat->Prop) (φ:Ph)(w:World)(bB:Nat)(ks:List LK)(ls:List MV):Prop:=∃cs m,∃E:Nat->Value,∃arr T,UO ks ls=some (cs,m)/\w.heap[bB]? =some (.cells arr T (0,0))/\Z bB/\(∀o,φ bB o=none)/\aJ ⟨c.key,φ,E,λ_=>bB,m⟩ arr.toList cs/\ (∀f o,aV m f=some o->dH c (cb.plain Z) ⟨c.key,φ,E,λ_=>bB,m⟩ w (E f) o/\(E f).ownBlock≠some bB)/\ (∀f f' o o' k,aV m f=some o->aV m f'=some o'->(E f).ownBlock=some k->(E f').ownBlock=some k->f=f')
def afV (c:Ctx)(Z:Nat->Prop) (φ:Ph)(w:World)(k:Nat)(vs:List Value)(ms:List MV):Prop:=∃pos ks off ls bB,c.sig k=some (pos,ks)/\vs[pos]? =some (.pointer (some ⟨bB,off,none⟩))/\ms[pos]? =some (.cell (.func off ls))/\cN c.key φ vs (ms.set pos (.rp []))/\oZ c Z φ w bB ks ls
def fU (c:Ctx)(Z:Nat->Prop) (φ:Ph)(w:World)(k:Nat)(vs:List Value)(ms:List MV):Prop:=if c.fe k then (∃v0 v1 v2 xs m1 ys,vs=[v0,v1,v2]/\ms=[.fresh xs,m1,.fresh ys]/\dH c (cb.plain Z) (qg c.key φ) w v0 ⟨c.sf k,false,xs⟩/\gh c.key φ v1 m1/\ dH c (cb.plain Z) (qg c.key φ) w v2 ⟨c.sf k,false,ys⟩/\ ∀b,v0.ownBlock=some b->v2.ownBlock≠some b)\/ (∃v0 v1 v2 xs m1 m2,vs=[v0,v1,v2]/\ms=[.fresh xs,m1,m2]/\m2.one=true/\dH c (cb.plain Z) (qg c.key φ) w v0 ⟨c.sf k,false,xs⟩/\gh c.key φ v1 m1/\gh c.key φ v2 m2)\/ afV c Z φ w k vs ms
 else cN c.key φ vs ms
def ng (c:Ctx)(Z:Nat->Prop) (φ:Ph)(w:World)(k:Nat)(v:Value):MV->Prop
 | .fresh xs=>dH c (cb.plain Z) (qg c.key φ) w v ⟨c.sf k,false,xs⟩
 | .cj ms=> ∃arr,v= .tuple arr/\cN c.key φ arr.toList ms
 |m=>gh c.key φ v m
def Cp (c:Ctx)(Z:Nat->Prop) (φ:Ph)(w:World)(k:Nat)(vs:List Value)(v:Value):MV->Prop
 | .e9 r outs=>ng c Z φ w k v r/\ ∃pos ks bB off,c.sig k=some (pos,ks)/\vs[pos]? =some (.pointer (some ⟨bB,off,none⟩))/\oZ c Z φ w bB ks outs
 |r=>ng c Z φ w k v r
def lY (P:Program)(c:Ctx)(f:Nat)(ms:List MV)(r:MV):Prop:=∀(φ:Ph) (w:World) (Z:Nat->Prop) (vs:List Value),(∀b,w.heap.size<=b->Z b)->fU c Z φ w (c.key f) vs ms->Co φ w-> ia P f vs.toArray w λv w'=> ∃φ',Trans Z φ w φ' w'/\Co φ' w'/\Cp c Z φ' w' (c.key f) vs v r
def Sound (P:Program)(c:Ctx):Prop:= ∀f ms r,c.g (c.key f) ms=some r->lY P c f ms r
section
variable {P:Program}{c:Ctx}{Z:cb} {Z':Nat->Prop} {e e':Env}{st:St}{a:Act} {w w':World}{R:Type}{K:St->Option R}{r:R}{Q:Exit->Act->World->Prop}{o:Oper}
theorem Cp.plain {c:Ctx}{Z:Nat->Prop} {φ:Ph}{w:World}{k:Nat}{vs:List Value}{v:Value}{r:MV}(h:ng c Z φ w k v r):Cp c Z φ w k vs v r:=by cases r<;>first|exact h|exact absurd h.1 (by simp [MV.one])
def isW:MV->Bool
 | .e9 _ _=>true
 |_=>false
theorem Cp.of {c:Ctx}{Z:Nat->Prop} {φ:Ph}{w:World}{k:Nat}{vs:List Value}{v:Value}{r:MV}(h:Cp c Z φ w k vs v r)(hr:isW r=false):ng c Z φ w k v r:=by cases r<;>first|exact h|cases hr
theorem cG.called {φ':Ph}(h:cG c Z e st a w)(hz: ∀b,Z' b->Z.In b)(vF: ∀t cs,av st.fr t= .box cs-> ¬Z' (e.B t))(iN: ∀f o k,aV st.bk f=some o->(e.E f).ownBlock=some k-> ¬Z' k)(ht:Trans Z' e.φ w φ' w')(hi:Co φ' w'):cG c Z {e with φ:=φ'} st a w':=by
 have vG:lr (λ_=>True) (λ_=>True) e {e with φ:=φ'}:=⟨rfl,ht.ph,λ_ _=>rfl,λf o ho _=>⟨o,ho,rfl,rfl⟩⟩
 refine ⟨h.defers,h.size,h.m,h.key,h.nodup,?_,h.root,?_,h.bb,h.bf,h.ff,hi,λb hb=>h.dm b (acV ht.size hb)⟩
 ·intro t;have hs:=h.slot t;have hb:=vF t;generalize av st.fr t=s at hs hb;cases s<;>simp only [cz] at hs⊢ <;>try exact hs.on vG (ey _)
  rename_i cs;refine ⟨hs.1,hs.2.dm,?_,?_⟩
  ·obtain ⟨o2,h1,h2⟩:=hs.2.obj;exact ⟨o2,by rw [ht.heap _ (hb cs rfl) (bZ h1)];exact h1,h2.on vG (λl _ f _=>trivial)⟩
  ·intro off;show φ' (e.B t) off=none;rw [ht.free _ off (hb cs rfl)];exact hs.2.free off
 ·intro f o ho;obtain ⟨I,cells,h1,h2,h3,h4,h5⟩:=(h.jN f o ho).row;refine ⟨I,cells,h1,h2,?_,h4.mono ht.ph,?_⟩
  ·show w'.ownsRow 0 o.ty I.size (e.E f) o.xs.length cells;refine ⟨h3.1,?_⟩;rcases h3.2 with h6|⟨g,cap,dL,g1,g2,g3,g4⟩
   ·exact .inl h6
   ·refine .inr ⟨g,cap,dL,g1,g2,?_,g4⟩;rw [ht.heap g (iN f o g ho (by rw [g1];rfl)) (bZ g3)];exact g3
  ·intro bB hb;refine ⟨(h5 bB hb).1,λoff u hu=>(h5 bB hb).2.1 off u ?_,λg1 g2 j hj=>ht.ph.Be ((h5 bB hb).2.2 g1 g2 j hj) hj⟩;have hu:φ' bB off=some u:=hu;rw [ht.free _ off (iN f o bB ho hb)] at hu;exact hu
theorem cG.SL {f:Nat}{fo:oS} {v':Value}(h:cG c Z e st a w)(CJ:f∉Z.cY)(iN:dH c Z.nc e w v' fo)(hb: ∀b,v'.ownBlock=some b->(∀t cs,av st.fr t= .box cs->e.B t≠b)/\(∀g o,aV st.bk g=some o->(e.E g).ownBlock≠some b)): cG c Z (e.B1 f v' fo) (st.B1 f fo) a w:=by
 have vG:lr (· ≠f) (λ_=>True) e (e.B1 f v' fo):=by refine ⟨rfl,.refl _,λ_ _=>rfl,λf2 o2 dh dG=> ?_⟩;have dh:aV (cw e.m f fo) f2=some o2:=dh;rw [bG] at dh;simp only [dG,if_false] at dh;exact ⟨o2,dh,by simp [Env.B1,dG],rfl⟩
 refine ⟨h.defers,h.size,by show cw e.m f _=cw st.bk f _;rw [h.m],h.key,?_,?_,?_,?_,?_,?_,?_,h.qe,h.dm⟩
 ·show (bg (lM f st.fr)).Nodup;have:bg (lM f st.fr)=bg st.fr:=by simp [bg,lM]
  rw [this];exact h.nodup
 ·intro t;show cz Z _ _ t _ (av (lM f st.fr) t);rw [iK];have hs:=h.slot t;generalize av st.fr t=s at hs;by_cases E8: ∃cs,s= .box cs
  ·obtain ⟨cs,rfl⟩:=E8;simp only [cz,Ci] at hs⊢;refine ⟨hs.1.mG (Su f _),hs.2.dm,?_,hs.2.free⟩;obtain ⟨o2,h1,h2⟩:=hs.2.obj;refine ⟨o2,h1,?_⟩;refine (h2.map (λ_ _=>bp.kill f) (λ_ _=>rfl)).on vG ?_;intro l hl;obtain ⟨x,_,rfl⟩:=aa6.1 hl;exact HX f x
  ·have Bi:ah e (a.tmps.getD t undef) s:=by cases s<;>simp only [cz] at hs<;>first|exact hs|exact absurd ⟨_,rfl⟩ E8
   have h2:=(Bi.kill f).on vG (YQ f _ s (ey s));generalize hks:Ci f s=s2 at h2;cases s2<;>first|exact h2|(exfalso;simp [ah] at h2)
 ·intro t;show cZ (lM f st.fr) (av (lM f st.fr) t);rw [iK];have qz:=h.root t;generalize av st.fr t=s at qz;have hk: ∀q,dv (av (lM f st.fr) q)=dv (av st.fr q):=λq=>by rw [iK,E9]
  cases s with
  |ptr q o=>show dv (av (lM f st.fr) q)=true;rw [hk];exact qz
  |hp q o i=>show dv (av (lM f st.fr) q)=true;rw [hk];exact qz
  |zN q=>show dv (av (lM f st.fr) q)=true;rw [hk];exact qz
  |ep g' _ _ _ _=>simp only [Ci];cases AT g' f<;>trivial
  |_=>trivial
 ·intro f2 o2 dh;have dh:aV (cw st.bk f fo) f2=some o2:=dh;rw [bG] at dh;show dH c (Z.fz f2) _ w (if f2=f then v' else e.E f2) o2;by_cases fK:f2=f
  ·rw [if_pos fK];rw [if_pos fK] at dh;cases dh;rw [fK];exact (iN.to CJ).env rfl rfl
  ·rw [if_neg fK];simp only [fK,if_false] at dh;exact (h.jN f2 o2 dh).env rfl rfl
 ·intro t t' c1 c2 h1 h2 dG;have h1:av (lM f st.fr) t= .box c1:=h1;have h2:av (lM f st.fr) t'= .box c2:=h2;rw [iK] at h1 h2;obtain ⟨d1,g1,_⟩:=uR h1;obtain ⟨d2,g2,_⟩:=uR h2;exact h.bb t t' d1 d2 g1 g2 dG
 ·intro t c1 f2 o2 h1 h2;have h1:av (lM f st.fr) t= .box c1:=h1;have h2:aV (cw st.bk f fo) f2=some o2:=h2;rw [iK] at h1;rw [bG] at h2;obtain ⟨d1,g1,_⟩:=uR h1;show (if f2=f then v' else e.E f2).ownBlock≠some (e.B t);by_cases fK:f2=f
  ·rw [if_pos fK];intro hh;exact (hb _ hh).1 t d1 g1 rfl
  ·rw [if_neg fK];simp only [fK,if_false] at h2;exact h.bf t d1 f2 o2 g1 h2
 ·intro f1 f2 o1 o2 k h1 h2 h3 h4;have h1:aV (cw st.bk f fo) f1=some o1:=h1;have h2:aV (cw st.bk f fo) f2=some o2:=h2;have h3:(if f1=f then v' else e.E f1).ownBlock=some k:=h3;have h4:(if f2=f then v' else e.E f2).ownBlock=some k:=h4;rw [bG] at h1 h2;by_cases SH:f1=f
  ·by_cases Cn:f2=f
   ·rw [SH,Cn]
   ·rw [if_pos SH] at h3;rw [if_neg Cn] at h4;simp only [Cn,if_false] at h2;exact absurd h4 ((hb k h3).2 f2 o2 h2)
  ·rw [if_neg SH] at h3;simp only [SH,if_false] at h1;by_cases Cn:f2=f
   ·rw [if_pos Cn] at h4;exact absurd h3 ((hb k h4).2 f1 o1 h1)
   ·rw [if_neg Cn] at h4;simp only [Cn,if_false] at h2;exact h.ff f1 f2 o1 o2 k h1 h2 h3 h4
theorem CN {I:TI}{x:MV}{v:Value} {K':Slot->Option R}(hv:gh e.key e.φ v x)(hK:FX I x K'=some r): ∃s,ah e v s/\Dl s=true/\K' s=some r:=by
 unfold FX at hK;cases eR:I.st with
 |true=>
  simp only [eR,cond_true] at hK;unfold gA at hK;split at hK
  ·rename_i ms;obtain ⟨arr,rfl,hr⟩:=hv;obtain ⟨ls,Px,su⟩:=xM (e:=e) (vs:=arr.toList) hK;exact ⟨.ag ls,⟨arr,rfl,Px.rep hr⟩,Px.Ye,su⟩
  ·simp at hK
 |false=>
  simp only [eR,cond_false] at hK;split at hK
  ·rename_i k hl;obtain ⟨l,sr,su⟩:=n5 (e:=e) (vs:=[v]) hK;refine ⟨.sc l,?_,sr.Ye,su⟩;have hp:=sr.Ye;have hm:=sr.mv;cases l<;>simp [uN] at hp<;>simp [ea] at hm
   ·subst hm;have h1:=sr.one _ rfl;rename_i m;have:m.one=true/\nn e.key e.φ [v] m:=by cases m<;>simp [MV.one] at h1<;>exact ⟨rfl,hv.2⟩
    exact this
   ·subst hm;exact hv
  ·simp at hK
theorem PF {ts:List Nat}: ∀{vs:List Value}{ms:List MV} {K':List Slot->Option R},cN e.key e.φ vs ms->HJ c ts ms K'=some r-> ∃ss,kH e vs ss/\K' ss=some r:=by
 induction ts with
 |nil=>
  intro vs ms K' h hK;cases ms with
  |nil=>cases h;exact ⟨[],rfl,hK⟩
  |cons m ms=>simp [HJ,gN] at hK
 |cons t ts ih=>
  intro vs ms K' h hK;simp only [HJ] at hK;cases hI:c.tv t with
  |none=>simp [hI] at hK
  |some I=>
   simp only [hI] at hK;cases ms with
   |nil=>simp [gC] at hK
   |cons m ms=>simp only [gC] at hK;obtain ⟨v,u,rfl,h1,h2⟩:=h;obtain ⟨s,g1,g2,hK⟩:=CN h1 hK;obtain ⟨ss,g3,hK⟩:=ih h2 hK;exact ⟨s::ss,⟨v,u,rfl,g1,g2,g3⟩,hK⟩
theorem SM {fr:Fr}{s:Slot}(h:Dl s=true):cZ fr s:=by cases s<;>simp [Dl] at h<;>trivial
theorem xP {I:TI}{x:MV}{v:Value}{k:Nat} {K':Slot->Option R}(hk:e.key=c.key)(hv:ng c Z' e.φ w k v x)(hK:si c I x K'=some r): ∃s,ah e v s/\cZ st.fr s/\K' s=some r:=by
 unfold si at hK;split at hK
 ·rename_i hc;have Yb:gh e.key e.φ v x:=by
   rw [hk];cases x<;>first|exact hv|skip
   ·exfalso;unfold FX gA at hK;cases eR:I.st<;>simp [eR] at hK;split at hK<;>(try (simp at hK;done));unfold kF at hK;rename_i k _;cases k<;>simp [gB,gI,gS,gL,gH,gR] at hK
   ·exfalso;unfold FX gA at hK;cases eR:I.st<;>simp [eR] at hK;split at hK<;>(try (simp at hK;done));unfold kF at hK;rename_i k _;cases k<;>simp [gB,gI,gS,gL,gH,gR] at hK
  obtain ⟨s,h1,h2,hK⟩:=CN Yb hK;exact ⟨s,h1,SM h2,hK⟩
 ·unfold gT at hK;split at hK
  ·obtain ⟨arr,rfl,h1⟩:=hv;obtain ⟨ss,h2,hK⟩:=PF (by rw [hk];exact h1) hK;exact ⟨.cj ss,⟨arr,rfl,h2⟩,trivial,hK⟩
  ·simp at hK
end
end Dn
/-
  Calls as operations. Conditions: none.
-/
namespace Dn
open Go
section
variable {P:Program}{c:Ctx}{Z:cb} {Z':Nat->Prop} {e e':Env}{st:St}{a:Act} {w w':World}{R:Type}{K:St->Option R}{r:R}{Q:Exit->Act->World->Prop}{o:Oper}
theorem xQ (h:cG c Z e st a w){t:Nat}{cs:List aS}(ht:av st.fr t= .box cs):e.B t<w.heap.size:=by have hs:=h.slot t;rw [ht] at hs;obtain ⟨o2,h1,_⟩:=hs.2.obj;exact bZ h1
theorem Nt {base:Nat}{ty:TypeId}{size n:Nat}{v:Value}{xs:List Value}(h:w.ownsRow base ty size v n xs){b:Nat}(hb:v.ownBlock=some b):b<w.heap.size:=by
 rcases h.2 with ⟨h1,_⟩|⟨g,cap,dL,h1,_,h2,_⟩
 ·rw [h1] at hb;simp [BY] at hb
 ·rw [h1] at hb;simp only [BY,AI] at hb;subst hb;exact bZ h2
theorem xR (h:cG c Z e st a w){f:Nat}{o:oS}(hf:aV st.bk f=some o){b:Nat}(hb:(e.E f).ownBlock=some b):b<w.heap.size:=by obtain ⟨I,cells,_,_,h3,_⟩:=(h.jN f o hf).row;exact Nt h3 hb
structure Handed (c:Ctx) (Z:cb) (Z':Nat->Prop) (e:Env) (st:St) (a:Act) (w:World) (k:Nat) (vs:List Value) (ms:List MV):Prop where
 wC:cG c Z e st a w
 new: ∀b,w.heap.size<=b->Z' b
 sub: ∀b,Z' b->Z.In b
 box: ∀t cs,av st.fr t= .box cs-> ¬Z' (e.B t)
 jN: ∀f o b,aV st.bk f=some o->(e.E f).ownBlock=some b-> ¬Z' b
 args:fU c Z' e.φ w k vs ms
 grow:c.fe k=false-> ∀b,Z' b->w.heap.size<=b
structure aor (c:Ctx) (Z:cb) (e e':Env) (st cO:St) (a:Act) (w:World) (k:Nat) (v:Value) (xs:List MV):Prop where
 wC:cG c Z e' cO a w
 φ:e'.φ=e.φ
 row:dH c (cb.plain λb=>v.ownBlock=some b) (qg c.key e.φ) w v ⟨c.sf k,false,xs⟩
 In: ∀b,v.ownBlock=some b->Z.In b
 box: ∀t cs,av cO.fr t= .box cs->v.ownBlock≠some (e'.B t)
 jN: ∀f o b,aV cO.bk f=some o->(e'.E f).ownBlock=some b->v.ownBlock≠some b
 keep: ∀(u:Value) (s:Slot) (g:Nat),s= .sc (.own g)->ah e u s->(∃o,aV cO.bk g=some o/\o.eT=false)->ah e' u s
 boxes: ∀t cs,av cO.fr t= .box cs-> ∃GO,av st.fr t= .box GO/\e'.B t=e.B t
 bk: ∀f o b,aV cO.bk f=some o->(e'.E f).ownBlock=some b-> ∃o0,aV st.bk f=some o0/\(e.E f).ownBlock=some b
theorem th {k:Nat}{s:Slot}{v:Value} {K':MV->St->Option R}(h:cG c Z e st a w)(hs:ah e v s)(hK:Dj c k st s K'=some r): ∃e' cO xs,aor c Z e e' st cO a w k v xs/\K' (.fresh xs) cO=some r:=by
 unfold Dj at hK;split at hK
 ·rename_i f;cases hf:aV st.bk f with
  |none=>simp [hf] at hK
  |some o=>
   simp only [hf] at hK;cases hz:o.eT||!AT o.ty (c.sf k) with
   |true=>simp [hz] at hK
   |false=>
    simp only [hz,cond_false] at hK;simp only [By,aaJ] at hz;have kI:=c8 hz.2;have hv:v=e.E f:=(sw h hs hf).1;have iN:=h.jN f o hf;have ahs:dH c Z.nc e w (.slice none 0 0) ⟨o.ty,true,[]⟩:=by obtain ⟨I,cells,g1,g2,_⟩:=iN.row;exact ⟨I,[],g1,g2,⟨by simp,.inl ⟨rfl,rfl⟩⟩,rfl,λbB hb=>by simp [BY] at hb⟩
    have CJ:=h.npf hK;have h5:=h.SL (f:=f) CJ ahs (λb hb=>by simp [BY] at hb);refine ⟨_,_,o.xs,⟨h5,rfl,?_,?_,?_,?_,?_,?_,?_⟩,wA hK⟩
    ·obtain ⟨I,cells,g1,g2,g3,g4,g5⟩:=iN.row;rw [<-kI];refine ⟨I,cells,g1,g2,by rw [hv];exact g3,by show bx c.key e.φ _ _ _;rw [<-h.key];exact g4,λbB hb=>⟨hb,λoff u hu=> ?_,λhc=>agh hc⟩⟩;have:=((g5 bB (by rw [<-hv];exact hb)).2.1 off u hu).1;rw [hz.1] at this;cases this
    ·intro b hb;obtain ⟨I,cells,_,_,_,_,g5⟩:=iN.row;exact Pm (g5 b (by rw [<-hv];exact hb)).1 CJ
    ·intro t cs ht hb;have ht:av (lM f st.fr) t= .box cs:=ht;rw [iK] at ht;obtain ⟨d1,g1,_⟩:=uR ht;exact h.bf t d1 f o g1 hf (by rw [<-hv];exact hb)
    ·intro f2 o2 b dh hb hvb;have dh:aV (cw st.bk f ⟨o.ty,true,[]⟩) f2=some o2:=dh;have hb:(if f2=f then acQ none 0 0 else e.E f2).ownBlock=some b:=hb;rw [bG] at dh;by_cases fK:f2=f
     ·rw [if_pos fK] at hb;simp [BY] at hb
     ·rw [if_neg fK] at hb dh;exact fK (h.ff f2 f o2 o b dh hf hb (by rw [<-hv];exact hvb))
    ·rintro u s g rfl oW ⟨o2,dh,YV⟩;have dh:aV (cw st.bk f ⟨o.ty,true,[]⟩) g=some o2:=dh;rw [bG] at dh;by_cases KK:g=f
     ·rw [if_pos KK] at dh;cases dh;cases YV
     ·rw [if_neg KK] at dh;obtain ⟨x,hx,De,Yd⟩:=oW;refine ⟨x,hx,De,λo3 Yc=> ?_⟩;show x=if g=f then acQ none 0 0 else e.E g
      rw [if_neg KK];exact Yd o2 (by rw [h.m];exact dh)
    ·intro t cs ht;have ht:av (lM f st.fr) t= .box cs:=ht;rw [iK] at ht;obtain ⟨d1,g1,_⟩:=uR ht;exact ⟨d1,g1,rfl⟩
    ·intro f2 o2 b dh hb;have dh:aV (cw st.bk f ⟨o.ty,true,[]⟩) f2=some o2:=dh;have hb:(if f2=f then acQ none 0 0 else e.E f2).ownBlock=some b:=hb;rw [bG] at dh;by_cases fK:f2=f
     ·rw [if_pos fK] at hb;simp [BY] at hb
     ·rw [if_neg fK] at hb dh;exact ⟨o2,dh,hb⟩
 ·cases hI:c.tv (c.sf k) with
  |none=>simp [hI] at hK
  |some I=>simp only [hI] at hK;obtain ⟨O1,R3⟩:=cc hI;simp only [ah,bp,aaj,and_true] at hs;subst hs;refine ⟨e,st,[],⟨h,rfl,⟨I,[],O1,R3,⟨by simp,.inl ⟨rfl,rfl⟩⟩,rfl,λbB hb=>by simp [BY] at hb⟩,λb hb=>by simp [BY] at hb,λt cs _ hb=>by simp [BY] at hb,λf o b _ _ hb=>by simp [BY] at hb,λu s g _ hs _=>hs,λt cs ht=>⟨cs,ht,rfl⟩,λf o b ho hb=>⟨o,ho,hb⟩⟩,hK⟩
 ·simp at hK
theorem F4 {k:Nat}{s:Slot} {K':MV->St->Option R}(hK:Dj c k st s K'=some r):(∃g o,s= .sc (.own g)/\aV st.bk g=some o/\o.eT=false)\/s= .sc .nil:=by
 unfold Dj at hK;split at hK
 ·rename_i f;cases hf:aV st.bk f with
  |none=>simp [hf] at hK
  |some o=>
   simp only [hf] at hK;cases hz:o.eT with
   |true=>simp [hz] at hK
   |false=>exact .inl ⟨f,o,rfl,hf,hz⟩
 ·exact .inr rfl
 ·simp at hK
theorem SN {k:Nat}{ss:List Slot}{vs:List Value} {K':List MV->St->Option R}(h:cG c Z e st a w)(hlen:vs.length=ss.length)(gm: ∀(i:Nat)(v:Value)(s:Slot),vs[i]? =some v->ss[i]? =some s->ah e v s)(hK:Ux c k st ss K'=some r): ∃e' cO ms,∃Z':Nat->Prop,Handed c Z Z' e' cO a w k vs ms/\Trans Z e.φ w e'.φ w/\K' ms cO=some r:=by
 unfold Ux at hK;cases hg:c.fe k with
 |false=>
  simp only [hg,cond_false] at hK;obtain ⟨e1,dA,ms,h1,h2,h3,h4,hK⟩:=sv h ⟨λ_=>vs,rfl,hlen,gm⟩ hK;refine ⟨e1,dA,ms,λb=>w.heap.size<=b,⟨h1,λb hb=>hb,h1.dm,?_,?_,?_,λ_ b hb=>hb⟩,h2.tr,hK⟩
  ·intro t cs ht hz;have:=xQ h1 ht;omega
  ·intro f o b ho hb hz;have:=xR h1 ho hb;omega
  ·simp only [fU,hg,aaH,if_false];rw [<-h1.key];exact h4
 |true=>
  simp only [hg,cond_true] at hK;split at hK
  ·rename_i s0 s1 s2;match vs,hlen with
   |[v0,v1,v2],akm=>
    clear akm hlen;split at hK
    ·rename_i m2;obtain ⟨e1,dA,m1,h1,x1,E6,r1,su⟩:=ot h (gm 1 v1 s1 rfl rfl) hK;obtain ⟨e2,ei,xs,G1,zW⟩:=th h1 ((gm 0 v0 s0 rfl rfl).on x1.on (ey s0)) su;have Nq:m2.one=true/\nn e.key e.φ [v2] m2:=gm 2 v2 (.sc (.p m2)) rfl rfl;have ha2:gh e.key e.φ v2 m2:=by obtain ⟨g1,g2⟩:=Nq;cases m2<;>simp [MV.one] at g1<;>exact ⟨rfl,g2⟩
     have aot:gh c.key e1.φ v2 m2:=by rw [<-h.key];exact ha2.mono x1.on.φ
     have wide: ∀{v:Value} {zs:List MV} (Z1:Nat->Prop),(∀b,v.ownBlock=some b->Z1 b)->dH c (cb.plain λb=>v.ownBlock=some b) (qg c.key e1.φ) w v ⟨c.sf k,false,zs⟩->dH c (cb.plain Z1) (qg c.key e1.φ) w v ⟨c.sf k,false,zs⟩:=by intro v zs Z1 hz hf;obtain ⟨I,cells,g1,g2,g3,g4,g5⟩:=hf.row;exact ⟨I,cells,g1,g2,g3,g4,λbB hb=>⟨hz bB hb,(g5 bB hb).2⟩⟩
     refine ⟨e2,ei,[.fresh xs,m1,m2],λb=>w.heap.size<=b\/v0.ownBlock=some b,⟨G1.wC,λb hb=> .inl hb,?_,?_,?_,?_,λKK=>by rw [hg] at KK;cases KK⟩,by rw [G1.φ];exact x1.tr,zW⟩
     ·intro b hb;rcases hb with hb|hb
      ·exact h1.dm b hb
      ·exact G1.In b hb
     ·intro t cs ht hb;rcases hb with hb|hb
      ·have:=xQ G1.wC ht;have hb:w.heap.size<=e2.B t:=hb;omega
      ·exact G1.box t cs ht hb
     ·intro f o b ho hb hz;rcases hz with hz|hz
      ·have:=xR G1.wC ho hb;omega
      ·exact G1.jN f o b ho hb hz
     ·simp only [fU,hg,if_true];rw [G1.φ];exact .inr (.inl ⟨v0,v1,v2,xs,m1,m2,rfl,rfl,Nq.1,wide _ (λb hb=> .inr hb) G1.row,by rw [<-h1.key];exact r1,aot⟩)
    ·obtain ⟨e1,dA,m1,h1,x1,E6,r1,su⟩:=ot h (gm 1 v1 s1 rfl rfl) hK;obtain ⟨e2,ei,xs,G1,zW⟩:=th h1 ((gm 0 v0 s0 rfl rfl).on x1.on (ey s0)) su;have Nq:=(gm 2 v2 s2 rfl rfl).on x1.on (ey s2);have Wn:ah e2 v2 s2:=by
      rcases F4 zW with ⟨g,o,h5,h6,h7⟩|h5
      ·exact G1.keep v2 s2 g h5 Nq ⟨o,h6,h7⟩
      ·rw [h5] at Nq⊢;exact Nq
     obtain ⟨e3,np,ys,G2,H9⟩:=th G1.wC Wn zW;have UP:dH c (cb.plain λb=>v2.ownBlock=some b) (qg c.key e1.φ) w v2 ⟨c.sf k,false,ys⟩:=by have:=G2.row;rw [G1.φ] at this;exact this
     have wB: ∀b,v0.ownBlock=some b->v2.ownBlock≠some b:=by
      intro b h0 vH;rcases F4 zW with ⟨g,o,h5,h6,h7⟩|h5
      ·rw [h5] at Wn;have hv2:v2=e2.E g:=(sw G1.wC Wn h6).1;exact G1.jN g o b h6 (by rw [<-hv2];exact vH) h0
      ·rw [h5] at Wn;simp only [ah,bp,aaj,and_true] at Wn;rw [Wn] at vH;simp [BY] at vH
     have wide: ∀{v:Value} {zs:List MV} (Z1:Nat->Prop),(∀b,v.ownBlock=some b->Z1 b)->dH c (cb.plain λb=>v.ownBlock=some b) (qg c.key e1.φ) w v ⟨c.sf k,false,zs⟩->dH c (cb.plain Z1) (qg c.key e1.φ) w v ⟨c.sf k,false,zs⟩:=by intro v zs Z1 hz hf;obtain ⟨I,cells,g1,g2,g3,g4,g5⟩:=hf.row;exact ⟨I,cells,g1,g2,g3,g4,λbB hb=>⟨hz bB hb,(g5 bB hb).2⟩⟩
     have h3φ:e3.φ=e1.φ:=G2.φ.trans G1.φ;refine ⟨e3,np,[.fresh xs,m1,.fresh ys],λb=>w.heap.size<=b\/v0.ownBlock=some b\/v2.ownBlock=some b,⟨G2.wC,λb hb=> .inl hb,?_,?_,?_,?_,λKK=>by rw [hg] at KK;cases KK⟩,by rw [h3φ];exact x1.tr,H9⟩
     ·intro b hb;rcases hb with hb|hb|hb
      ·exact h1.dm b hb
      ·exact G1.In b hb
      ·exact G2.In b hb
     ·intro t cs ht hb;rcases hb with hb|hb|hb
      ·have:=xQ G2.wC ht;have hb:w.heap.size<=e3.B t:=hb;omega
      ·obtain ⟨GO,k1,k2⟩:=G2.boxes t cs ht;rw [k2] at hb;exact G1.box t GO k1 hb
      ·exact G2.box t cs ht hb
     ·intro f o b ho hb hz;rcases hz with hz|hz|hz
      ·have:=xR G2.wC ho hb;omega
      ·obtain ⟨o0,k1,k2⟩:=G2.bk f o b ho hb;exact G1.jN f o0 b k1 k2 hz
      ·exact G2.jN f o b ho hb hz
     ·simp only [fU,hg,if_true];rw [h3φ];exact .inl ⟨v0,v1,v2,xs,m1,ys,rfl,rfl,wide _ (λb hb=> .inr (.inl hb)) G1.row,by rw [<-h1.key];exact r1,wide _ (λb hb=> .inr (.inr hb)) UP,wB⟩
  ·simp at hK
theorem cN.map {os:List Operand}(h:cG c Z e st a w): ∀(i:Nat)(v:Value)(s:Slot),(os.map a.eval)[i]? =some v->(lq c st os)[i]? =some s->ah e v s:=by
 intro i v s h1 h2;rw [n0,acE] at h2;rw [acE] at h1;cases ho:os[i]? with
 |none=>simp [ho] at h1
 |some x=>simp [ho] at h1 h2;rw [<-h1,<-h2];exact (h.eval x).1
theorem wD {f:Nat}{args:Array Value}{Rp:Value->World->Prop}(cC:(execOp a.eval o).run P w=(callFunc f args).run P w)(hc:ia P f args w Rp){Nx:Act->World->Prop}(afW: ∀v w',Rp v w'->Nx (a.put o.dst v) w'):o.wp P a w Nx Q:=by
 unfold agi;rw [cC];unfold ia at hc;generalize (callFunc f args).run P w=res at hc;cases res with
 |halt=>exact hc.elim
 |ok n w1=>
  cases n<;>simp only at hc<;>try exact hc.elim
  ·exact afW _ _ hc
  ·rw [Oper.upon_enter];refine hc.mono ?_;rintro x Bf ⟨v,rfl,hv⟩;exact afW _ _ hv
theorem Zn {Z':Nat->Prop}{k d:Nat}{ms:List MV}{x:MV}{v:Value} {φ':Ph}{I:TI}{vs:List Value}(hh:Handed c Z Z' e st a w k vs ms)(hd:o.dst.getD 0=d)(ht:Trans Z' e.φ w φ' w')(hi:Co φ' w')(hr:ng c Z' φ' w' k v x)(hK:(bif c.fresh k then gF x λxs=>bif !AT I.elem (c.sf k) then none else lR st d ⟨I.elem,false,xs⟩ λst=>(bif bX c.bs d then qc st (.own d) λm st=>bY c st o.dst (.sc (.p m)) K else bY c st o.dst (.sc (.own d)) K) else si c I x λs=>bY c st o.dst s K)=some r): Out c Z K r e.φ w (a.put o.dst v) w':=by
 have hs:=hh.wC.called hh.sub hh.box hh.jN ht hi;have xA:Trans Z e.φ w φ' w':=⟨ht.ph,λb hb=>ht.heap b (λhz=>hb (hh.sub b hz)),λb o hb=>ht.free b o (λhz=>hb (hh.sub b hz)),ht.size,ht.rest⟩
 cases hf:c.fresh k with
 |true=>
  simp only [hf,cond_true] at hK;unfold gF at hK;split at hK
  ·rename_i xs;cases kI:AT I.elem (c.sf k) with
   |false=>simp [kI] at hK
   |true=>
    simp only [kI,acM,cond_false] at hK;have kI:=c8 kI;rw [kI] at hK;have hr:dH c (cb.plain Z') (qg c.key φ') w' v ⟨c.sf k,false,xs⟩:=hr;have hr2:dH c Z.nc {e with φ:=φ'} w' v ⟨c.sf k,false,xs⟩:=by obtain ⟨I,cells,g1,g2,g3,g4,g5⟩:=hr.row;exact ⟨I,cells,g1,g2,g3,by show bx e.key φ' _ _ _;rw [hh.wC.key];exact g4,λbB hb=>⟨hh.sub _ (g5 bB hb).1,(g5 bB hb).2.1,λhc=>agh hc⟩⟩
    have h6:=hs.SL (f:=d) (hh.wC.npf hK) hr2 (by intro b hb;obtain ⟨I,cells,g1,g2,g3,g4,g5⟩:=hr.row;have hz:=(g5 b hb).1;exact ⟨λt cs h1 h2=>hh.box t cs h1 (by rw [h2];exact hz),λg o h1 h2=>hh.jN g o b h1 h2 hz⟩);have h1:v.oneCell'=true:=by obtain ⟨I,cells,g1,g2,g3,_⟩:=hr.row;exact PC g3
    have hK:=wA hK;cases Zk:bX c.bs d with
    |true=>simp only [Zk,cond_true] at hK;obtain ⟨e3,np,m,k1,k2,_,k4,hK,_,k7,k8⟩:=qS (l:= .own d) h6 (vs:=[v]) ⟨v,rfl,h1,λo ho=>by simp [Env.B1]⟩ hK;have hm:m.one=true:=k8 (λx he=>by cases he);obtain ⟨e2,ei,q1,q2,q3⟩:=ew k1 (.of (s:= .sc (.p m)) (by exact ⟨hm,k4⟩) trivial) hK;exact ⟨e2,ei,q1,by rw [q3];exact xA.trans k2.tr,q2⟩
    |false=>simp only [Zk,cond_false] at hK;obtain ⟨e2,ei,q1,q2,q3⟩:=ew h6 (.of (Dx h1) trivial) hK;exact ⟨e2,ei,q1,by rw [q3];exact xA,q2⟩
  ·simp at hK
 |false=>simp only [hf,cond_false] at hK;obtain ⟨s,g1,g2,hK⟩:=xP (e:={e with φ:=φ'}) (st:=st) hh.wC.key hr hK;obtain ⟨e2,ei,q1,q2,q3⟩:=ew hs (.of g1 g2) hK;exact ⟨e2,ei,q1,by rw [q3];exact xA,q2⟩
theorem Out.trans {φ0:Ph}{w0:World} {a':Act}(h:Trans Z φ0 w0 e.φ w) (h':Out c Z K r e.φ w a' w'):Out c Z K r φ0 w0 a' w':=by obtain ⟨e2,ei,h1,h2,h3⟩:=h';exact ⟨e2,ei,h1,h.trans h2,h3⟩
theorem Wo {R':Type}{I:TI}{x:MV}{outs:List MV} {K':Slot->Option R'}:si c I (.e9 x outs) K'=none:=by
 unfold si;split
 ·unfold FX;cases I.st
  ·simp only [cond_false];split
   ·rename_i k _;cases k<;>rfl
   ·rfl
  ·rfl
 ·rfl
theorem F5 {R':Type} {r':R'}{I:TI}{x:MV} {K':Slot->Option R'}(h:si c I x K'=some r'):isW x=false:=by cases x<;>first|rfl|(rw [Wo] at h;cases h)
theorem adl {cl:Call}{f:Nat}{I:TI}(hS:Sound P c)(ho:o.op= .call cl)(r8:cl.callee= .value (.func f))(h:cG c Z e st a w)(hK:Ux c (c.key f) st (lq c st cl.args.toList) (λms st=>Yw c (o.dst.getD 0) st (c.key f) ms I λs st=>bY c st o.dst s K)=some r): o.wp P a w (λa' w'=>(c.fe (c.key f)=false->eG w w')/\Out c Z K r e.φ w a' w') Q:=by
 obtain ⟨e1,dA,ms,Z',hh,ht,hK⟩:=SN (vs:=cl.args.toList.map a.eval) h (by simp [n0]) (cN.map h) hK;unfold Yw at hK;obtain ⟨x,hx,hK⟩:=qA hK;have zb:=hS f ms x hx e1.φ w Z' _ hh.new hh.args hh.wC.qe;refine wD ?_ zb ?_
 ·have GP:(cl.args.toList.map a.eval).toArray=cl.args.map a.eval:=by rw [<-adF,abT]
  rw [GP];simp [execOp,ho,resolve,r8,Act.eval,acK,invoke]
 ·rintro v w' ⟨φ',t1,t2,t3⟩;have hw:isW x=false:=by
   cases E5:c.fresh (c.key f) with
   |true=>rw [E5] at hK;cases x<;>first|rfl|(simp [gF] at hK;done)
   |false=>rw [E5] at hK;exact F5 hK
  exact ⟨λKK=>⟨t1.size,λb hb=>t1.heap b (λhz=>by have:=hh.grow KK b hz;omega) hb,t1.rest⟩,(Zn hh rfl t1 t2 (t3.of hw) hK).trans ht⟩
theorem jj.one {ms:List MV}: ∀{vs:List Value},jj e.key e.φ vs ms->(∀m∈ms,m.one=true)->cN e.key e.φ vs ms:=by
 induction ms with
 |nil=>intro vs h _;cases h;rfl
 |cons m ms ih=>
  intro vs h h1;cases h with
  |cons v _ vs _ g1 g2=>obtain ⟨u,rfl,_⟩:=g1.one (h1 m (by simp));have hm:=h1 m (by simp);exact ⟨u,vs,rfl,by cases m<;>simp [MV.one] at hm<;>exact ⟨rfl,g1⟩,ih g2 (λm hm=>h1 m (by simp [hm]))⟩
theorem aht {cl:Call}{x:Operand}{I:TI}(hS:Sound P c)(ho:o.op= .call cl)(r8:cl.callee= .value x)(h:cG c Z e st a w)(hK:Nb c st I (bw c st x) (lq c st cl.args.toList) (λs st=>bY c st o.dst s K)=some r): o.wp P a w (λa' w'=>eG w w'/\Out c Z K r e.φ w a' w') Q:=by
 obtain ⟨hx,_⟩:=h.eval x;generalize bw c st x=s at hx hK;unfold Nb at hK;split at hK
 ·rename_i m;simp only [ah,bp] at hx;unfold Sd at hK;split at hK
  ·rename_i f cE;obtain ⟨hg,hK⟩:=gl hK;obtain ⟨f',cap,hv,CO,E7,jO⟩: ∃(f':Nat) (cap:Array Value),a.eval x= .func (.func f') #[] cap/\e.key f'=f/\jj e.key e.φ cap.toList cE/\ ∀m∈cE,m.one=true:=by obtain ⟨_,hx⟩:=hx;generalize Cj:[a.eval x]=vs at hx;cases hx;rename_i f' cap h1 h2 h3;exact ⟨f',cap,by simpa using Cj,h1,h2,h3⟩
   obtain ⟨e1,dA,ms,h1,h2,h3,h4,zW⟩:=sv h ⟨λ_=>cl.args.toList.map a.eval,rfl,by simp [n0],cN.map h⟩ hK;obtain ⟨x',hx',H9⟩:=qA zW;have LJ:c.key f'=f:=by rw [<-h.key];exact CO
   have akn:cN e1.key e1.φ cap.toList cE:=by have:=(jj.one E7 jO).mono h2.on.φ;rw [<-h2.on.key] at this;exact this
   have gn:fU c (λb=>w.heap.size<=b) e1.φ w (c.key f') (cl.args.toList.map a.eval++cap.toList) (ms++cE):=by
    have hg':c.fe (c.key f')=false:=by rw [LJ];simpa using hg
    simp only [fU,hg',aaH,if_false];rw [<-h1.key];exact h4.append akn
   have zb:=hS f' (ms++cE) x' (by rw [LJ];exact hx') e1.φ w (λb=>w.heap.size<=b) _ (λb hb=>hb) gn h1.qe;refine wD ?_ zb ?_
   ·have GP:(cl.args.toList.map a.eval++cap.toList).toArray=cl.args.map a.eval++cap:=by rw [<-adF,<-Array.toList_append,abT]
    rw [GP];simp [execOp,ho,resolve,r8,hv,acK,invoke]
   ·rintro v w' ⟨φ',t1,t2,t3⟩;have hh:Handed c Z (λb=>w.heap.size<=b) e1 dA a w (c.key f') (cl.args.toList.map a.eval++cap.toList) (ms++cE):=by
     refine ⟨h1,λb hb=>hb,h1.dm,?_,?_,gn,λ_ b hb=>hb⟩
     ·intro t cs ht hz;have:=xQ h1 ht;omega
     ·intro f o b ho hb hz;have:=xR h1 ho hb;omega
    have hs:=hh.wC.called hh.sub hh.box hh.jN t1 t2;have xA:Trans Z e1.φ w φ' w':=⟨t1.ph,λb hb=>t1.heap b (λhz=>hb (hh.sub b hz)),λb o hb=>t1.free b o (λhz=>hb (hh.sub b hz)),t1.size,t1.rest⟩
    obtain ⟨s,g1,g2,hK4⟩:=xP (e:={e1 with φ:=φ'}) (st:=dA) h1.key (t3.of (F5 H9)) H9;obtain ⟨e2,ei,q1,q2,q3⟩:=ew hs (.of g1 g2) hK4;exact ⟨⟨t1.size,λb hb=>t1.heap b (λhz=>by have hz:w.heap.size<=b:=hz;omega) hb,t1.rest⟩,e2,ei,q1,by rw [q3];exact h2.tr.trans xA,q2⟩
  ·simp at hK
 ·simp at hK
end
end Dn
/-
  Parts of a state. Conditions: none.
-/
namespace Dn
open Go
section
variable {P:Program}{c:Ctx}{Z Zi:cb} {e e':Env}{st cO:St}{a:Act} {w w':World}{R:Type}{K:St->Option R}{r:R}{Q:Exit->Act->World->Prop}{o:Oper}
theorem cG.sub (h:cG c Z e st a w)(hpp: ∀t∈Z.df,t∈Zi.df)(hm:cO.df=Zi.df/\cO.cY=Zi.cY/\ ∀t∈Zi.df,a.tmps.getD t undef=Zi.T t)(hn:(bg cO.fr).Nodup)(hs: ∀t,av cO.fr t= .sc .un\/(dW (av st.fr t)=false/\(av cO.fr t=av st.fr t\/ ∃qs,av cO.fr t=Kx qs (av st.fr t))))(hf: ∀f o,aV cO.bk f=some o-> ∃o0,aV st.bk f=some o0/\o0.ty=o.ty/\o0.xs=o.xs/\(o0.eT=true->o.eT=true))(hbz: ∀t cs,av cO.fr t= .box cs->(t∈Zi.df/\Zi.Pr (e.B t))\/Zi.In (e.B t))(hfz: ∀f o b,aV cO.bk f=some o->(e.E f).ownBlock=some b->(f∈Zi.cY/\Zi.Pr b)\/Zi.In b)(adm: ∀f o I cells b,aV cO.bk f=some o->f∈Zi.cY->o.eT=true->c.ti o.ty=some I->w.ownsRow 0 o.ty I.size (e.E f) o.xs.length cells->(e.E f).ownBlock=some b-> ∀j,j<cells.length->e.φ b j=cells[j]?)(hz: ∀b,w.heap.size<=b->Zi.In b):cG c Zi {e with m:=cO.bk} cO a w:=by
 have vG:lr (λ_=>True) (λ_=>True) e {e with m:=cO.bk}:=by refine ⟨rfl,.refl _,λ_ _=>rfl,λf o ho _=> ?_⟩;obtain ⟨o0,h1,h2,h3,h4⟩:=hf f o ho;exact ⟨o0,by rw [h.m];exact h1,rfl,h3.symm⟩
 have tie: ∀{t:Nat} {v:Value} {cs:List aS} {b:Nat},tied Z t v cs b->tied Zi t v cs b:=λht=>⟨ht.1,λhp=>by obtain ⟨k1,k2⟩:=ht.2 hp;have k3:=hpp _ k1;exact ⟨k3,by rw [<-hm.2.2 _ k3,h.defers.2.2.2 _ k1,k2]⟩⟩
 have Zo: ∀t cs,av cO.fr t= .box cs-> ∃GO,av st.fr t= .box GO/\(cs=GO\/ ∃qs,cs=GO.map (Sp qs)):=by
  intro t cs ht;rcases hs t with h1|⟨_,h1|⟨qs,h1⟩⟩
  ·rw [h1] at ht;cases ht
  ·rw [h1] at ht;exact ⟨cs,ht,.inl rfl⟩
  ·rw [h1] at ht;generalize av st.fr t=s at ht;cases s<;>simp only [Kx] at ht<;>first|(cases ht;done)|skip
   simp at ht;exact ⟨_,rfl,.inr ⟨qs,ht.symm⟩⟩
 refine ⟨⟨h.defers.1,hm⟩,h.size,rfl,h.key,hn,?_,?_,?_,?_,?_,?_,h.qe,hz⟩
 ·intro t;have oW:=h.slot t;have eR:=hs t;have hb0:=hbz t;generalize av cO.fr t=s' at eR hb0;generalize av st.fr t=s at oW eR;rcases eR with rfl|⟨_,rfl|⟨qs,rfl⟩⟩
  ·simp [cz,ah]
  ·cases s'<;>simp only [cz] at oW⊢ <;>try exact oW.on vG (ey _)
   obtain ⟨o2,h1,h2⟩:=oW.2.obj;exact ⟨tie oW.1,hb0 _ rfl,⟨o2,h1,h2.on vG (λl _ f _=>trivial)⟩,oW.2.free⟩
  ·by_cases E8: ∃cs,s= .box cs
   ·obtain ⟨cs,rfl⟩:=E8;simp only [cz,Kx] at oW⊢;obtain ⟨o2,h1,h2⟩:=oW.2.obj;exact ⟨(tie oW.1).mG (ag3 qs _),hb0 _ rfl,⟨o2,h1,(h2.map (λ_ _=>bp.UD qs) (λ_ _=>rfl)).on vG (λl _ f _=>trivial)⟩,oW.2.free⟩
   ·have Bi:ah e (a.tmps.getD t undef) s:=by cases s<;>simp only [cz] at oW<;>first|exact oW|exact absurd ⟨_,rfl⟩ E8
    have h2:=(Bi.UD qs).on vG (ey _);generalize hks:Kx qs s=s2 at h2;cases s2<;>first|exact h2|(exfalso;simp [ah] at h2)
 ·intro t;have eR:=hs t;generalize av cO.fr t=s' at eR;generalize av st.fr t=s at eR;rcases eR with rfl|⟨hp,rfl|⟨qs,rfl⟩⟩
  ·trivial
  ·cases s'<;>simp [dW] at hp<;>trivial
  ·cases s<;>simp [dW] at hp<;>trivial
 ·intro f o ho;obtain ⟨o0,h1,h2,h3,h4⟩:=hf f o ho;obtain ⟨I,cells,g1,g2,g3,g4,g5⟩:=(h.jN f o0 h1).row;rw [h2] at g1 g3;rw [h3] at g3 g4 g5;refine ⟨I,cells,g1,g2,g3,g4,λbB hb=>⟨hfz f o bB ho hb,λoff u hu=> ?_,λk1 k2 j hj=>adm f o I cells bB ho k1 k2 g1 g3 hb j hj⟩⟩;obtain ⟨k1,k2⟩:=(g5 bB hb).2.1 off u hu;exact ⟨h4 k1,k2⟩
 ·intro t t' c1 c2 h1 h2 dG;obtain ⟨d1,g1,_⟩:=Zo t c1 h1;obtain ⟨d2,g2,_⟩:=Zo t' c2 h2;exact h.bb t t' d1 d2 g1 g2 dG
 ·intro t c1 f o h1 h2;obtain ⟨d1,g1,_⟩:=Zo t c1 h1;obtain ⟨o0,g2,_⟩:=hf f o h2;exact h.bf t d1 f o0 g1 g2
 ·intro f f' o1 o2 k h1 h2 h3 h4;obtain ⟨p1,g1,_⟩:=hf f o1 h1;obtain ⟨p2,g2,_⟩:=hf f' o2 h2;exact h.ff f f' p1 p2 k g1 g2 h3 h4
theorem cG.drop {ds:List Nat}(h:cG c Z e st a w):cG c Z e {st with fr:=cH ds st.fr} a w:=by
 have hg:=HV ds st.fr h.nodup;have:=h.sub (Zi:=Z) (cO:={st with fr:=cH ds st.fr}) (λ_ h=>h) ⟨h.defers.2.1,h.defers.2.2.1,h.defers.2.2.2⟩ ((Dm ds st.fr).nodup h.nodup) (by
   intro t;show av (cH ds st.fr) t=_\/(_/\(av (cH ds st.fr) t=_\/ ∃qs,av (cH ds st.fr) t=_));rw [hg];cases hb:dW (av st.fr t)||bX ds t with
   |true=>exact .inl (by simp)
   |false=>simp only [By] at hb;exact .inr ⟨hb.1,.inl (by simp)⟩)
  (λf o ho=>⟨o,ho,rfl,rfl,id⟩)
  (by
   intro t cs ht;have ht:av (cH ds st.fr) t= .box cs:=ht;rw [hg] at ht;split at ht
   ·cases ht
   ·have hs:=h.slot t;rw [ht] at hs;exact hs.2.dm)
  (by intro f o b ho hb;obtain ⟨I,cells,_,_,_,_,g5⟩:=(h.jN f o ho).row;exact (g5 b hb).1)
  (by intro f o I cells b ho hp hz hI eS hb j hj;obtain ⟨I',Y2,g1,_,g3,_,g5⟩:=(h.jN f o ho).row;rw [hI] at g1;cases g1;rw [F1 eS g3 hb] at hj⊢;exact (g5 b hb).2.2 hp hz j hj)
  h.dm
 have hm:e.m=st.bk:=h.m;have he:{e with m:=({st with fr:=cH ds st.fr}:St).bk}=e:=by cases e;simp at hm⊢;exact hm.symm
 rw [he] at this;exact this
theorem cG.Zp {t root off:Nat}{cs:List aS}(h:cG c Z e st a w)(hb:av st.fr root= .box cs)(hn:dv (av st.fr t)=false)(hv:ah e (a.tmps.getD t undef) (.ptr root off)): cG c Z e {st with fr:=cM st.fr t (.ptr root off)} a w:=by
 have hg: ∀t',av (cM st.fr t (.ptr root off)) t'=if t'=t then .ptr root off else av st.fr t':=λt'=>cr _ _ _ _
 have dG: ∀r,dv (av st.fr r)=true->r≠t:=λr hr he=>by subst he;rw [hn] at hr;cases hr
 have vF: ∀t' cs,av (cM st.fr t (.ptr root off)) t'= .box cs->av st.fr t'= .box cs:=by
  intro t' cs ht;rw [hg] at ht;by_cases vJ:t'=t
  ·rw [if_pos vJ] at ht;cases ht
  ·rw [if_neg vJ] at ht;exact ht
 have hk: ∀r,dv (av st.fr r)=true->dv (av (cM st.fr t (.ptr root off)) r)=true:=λr hr=>by rw [hg,if_neg (dG r hr)];exact hr
 refine ⟨h.defers,h.size,h.m,h.key,fG h.nodup,?_,?_,h.jN,?_,?_,h.ff,h.qe,h.dm⟩
 ·intro t';show cz Z e w t' _ (av (cM st.fr t (.ptr root off)) t');rw [hg];by_cases vJ:t'=t
  ·subst vJ;simp only [if_true];exact hv
  ·simp only [vJ,if_false];exact h.slot t'
 ·intro t';show cZ (cM st.fr t (.ptr root off)) (av (cM st.fr t (.ptr root off)) t');have hr:=h.root t';rw [hg t'];by_cases vJ:t'=t
  ·simp only [vJ,if_true];exact hk root (by rw [hb];rfl)
  ·simp only [vJ,if_false];generalize av st.fr t'=s at hr;cases s<;>first|trivial|exact hk _ hr
 ·intro t1 t2 c1 c2 h1 h2 dG;exact h.bb t1 t2 c1 c2 (vF t1 c1 h1) (vF t2 c2 h2) dG
 ·intro t1 c1 f o h1 h2;exact h.bf t1 c1 f o (vF t1 c1 h1) h2
theorem Bj {s:Slot}(h:EV s=true): ∃cs,s= .box cs/\fT cs=false:=by cases s<;>simp [EV] at h;exact ⟨_,rfl,h⟩
theorem PG {Z1:cb}{e1:Env}{dA:St}{root:Nat}(h:cG c Z e st a w)(h1:cG c Z1 e1 dA a w)(hp:BX root=false)(hb:EV (av st.fr root)=true)(wj:EV (av dA.fr root)=true):e1.B root=e.B root:=by obtain ⟨cs,hf,hm⟩:=Bj hb;obtain ⟨dP,SH,hm1⟩:=Bj wj;have s1:=h.slot root;have s2:=h1.slot root;rw [hf] at s1;rw [SH] at s2;have g1:=s1.1.1 hp;have g2:=s2.1.1 hp;rw [vE hm] at g1;rw [vE hm1,g1] at g2;simp at g2;exact g2.symm
theorem Ia {Z0:cb}{e0:Env}{Bc:St}{ok:Nat->Bool}(h0:cG c Z0 e0 Bc a w): ∀{l:Fr}{st:St}{R:Type}{r:R}{K:Fr->Option R},(∀t s,(t,s)∈l->av Bc.fr t=s)->cG c Z e st a w->HH ok Bc.fr l st.fr K=some r-> ∃fr,cG c Z e {st with fr:=fr} a w/\K fr=some r:=by
 intro l;induction l with
 |nil=>intro st R r K _ h hK;exact ⟨st.fr,h,hK⟩
 |cons p l ih=>
  obtain ⟨t,s⟩:=p;intro st R r K hl h hK;have sr: ∀t s,(t,s)∈l->av Bc.fr t=s:=λt s hm=>hl t s (IT _ hm);have hs:=hl t s (by simp);cases s with
  |ptr root off=>
   simp only [HH] at hK;cases hc:ok t&&(!BX root&&(EV (av Bc.fr root)&&(EV (av st.fr root)&&!dv (av st.fr t)))) with
   |false=>rw [hc] at hK;exact ih sr h hK
   |true=>
    rw [hc] at hK;simp only [sh,IN] at hc;obtain ⟨_,hp,hb0,wj,hn⟩:=hc;simp only [cond_true,nL] at hK;obtain ⟨cs,hf,_⟩:=Bj wj;have hB:=PG h0 h hp hb0 wj;have hv:ah e (a.tmps.getD t undef) (.ptr root off):=by have:=h0.slot t;rw [hs] at this;simp only [cz,ah] at this⊢;rw [hB];exact this
    have h2:=h.Zp hf hn hv;obtain ⟨fr,g1,g2⟩:=ih (st:={st with fr:=cM st.fr t (.ptr root off)}) sr h2 hK;exact ⟨fr,g1,g2⟩
  |_=>exact ih sr h hK
theorem PH {l:Fr}(hn:(bg l).Nodup): ∀t s,(t,s)∈l->av l t=s:=by
 induction l with
 |nil=>intro t s hm;simp at hm
 |cons p l ih=>
  obtain ⟨k,x⟩:=p;have hn:(k::bg l).Nodup:=hn;rw [afJ] at hn;intro t s hm;rcases AS.1 hm with hm|hm
  ·cases hm;simp [av]
  ·have hk:t∈bg l:=by unfold bg;exact aa6.2 ⟨(t,s),hm,rfl⟩
   have dG:k≠t:=λhe=>hn.1 (he▸hk);simp only [av,gj];simp only [dG,decide_false,cond_false];exact ih hn.2 t s hm
theorem uT {ds:List Nat}{R:Type}{r:R}{K:St->Option R}(h:cG c Z e st a w)(hK:EY ds st K=some r): ∃cO,cG c Z e cO a w/\K cO=some r:=by obtain ⟨p,q,fr,m⟩:=st;simp only [EY,FY] at hK;obtain ⟨qd,g1,g2⟩:=Ia (st:={df:=p,cY:=q,fr:=cH ds fr,bk:=m}) h (PH h.nodup) h.drop hK;exact ⟨_,g1,g2⟩
end
end Dn
/-
  Maps of the function's own: their operations. Conditions: none.
-/
namespace Dn
open Go
theorem ahv {a b:Kd}(h:kdB a b=true):a=b:=by cases a<;>cases b<;>simp [kdB,kB] at h<;>first|rfl|(subst h;rfl)
theorem adn {l m:List Kd}(h:GJ l m=true):l=m:=by
 induction l generalizing m with
 |nil=>cases m<;>simp [GJ] at h;rfl
 |cons a l ih=>
  cases m with
  |nil=>simp [GJ] at h
  |cons b m=>simp only [GJ,sh] at h;rw [ahv h.1,ih h.2]
theorem ahw {s t:MS}(h:msB s t=true):s=t:=by unfold msB at h;simp only [sh,beq_iff_eq] at h;cases s;cases t;simp only at h;obtain ⟨h1,h2,h3⟩:=h;rw [h1,adn h2,h3]
structure akp (P:Program) (t:TypeId) (s:MS):Prop where
 row: ∃kt el,P.underlying t=some (.map kt el)/\(∀w:World,(zeroValue el).run P w= .ok (YR s.b (Uy s.b)) w)/\ (∀(em:Bool) (ks:List MV) (w:World),lU s.lay ks=true->(ac6 em 10000 kt (Dp s.st ks)).run P w= .ok () w)/\ ∃d,P.underlying kt=some d/\((∀a b,lU s.lay a=true->lU s.lay b=true->acN d (Dp s.st a) (Dp s.st b)=some (zP b a))\/ (∀a b,lU s.lay a=true->lU s.lay b=true->acN d (Dp s.st a) (Dp s.st b)=none/\ ∀w:World,(afQ kt (Dp s.st a) (Dp s.st b)).run P w= .ok (zP b a) w))
def Fb (P:Program)(c:Ctx):Prop:= ∀t s,V5 c t=some s->akp P t s
def zd (s:MS):List MapEntry->List (List MV)->Prop
 |[],Hl=>Hl=[]
 |x::es,Hl=> ∃q r,Hl=q::r/\lU s.lay q=true/\x.key=Dp s.st q/\zd s es r
theorem zd.length {s:MS}: ∀{es:List MapEntry}{Hl:List (List MV)},zd s es Hl->Hl.length=es.length
 |[],_,h=>by cases h;rfl
 |_::es,_,⟨q,r,rfl,_,_,h⟩=>by simp [h.length]
theorem zd.append {s:MS}: ∀{es es':List MapEntry}{Hl akq:List (List MV)},zd s es Hl->zd s es' akq->zd s (es++es') (Hl++akq)
 |[],_,_,_,h,h'=>by cases h;exact h'
 |x::es,_,_,_,⟨q,r,rfl,h1,h2,h⟩,h'=>⟨q,_,rfl,h1,h2,h.append h'⟩
theorem zd.at {s:MS}: ∀{es:List MapEntry}{Hl:List (List MV)}{i:Nat}{x:MapEntry},zd s es Hl->es[i]? =some x-> ∃q,Hl[i]? =some q/\lU s.lay q=true/\x.key=Dp s.st q
 |[],_,_,_,_,h=>by simp at h
 |y::es,_,i,x,⟨q,r,rfl,h1,h2,h⟩,hx=>by
  cases i with
  |zero=>simp at hx;subst hx;exact ⟨q,rfl,h1,h2⟩
  |succ i=>simpa using h.at (i:=i) (by simpa using hx)
theorem LB.ks {s:MS}: ∀{es:List MapEntry}{ms:List MV}{n:Nat},es.length=ms.length->(∀(i:Nat) x m,es[i]? =some x->ms[i]? =some m->afH s x m (n+i))->zd s es (ms.map agX)
 |[],[],_,_,_=>rfl
 |x::es,m::ms,n,hl,h=>by obtain ⟨h1,ks,v,rfl,h2,h3,_⟩:=h 0 x m rfl rfl;refine ⟨ks,ms.map agX,rfl,h2,h3,LB.ks (n:=n+1) (by simpa using hl) λi y q hy hq=> ?_⟩;have:=h (i+1) y q (by simpa using hy) (by simpa using hq);rwa [show n+1+i=n+(i+1) by omega]
 |[],_::_,_,hl,_=>by simp at hl
 |_::_,[],_,hl,_=>by simp at hl
theorem LB.Hl {s:MS}{es:Array MapEntry}{n:Nat}{ms:List MV}(h:LB s es n ms):zd s es.toList (ms.map agX):=LB.ks (n:=0) (by simpa using h.size) (λi x m hx hm=>by rw [ac1];exact h.ent i x m (by simpa using hx) hm)
structure F6 (s:MS) (w w':World):Prop where
 size:w.heap.size<=w'.heap.size
 Bg: ∀(b:Nat) (o:Obj),w.heap[b]? =some o->w'.heap[b]? =some o\/ ∃es n es' n' new Hl,o=Obj.map es n/\w'.heap[b]? =some (Obj.map es' n')/\es'.toList=es.toList++new/\zd s new Hl/\ ∀x∈new,x.val=YR s.b (Uy s.b)
 rest:Rest w w'
theorem eG.m {w w':World}(s:MS)(h:eG w w'):F6 s w w':=⟨h.size,λb o ho=> .inl (by rw [h.Bg b (bZ ho)];exact ho),h.rest⟩
theorem F6.trans {s:MS} {w w' Bf:World}(h:F6 s w w') (h':F6 s w' Bf):F6 s w Bf:=by
 refine ⟨acV h.size h'.size,λb o ho=> ?_,h.rest.trans h'.rest⟩;rcases h.Bg b o ho with h1|⟨es,n,es1,n1,new,Hl,rfl,h1,h2,h3,h4⟩
 ·exact h'.Bg b o h1
 ·rcases h'.Bg b _ h1 with g1|⟨es',n',es2,n2,aou,aov,g0,g1,g2,g3,g4⟩
  ·exact .inr ⟨es,n,es1,n1,new,Hl,rfl,g1,h2,h3,h4⟩
  ·simp only [Obj.map.injEq] at g0;obtain ⟨rfl,rfl⟩:=g0;refine .inr ⟨es,n,es2,n2,new++aou,Hl++aov,rfl,g1,by rw [g2,h2,aeG],h3.append g3,λx hx=> ?_⟩;rcases abG.1 hx with hx|hx
   ·exact h4 x hx
   ·exact g4 x hx
section
variable {P:Program}{c:Ctx}{Z:cb}{e:Env}{st:St}{a:Act} {w w':World}{R:Type}{K:St->Option R}{r:R}{Q:Exit->Act->World->Prop}{o:Oper}
theorem Chg.map {es:Array MapEntry}{n g:Nat}(hh:w.heap[g]? =some (.map es n)) (es':Array MapEntry) (n':Nat):Chg g w {w with heap:=w.heap.setIfInBounds g (.map es' n')}:=by
 refine ⟨by simp,λb hb=>by simp [af7 hb],⟨rfl,rfl,rfl,λx=> ?_⟩⟩;unfold aeD;by_cases hx:x.block=g
 ·have dK:=bZ hh;have e1:(w.heap.setIfInBounds g (.map es' n'))[x.block]? =some (.map es' n'):=by rw [hx];simp [dK]
  rw [e1,hx,hh]
 ·simp [af7 hx]
theorem ado {x:Operand}(ho:o.op= .assign x)(h:cG c Z e st a w)(hK:Hg c o st x (λs st=>bY c st o.dst s K)=some r):o.wp P a w (λa' w'=>eG w w'/\Out c Z K r e.φ w a' w') Q:=by
 have plain:bY c st o.dst (bw c st x) K=some r->o.wp P a w (λa' w'=>eG w w'/\Out c Z K r e.φ w a' w') Q:=by intro hK;obtain ⟨v,h1,h2⟩:=Nl (P:=P) (.inr ho) h hK;unfold agi;rw [h1 w trivial,afK];exact ⟨.refl w,h2⟩
 unfold Hg at hK;split at hK
 ·rename_i t _ _;split at hK
  ·rename_i cs xz;cases hm:fT cs with
   |false=>simp only [hm,cond_false] at hK;exact plain hK
   |true=>
    simp only [hm,cond_true] at hK;cases hnp:bX st.df t||BX t with
    |true=>simp [hnp] at hK
    |false=>
     obtain ⟨hn,hpt⟩:=By.1 hnp;simp only [hnp,cond_false,FY] at hK;have oW:=h.slot t;rw [xz] at oW;have h1:=h.drop (ds:=[t]);have hg:=HV [t] st.fr h.nodup;have vF: ∀t' gK,av (cH [t] st.fr) t'= .box gK->t'≠t/\av st.fr t'= .box gK:=by
      intro t' gK ht;rw [hg] at ht;split at ht
      ·cases ht
      ·rename_i dG;refine ⟨λhe=>dG ?_,ht⟩;subst he;simp [bX]
     have lN:tf Z e w {st with fr:=cH [t] st.fr} (a.eval (.tmp t)) (.box cs):=by refine ⟨e.B t,oW.1.1 hpt,⟨Pm oW.2.dm (by rw [<-h.defers.2.1,<-b8,hn];simp),oW.2.obj,oW.2.free⟩,λt' gK ht=> ?_,λf o ho=>h.bf t cs f o xz ho⟩;obtain ⟨g1,g2⟩:=vF t' gK ht;exact h.bb t' t gK cs g2 xz g1
     exact YT (w':=w) (.refl w) (by simp [execOp,ho]) h1 (.refl _ _ _) lN hK
  ·exact plain hK
 ·exact plain hK
end
end Dn
/-
  What goes through a string; a text of a row of bytes. Conditions: none.
-/
namespace Dn
open Go
section
variable {P:Program}{c:Ctx}{Z:cb}{e:Env}{st:St}{a:Act} {w w':World}{R:Type}{K:St->Option R}{r:R}{Q:Exit->Act->World->Prop}{o:Oper}
theorem Zq {t:TypeId}{x:Operand}{I:TI}(ho:o.op= .range t x)(hI:c.tv t=some I)(hT:lV P c.ti)(h:cG c Z e st a w)(hK:Si I (bw c st x) (λs=>bY c st o.dst s K)=some r):o.wp P a w (Out c Z K r e.φ w) Q:=by
 obtain ⟨uC,hc⟩:=cc hI;obtain ⟨hx,_⟩:=h.eval x;generalize bw c st x=s' at hx hK;unfold Si at hK;split at hK
 ·rename_i l;cases hS:I.X9 with
  |false=>simp [hS] at hK
  |true=>
   simp only [hS,cond_true] at hK;have hu:=TI.H4 (hT t I uC) hS;obtain ⟨b,hb,rfl⟩:=FZ hx;have cC:(execOp a.eval o).run P w= .ok (.value (.pointer (some ⟨w.heap.size,0,none⟩))) (w.alloc (.stringIter b 0)):=by simp [execOp,ho,hb,run_range_string w t b hu,World.iter,ab1]
   have hg:eG w (w.alloc (.stringIter b 0)):=by
    refine ⟨by simp,λk hk=>Bd w _ k hk,⟨rfl,rfl,rfl,λx=> ?_⟩⟩;by_cases hx:x.block=w.heap.size
    ·have e1:(w.alloc (.stringIter b 0)).heap[x.block]? =some (.stringIter b 0):=by rw [hx];exact nK w _
     have e2:w.heap[x.block]? =none:=by rw [hx];simp
     simp [aeD,e1,e2]
    ·exact World.frozen?_alloc_old _ _ _ hx
   refine fin cC (h.grow hg) (hg.trans h.dm _) ?_ hK;exact ⟨w.heap.size,by rw [Ss rfl],⟨h.dm _ (agf _),⟨_,nK w _,rfl⟩,Ps h⟩,(Hj h).1,(Hj h).2⟩
 ·cases hK
theorem Chg.iter {s:ByteArray}{n g:Nat}(hh:w.heap[g]? =some (.stringIter s n)) (n':Nat):Chg g w {w with heap:=w.heap.setIfInBounds g (.stringIter s n')}:=by
 refine ⟨by simp,λb hb=>by simp [af7 hb],⟨rfl,rfl,rfl,λx=> ?_⟩⟩;unfold aeD;by_cases hx:x.block=g
 ·have dK:=bZ hh;have e1:(w.heap.setIfInBounds g (.stringIter s n'))[x.block]? =some (.stringIter s n'):=by rw [hx];simp [dK]
  rw [e1,hx,hh]
 ·simp [af7 hx]
theorem adp {x:Operand}(ho:o.op= .next x true)(h:cG c Z e st a w)(hK:itK st (bw c st x) (λs st=>bY c st o.dst s K)=some r):o.wp P a w (Out c Z K r e.φ w) Q:=by
 obtain ⟨hx,_⟩:=h.eval x;generalize bw c st x=s' at hx hK;unfold itK at hK;split at hK
 ·rename_i t;split at hK
  ·rename_i s es xz;cases hit:Sc s with
   |false=>simp [hit] at hK
   |true=>
    simp only [hit,cond_true] at hK;have oW:=h.slot t;rw [xz] at oW;obtain ⟨ob,h1,h2⟩:=oW.2.obj;cases ob with
    |cells arr T z=>exact absurd h2.2.Ck (by simp [fT])
    |map arr n=>obtain ⟨s2,ms2,h3,h4,_⟩:=h2;simp only [aaj,aS.mp.injEq,and_true] at h3;rw [h3.1,h4] at hit;cases hit
    |stringIter b pos=>
     have h3:_=[aS.mp MS.it _]:=h2;simp only [aaj,aS.mp.injEq,and_true] at h3;obtain ⟨rfl,rfl⟩:=h3;simp only [ah] at hx;cases kJ:KF [.s b.data.toList,.i .i64 (pos:Int)] with
     |true=>
      rw [kJ] at hK;simp only [aQ] at hK;have dK:pos<b.size:=by simpa [KF,r7,Ya] using kJ
      unfold wr at hK;cases hn:bX st.df t with
      |true=>simp [hn] at hK
      |false=>
       simp only [hn,cond_false,force_eq,nL] at hK;have hb:(⟨b.data.toList.toArray⟩:ByteArray)=b:=by cases b;simp
       have YZ:=Chg.iter h1 (pos+(afF b pos).2);have hs:=h.setObj (gK:=[.mp MS.it (CB [.s b.data.toList,.i .i64 (pos:Int)])]) xz YZ (MapKept.heap_set h1).1 (by show _=_;simp [CB,Ya,r7,hb]) rfl (λt=>by rw [cr]) (fG h.nodup);have cC:(execOp a.eval o).run P w= .ok (.value (.tuple #[.bool true,.int .i64 pos,.int .i32 (afF b pos).1])) {w with heap:=w.heap.setIfInBounds (e.B t) (.stringIter b (pos+(afF b pos).2))}:=by simp [execOp,ho,hx,Instr.next,getObj,setObj,Sem.run,h1,dK,ab1,goInt]
       refine fin (s:= .cj [.sc (.p (.b true)),.sc (.p (.i .i64 (r7 [.s b.data.toList,.i .i64 (pos:Int)]))),.sc (.p (.i .i32 (zQ [.s b.data.toList,.i .i64 (pos:Int)])))]) cC hs (.chg _ YZ (Pm oW.2.dm (by rw [<-h.defers.2.1,<-b8,hn];simp))) ⟨?_,trivial⟩ hK;simp only [ah,r7,zQ,Ya,hb,Int.toNat_natCast];exact ⟨_,rfl,.bool true,_,rfl,Dr _,rfl,goInt pos,_,rfl,zV _ _,rfl,_,[],rfl,zV _ _,rfl,rfl⟩
     |false=>
      rw [kJ] at hK;simp only [aQ] at hK;have dK: ¬pos<b.size:=by simpa [KF,r7,Ya] using kJ
      have cC:(execOp a.eval o).run P w= .ok (.value (.tuple #[.bool false])) w:=by simp [execOp,ho,hx,Instr.next,getObj,setObj,Sem.run,h1,dK,ab1,goInt]
      refine fin (s:= .cj [.sc (.p (.b false))]) cC h (.refl _ _ _) ⟨?_,trivial⟩ hK;simp only [ah];exact ⟨_,rfl,.bool false,_,rfl,Dr _,rfl,rfl⟩
    |_=>exact h2.elim
  ·cases hK
 ·cases hK
theorem LL {R:Type}{r:R}: ∀{xs:List MV}{K:List UInt8->Option R},HL xs K=some r-> ∃ns:List Int,xs=ns.map (MV.i .u8)/\K (ns.map λn=>adC n.toNat)=some r:=by
 intro xs;induction xs with
 |nil=>intro K h;exact ⟨[],rfl,h⟩
 |cons m xs ih=>
  intro K h;simp only [HL,byK] at h;cases m with
  |i k n=>
   simp only [gI] at h;by_cases hk:k= .u8
   ·subst hk;simp only [decide_true,cond_true] at h;obtain ⟨_,h1⟩:=gl h;obtain ⟨ns,hx,h2⟩:=ih h1;exact ⟨n::ns,by rw [hx];rfl,h2⟩
   ·simp [hk] at h
  |_=>simp [gI] at h
theorem Zr {y t:TypeId}{x:Operand}{Y I:TI}(ho:o.op= .convert y t x)(hY:c.tv y=some Y)(hI:c.tv t=some I)(hL:Y.Dd=true)(hT:lV P c.ti)(h:cG c Z e st a w)(hK:YB c st Y I (bw c st x) (λs=>bY c st o.dst s K)=some r):Rd P c Z K r e a w o (eG w):=by
 obtain ⟨hyi,_⟩:=cc hY;obtain ⟨uC,_⟩:=cc hI;obtain ⟨hx,_⟩:=h.eval x;generalize bw c st x=s' at hx hK;obtain ⟨hu,_⟩:=TI.nZ (hT y Y hyi) hL;unfold YB at hK;cases hE:c.tv Y.elem with
 |none=>simp [hE] at hK
 |some E=>
  obtain ⟨oR,_⟩:=cc hE;simp only [hE] at hK;cases Zh:I.X9&&V3 E with
  |false=>simp [Zh] at hK
  |true=>
   simp only [Zh,cond_true] at hK;simp only [sh] at Zh;have hd:=TI.H4 (hT t I uC) Zh.1;obtain ⟨he,wu⟩:=UL (hT _ E oR) Zh.2;have go: ∀(ns:List Int),(∀w':World,eG w w'->(convert y t (a.eval x)).run P w'= .ok (.string (strOfNums ns)) w')->bY c st o.dst (.sc (.p (.s (ns.map λn=>adC n.toNat)))) K=some r-> Rd P c Z K r e a w o (eG w):=by intro ns cC hK;refine Wa (s:= .sc (.p (.s (ns.map λn=>adC n.toNat)))) (v:= .string (strOfNums ns)) (λw' hg=>by simp [execOp,ho,cC w' hg,ab1]) h (.refl _ _ _) (.of ?_ trivial) hK;rw [<-strOfNums_data];exact acW _
   have aow:a.eval x= .slice none 0 0->bY c st o.dst (.sc (.p (.s []))) K=some r->Rd P c Z K r e a w o (eG w):=by intro hv hK;refine go [] (λw' hg=> ?_) hK;rw [hv,run_convert_bytes_nil w' y _ hu he 0 0 t hd];rfl
   split at hK
   ·rename_i xs;obtain ⟨ns,hns,zW⟩:=LL hK;refine go ns (λw' hg=> ?_) zW;clear hK;subst hns;simp only [ah,bp] at hx;obtain ⟨_,hx⟩:=hx;generalize hv:[a.eval x]=vs at hx;cases hx;rename_i ad cap bB off OZ f h1 h2 h3 h4 h5;simp only [aaj,and_true] at hv;rw [hv];have hlen:(ns.map (MV.i .u8)).length=ns.length:=afL ..;have h5: ∀(i:Nat) (hi:i<ns.length),nn e.key e.φ (f i) (.i .u8 ns[i]):=λi hi=>by have:=h5 i (by rw [hlen];exact hi);rwa [List.getElem_map] at this
    rw [hlen] at h1 h2 h3 h4⊢;cases ns with
    |nil=>rw [run_convert_bytes_string w' y t _ _ _ _ hu he hd];cases ad<;>simp [Conv.bytesToString,loadCells,loadCellsFrom,ab1,strOfNums]<;>rfl
    |cons n ns=>
     have h5': ∀(i:Nat) (hi:i<(n::ns).length),f i=[.int .u8 (n::ns)[i]]:=by intro i hi;have:=h5 i hi;generalize f i=q at this;cases this;rfl
     have aox:OZ=1:=by rw [<-h3 0 (by simp),h5' 0 (by simp)];rfl
     subst aox;rw [h2 (by simp)];refine run_convert_bytes_arg w' y _ hu he bB off _ cap (n::ns) rfl (λi hi=> ?_) t hd;have h6:=h4 i 0 hi (by omega);rw [h5' i hi] at h6;simp only [Nat.mul_one,Nat.add_zero,adJ,Nat.zero_lt_succ,List.getElem?_cons_zero] at h6;rw [hg.cell (h.qe _ _ _ h6),adb,aaa hi];rfl
   ·refine aow ?_ hK;simpa [ah,bp] using hx
   ·rename_i f;cases hf:aV st.bk f with
    |none=>simp [hf] at hK
    |some ow=>
     simp only [hf] at hK;cases kI:AT ow.ty Y.elem with
     |false=>simp [kI] at hK
     |true=>
      simp only [kI,cond_true] at hK;have kI:=c8 kI;obtain ⟨ns,hns,zW⟩:=LL hK;clear hK;obtain ⟨hv,_⟩:=sw h hx hf;refine go ns (λw' hg=> ?_) zW;obtain ⟨J,cells,k1,k2,k3,k4,k5⟩:=(h.jN f ow hf).row;rw [kI,oR] at k1;cases k1;rw [wu] at k3 k4;rw [hns] at k3 k4;have bT: ∀(ns:List Int) (cells:List Value),bx e.key e.φ 1 cells (ns.map (MV.i .u8))->cells=ns.map (aeA .u8):=by
       intro ns;induction ns with
       |nil=>intro cells hc;exact hc
       |cons n ns ih=>intro cells hc;obtain ⟨v,q,rfl,_,hr,hc⟩:=hc;cases hr;rw [ih _ hc];rfl
      have hce:=bT _ _ k4;subst hce;rw [hv];rw [afL] at k3;rcases k3.2 with ⟨q1,q2⟩|⟨g,cap,dL,q1,_,q2,q3,q4,q5,q6⟩
      ·have:ns=[]:=List.eq_nil_of_length_eq_zero q2;subst this;rw [q1,run_convert_bytes_nil w' y _ hu he 0 0 t hd];rfl
      ·rw [q1];refine run_convert_bytes_arg w' y _ hu he g 0 _ cap ns rfl (λi hi=> ?_) t hd;refine hg.cell ?_;rw [ac1,cell_of q2];have Yh:(dL.toList.take (ns.length *1))[i]? =some (.int .u8 (ns.getD i 0)):=by rw [q6,acE,adb,aaa hi];rfl
       rw [aeE] at Yh;split at Yh
       ·simpa using Yh
       ·cases Yh
   ·cases hK
end
end Dn
/-
  Slices of new elements. Conditions: none.
-/
namespace Dn
open Go
section
variable {P:Program}{c:Ctx}{Z:cb} {e e':Env}{st:St}{a:Act} {w w':World}{R:Type}{K:St->Option R}{r:R}{Q:Exit->Act->World->Prop}{o:Oper}
end
end Dn
/-
  Variables that are handed to functions. Conditions: none.
-/
namespace Dn
open Go
def UQ:List (Nat×Nat)->Nat->Nat
 |[],_=>0
 |(f,x)::r,g=>if f=g then x else UQ r g
def Nu (E:Nat->Value)(ps:List (Nat×Nat))(f:Nat):Value:=match UQ ps f with
 |0=> .slice none 0 0
 |g+1=>E g
structure Nv (ps:List (Nat×Nat)):Prop where
 fn: ∀f x y,(f,x)∈ps->(f,y)∈ps->x=y
 inj: ∀f f' g,(f,g+1)∈ps->(f',g+1)∈ps->f=f'
theorem Nv.nil:Nv []:=⟨λ_ _ _ h=>by simp at h,λ_ _ _ h=>by simp at h⟩
theorem Bk {ps:List (Nat×Nat)}(h:Nv ps){f x:Nat}(hm:(f,x)∈ps):UQ ps f=x:=by
 have hfn:=h.fn;clear h;induction ps with
 |nil=>simp at hm
 |cons p ps ih=>
  obtain ⟨a,b⟩:=p;unfold UQ;by_cases ha:a=f
  ·subst ha;rw [if_pos rfl];exact hfn a b x (by simp) hm
  ·rw [if_neg ha];rcases AS.1 hm with h1|h1
   ·simp only [aaf] at h1;exact absurd h1.1.symm ha
   ·exact ih h1 (λf x y h1 h2=>hfn f x y (by simp [h1]) (by simp [h2]))
theorem SO {ps:List (Nat×Nat)}{f g:Nat}(h:nb ps f g=true):(∀b,(f,b)∈ps->b=g/\g≠0)/\(∀x,(x,g)∈ps->x≠f->g=0):=by
 induction ps with
 |nil=>simp
 |cons p ps ih=>
  obtain ⟨x,y⟩:=p;simp only [nb,sh,gj] at h;obtain ⟨h1,h2⟩:=h;obtain ⟨i1,i2⟩:=ih h2;refine ⟨?_,?_⟩
  ·intro b hb;rcases AS.1 hb with hb|hb
   ·cases hb;simp at h1;exact ⟨h1.1,h1.2⟩
   ·exact i1 b hb
  ·intro z hz dG;rcases AS.1 hz with hz|hz
   ·cases hz;simp [dG] at h1;exact h1
   ·exact i2 z hz dG
theorem Nv.add {ps:List (Nat×Nat)}{f g:Nat}(h:Nv ps)(hp:nb ps f g=true):Nv ((f,g)::ps):=by
 obtain ⟨p1,p2⟩:=SO hp;refine ⟨λa x y hx hy=> ?_,λa b k hx hy=> ?_⟩
 ·rcases AS.1 hx with hx|hx<;>rcases AS.1 hy with hy|hy
  ·cases hx;cases hy;rfl
  ·cases hx;exact (p1 y hy).1.symm
  ·cases hy;exact (p1 x hx).1
  ·exact h.fn a x y hx hy
 ·rcases AS.1 hx with De|De<;>rcases AS.1 hy with hy1|hy1
  ·cases De;cases hy1;rfl
  ·cases De;by_cases hb:b=f
   ·exact hb.symm
   ·have:=p2 b hy1 hb;omega
  ·cases hy1;by_cases hb:a=f
   ·exact hb
   ·have:=p2 a De hb;omega
  ·exact h.inj a b k De hy1
inductive TC (st:St):List (Nat×Nat)->List LK->List aS->List MV->List (Nat×Nat)->Prop
 |nil (ps):TC st ps [] [] [] ps
 |Nw {ps ks ls ms ke}:TC st ps ks ls ms ke->TC st ps (.k .l::ks) (.nil::ls) (.list []::ms) ke
 |hs {ps ks ls ms ke} (x:lQ):TC st ps ks ls ms ke->TC st ps (.k .h::ks) (.hs x::ls) (.h x::ms) ke
 |p {ps ks ls ms ke} (x:Kd) (m:MV) (l':aS):kF x m some=some l'->TC st ps ks ls ms ke->TC st ps (.k x::ks) (.p m::ls) (m::ms) ke
 |own {ps ks ls ms ke} (f ty:Nat) (eT:Bool) (g:Nat) (o:oS):aV st.bk g=some o->o.ty=ty->(o.eT=true->eT=true)->g∉st.cY->nb ps f (g+1)=true-> TC st ((f,g+1)::ps) ks ls ms ke->TC st ps (.own f ty eT::ks) (.own g::ls) (.list o.xs::ms) ke
 |xS {ps ks ls ms ke} (f ty:Nat) (eT:Bool):nb ps f 0=true->TC st ((f,0)::ps) ks ls ms ke->TC st ps (.own f ty eT::ks) (.nil::ls) (.list []::ms) ke
theorem Ib {R:Type}{k:Kd}{m:MV}{l:aS}{K:aS->Option R}(h:kF k m some=some l):kF k m K=K l:=by
 unfold kF gB gI gS gL gH gR at h⊢;cases k<;>cases m<;>simp at h⊢ <;>try (subst h;rfl)
 ·rename_i k k' n;by_cases hk:k'=k
  ·simp [hk] at h⊢;subst h;rfl
  ·simp [hk] at h
theorem Bl {R:Type}{r:R}{k:Kd}{m:MV}{K:aS->Option R}(h:kF k m K=some r): ∃l,kF k m some=some l/\K l=some r:=by
 unfold kF gB gI gS gL gH gR at h⊢;cases k<;>cases m<;>simp at h⊢ <;>try exact h
 ·rename_i k k' n;by_cases hk:k'=k
  ·simp [hk] at h⊢;exact h
  ·simp [hk] at h
theorem CP {st:St}{ks:List LK}: ∀{R:Type}{r:R}{ps:List (Nat×Nat)}{ls:List aS} {K':List MV->List (Nat×Nat)->Option R},kh st ps ks ls K'=some r-> ∃ms ke,TC st ps ks ls ms ke/\K' ms ke=some r:=by
 induction ks with
 |nil=>
  intro R r ps ls K' h;cases ls with
  |nil=>exact ⟨[],ps,.nil ps,h⟩
  |cons=>simp [kh] at h
 |cons k ks ih=>
  intro R r ps ls K' h;cases ls with
  |nil=>simp [kh] at h
  |cons l ls=>
   simp only [kh] at h;unfold Nc at h;split at h
   ·obtain ⟨ms,ke,h1,h⟩:=ih h;exact ⟨_,_,.Nw h1,h⟩
   ·obtain ⟨ms,ke,h1,h⟩:=ih h;exact ⟨_,_,.hs _ h1,h⟩
   ·obtain ⟨l',h0,h⟩:=Bl h;obtain ⟨ms,ke,h1,h⟩:=ih h;exact ⟨_,_,.p _ _ l' h0 h1,h⟩
   ·rename_i f ty eT g;cases ho:aV st.bk g with
    |none=>simp [ho] at h
    |some o=>
     simp only [ho] at h;cases hc:!AT o.ty ty||(o.eT&&!eT)||bX st.cY g||!nb ps f (g+1) with
     |true=>simp [hc] at h
     |false=>
      simp only [hc,cond_false] at h;simp only [By,aaJ] at hc;obtain ⟨⟨⟨h1,h2⟩,h3⟩,h4⟩:=hc;obtain ⟨ms,ke,h5,h⟩:=ih h;refine ⟨_,_,.own f ty eT g o ho (c8 h1) ?_ ?_ h4 h5,h⟩
      ·intro hz;rw [hz] at h2;simpa using h2
      ·rw [<-b8,h3];simp
   ·rename_i f ty eT;cases hc:nb ps f 0 with
    |false=>simp [hc] at h
    |true=>simp only [hc,cond_true] at h;obtain ⟨ms,ke,h5,h⟩:=ih h;exact ⟨_,_,.xS f ty eT hc h5,h⟩
   ·simp at h
theorem TC.ps {st:St}{ps ke:List (Nat×Nat)}{ks:List LK}{ls:List aS}{ms:List MV}(h:TC st ps ks ls ms ke):Nv ps->Nv ke/\ ∀p∈ps,p∈ke:=by
 induction h with
 |nil=>exact λh=>⟨h,λ_ h=>h⟩
 |Nw _ ih=>exact ih
 |hs _ _ ih=>exact ih
 |p _ _ _ _ _ ih=>exact ih
 |own f ty eT g o _ _ _ _ hp _ ih=>intro h;obtain ⟨h1,h2⟩:=ih (h.add hp);exact ⟨h1,λp hm=>h2 p (by simp [hm])⟩
 |xS f ty eT hp _ ih=>intro h;obtain ⟨h1,h2⟩:=ih (h.add hp);exact ⟨h1,λp hm=>h2 p (by simp [hm])⟩
def aks (st:St)(ps:List (Nat×Nat))(ks:List LK)(f:Nat)(o:oS):Prop:=LK.own f o.ty o.eT∈ks/\((∃g o3,(f,g+1)∈ps/\aV st.bk g=some o3/\o3.ty=o.ty/\o3.xs=o.xs/\(o3.eT=true->o.eT=true)/\g∉st.cY)\/((f,0)∈ps/\o.xs=[]))
theorem adr {e:Env}{st:St}{psF:List (Nat×Nat)}(Du:Nv psF){ps ke:List (Nat×Nat)}{ks:List LK}{ls:List aS}{ms:List MV}(h:TC st ps ks ls ms ke)(he:e.m=st.bk):(∀p∈ke,p∈psF)-> ∀{vs:List Value},aJ e vs ls-> ∀(m0:List (Nat×oS)),∃cs m1,(∀{R:Type}(K:List aS->List MV->St->Option R)(rest:List MV),dw ⟨[],[],[],m0⟩ ks (ms++rest) K=K cs rest ⟨[],[],[],m1⟩)/\ (∀e2:Env,e2.key=e.key->e2.φ=e.φ->(∀f,e2.E f=Nu e.E psF f)->aJ e2 vs cs)/\(∀f o,aV m1 f=some o->aV m0 f=some o\/aks st psF ks f o):=by
 induction h with
 |nil=>intro _ vs hl m0;cases hl;exact ⟨[],m0,λK rest=>rfl,λe2 _ _ _=>rfl,λf o h=> .inl h⟩
 |Nw _ ih=>
  intro gp vs hl m0;obtain ⟨v,u,rfl,h1,h2⟩:=hl;obtain ⟨cs,m1,g1,g2,g3⟩:=ih gp h2 m0;have h1:v=[.slice none 0 0]:=h1;subst h1;refine ⟨.p (.list [])::cs,m1,λK rest=> ?_,λe2 q1 q2 q3=>⟨_,u,rfl,⟨rfl,.list none 0 [] 0 0 0 (λ_=>[]) (by simp) (by simp) (by simp) (by simp) (by simp)⟩,g2 e2 q1 q2 q3⟩,λf o h=> ?_⟩
  ·show dw _ _ _ _=_;simp only [dw,gC,OF,lS,kF,gL];exact g1 _ rest
  ·rcases g3 f o h with h|⟨h,h'⟩
   ·exact .inl h
   ·exact .inr ⟨IT _ h,h'⟩
 |hs x _ ih=>
  intro gp vs hl m0;obtain ⟨v,u,rfl,h1,h2⟩:=hl;obtain ⟨cs,m1,g1,g2,g3⟩:=ih gp h2 m0;refine ⟨.hs x::cs,m1,λK rest=> ?_,λe2 q1 q2 q3=>⟨v,u,rfl,h1,g2 e2 q1 q2 q3⟩,λf o h=> ?_⟩
  ·simp only [dw,gC,OF,lS,kF,gH];exact g1 _ rest
  ·rcases g3 f o h with h|⟨h,h'⟩
   ·exact .inl h
   ·exact .inr ⟨IT _ h,h'⟩
 |p x m l' h0 _ ih=>
  intro gp vs hl m0;obtain ⟨v,u,rfl,h1,h2⟩:=hl;obtain ⟨cs,m1,g1,g2,g3⟩:=ih gp h2 m0;refine ⟨l'::cs,m1,λK rest=> ?_,λe2 q1 q2 q3=>⟨v,u,rfl,?_,g2 e2 q1 q2 q3⟩,λf o h=> ?_⟩
  ·simp only [dw,gC,OF,lS,Ib h0];exact g1 _ rest
  ·obtain ⟨l2,hs,hk⟩:=n5 (e:=e2) (vs:=v) h0;cases hk;exact hs.rep (by rw [q1,q2];exact h1.2)
  ·rcases g3 f o h with h|⟨h,h'⟩
   ·exact .inl h
   ·exact .inr ⟨IT _ h,h'⟩
 |own f ty eT g o ho kI hfz hg hp ht ih=>
  intro gp vs hl m0;obtain ⟨v,u,rfl,h1,h2⟩:=hl;obtain ⟨cs,m1,g1,g2,g3⟩:=ih gp h2 (cw m0 f ⟨ty,eT,o.xs⟩);have vI:(f,g+1)∈psF:=gp _ (by
   have:=(ht.ps)
   clear this;exact (show∀{ps ke:List (Nat×Nat)} {ks:List LK} {ls:List aS} {ms:List MV},TC st ps ks ls ms ke-> ∀p∈ps,p∈ke from by
    intro ps ke ks ls ms h;induction h with
    |nil=>exact λ_ h=>h
    |Nw _ ih=>exact ih
    |hs _ _ ih=>exact ih
    |p _ _ _ _ _ ih=>exact ih
    |own _ _ _ _ _ _ _ _ _ _ _ ih=>exact λp hm=>ih p (by simp [hm])
    |xS _ _ _ _ _ ih=>exact λp hm=>ih p (by simp [hm])) ht _ (by simp))
  obtain ⟨x,rfl,hx,hE⟩:=h1;have hE:=hE o (by rw [he];exact ho);refine ⟨.own f::cs,m1,λK rest=> ?_,λe2 q1 q2 q3=>⟨[x],u,rfl,⟨x,rfl,hx,λo2 _=> ?_⟩,g2 e2 q1 q2 q3⟩,λf2 o2 h=> ?_⟩
  ·simp only [dw,gC,OF,lS,gL,oV];exact g1 _ rest
  ·rw [q3 f,Nu,Bk Du vI,hE]
  ·rcases g3 f2 o2 h with h|⟨h,h'⟩
   ·rw [bG] at h;by_cases fK:f2=f
    ·subst fK;simp only [if_true,AI] at h;subst h;exact .inr ⟨by simp,.inl ⟨g,o,vI,ho,kI,rfl,hfz,hg⟩⟩
    ·rw [if_neg fK] at h;exact .inl h
   ·exact .inr ⟨IT _ h,h'⟩
 |xS f ty eT hp ht ih=>
  intro gp vs hl m0;obtain ⟨v,u,rfl,h1,h2⟩:=hl;obtain ⟨cs,m1,g1,g2,g3⟩:=ih gp h2 (cw m0 f ⟨ty,eT,[]⟩);have vI:(f,0)∈psF:=gp _ ((show∀{ps ke:List (Nat×Nat)} {ks:List LK} {ls:List aS} {ms:List MV},TC st ps ks ls ms ke-> ∀p∈ps,p∈ke from by
   intro ps ke ks ls ms h;induction h with
   |nil=>exact λ_ h=>h
   |Nw _ ih=>exact ih
   |hs _ _ ih=>exact ih
   |p _ _ _ _ _ ih=>exact ih
   |own _ _ _ _ _ _ _ _ _ _ _ ih=>exact λp hm=>ih p (by simp [hm])
   |xS _ _ _ _ _ ih=>exact λp hm=>ih p (by simp [hm])) ht _ (by simp))
  have h1:v=[.slice none 0 0]:=h1;subst h1;refine ⟨.own f::cs,m1,λK rest=> ?_,λe2 q1 q2 q3=>⟨_,u,rfl,⟨_,rfl,rfl,λo2 _=> ?_⟩,g2 e2 q1 q2 q3⟩,λf2 o2 h=> ?_⟩
  ·simp only [dw,gC,OF,lS,gL,oV];exact g1 _ rest
  ·rw [q3 f,Nu,Bk Du vI]
  ·rcases g3 f2 o2 h with h|⟨h,h'⟩
   ·rw [bG] at h;by_cases fK:f2=f
    ·subst fK;simp only [if_true,AI] at h;subst h;exact .inr ⟨by simp,.inr ⟨vI,rfl⟩⟩
    ·rw [if_neg fK] at h;exact .inl h
   ·exact .inr ⟨IT _ h,h'⟩
theorem Zs {c:Ctx}{ks:List LK}(h:je c ks=true): ∀f ty eT,LK.own f ty eT∈ks-> ∃I,c.ti ty=some I/\I.du=[]:=by
 induction ks with
 |nil=>intro f ty eT hm;simp at hm
 |cons k ks ih=>
  intro f ty eT hm;cases k with
  |k x=>
   simp only [je] at h;rcases AS.1 hm with hm|hm
   ·cases hm
   ·exact ih h f ty eT hm
  |own f' ty' aoz=>
   simp only [je] at h;cases hI:c.tv ty' with
   |none=>simp [hI] at h
   |some I=>
    simp only [hI] at h;rcases AS.1 hm with hm|hm
    ·cases hm;exact ⟨I,cc hI⟩
    ·exact ih h f ty eT hm
section
variable {P:Program}{c:Ctx}{Z:cb} {Z':Nat->Prop} {e e':Env}{st cO:St}{a:Act} {w w':World}{R:Type}{K:St->Option R}{r:R}{Q:Exit->Act->World->Prop}{o:Oper}{root:Nat}{cs:List aS}{ks:List LK}{ls:List MV}{ps:List (Nat×Nat)}
def gone (e:Env)(root:Nat)(ps:List (Nat×Nat))(b:Nat):Prop:=b=e.B root\/ ∃x g,(x,g+1)∈ps/\(e.E g).ownBlock=some b
theorem oZ.wide {Z Z2:Nat->Prop} {φ:Ph}{bB:Nat}(h:oZ c Z φ w bB ks ls)(hz: ∀b,Z b->Z2 b):oZ c Z2 φ w bB ks ls:=by obtain ⟨cs,m,E,arr,T,h1,h2,h3,h4,h5,h6,h7⟩:=h;refine ⟨cs,m,E,arr,T,h1,h2,hz _ h3,h4,h5,λf o ho=>⟨?_,(h6 f o ho).2⟩,h7⟩;obtain ⟨I,cells,g1,g2,g3,g4,g5⟩:=(h6 f o ho).1.row;exact ⟨I,cells,g1,g2,g3,g4,λb hb=>⟨hz _ (g5 b hb).1,(g5 b hb).2⟩⟩
theorem Ic (h:cG c Z e st a w)(hf:av st.fr root= .box cs)(hm:fT cs=false)(kI:je c ks=true)(ht:TC st [] ks cs ls ps):oZ c (gone e root ps) e.φ w (e.B root) ks ls:=by
 have hs:=h.slot root;rw [hf] at hs;obtain ⟨arr,T,dx,rO⟩:=hs.2.cells hm;obtain ⟨Du,_⟩:=ht.ps .nil;obtain ⟨lu,m1,g1,g2,g3⟩:=adr Du ht h.m (λp hp=>hp) rO [];have hl:=g2 ⟨c.key,e.φ,Nu e.E ps,λ_=>e.B root,m1⟩ h.key.symm rfl (λ_=>rfl);have hE: ∀{f g:Nat},(f,g+1)∈ps->Nu e.E ps f=e.E g:=λhm=>by rw [Nu,Bk Du hm]
 have hE0: ∀{f:Nat},(f,0)∈ps->Nu e.E ps f= .slice none 0 0:=λhm=>by rw [Nu,Bk Du hm]
 have B2: ∀f o,aV m1 f=some o->aks st ps ks f o:=λf o ho=>(g3 f o ho).resolve_left (by simp [aV]);refine ⟨lu,m1,Nu e.E ps,arr,T,?_,dx,.inl rfl,hs.2.free,hl,λf o ho=> ?_,λf f' o o' k ho CF hk hk'=> ?_⟩
 ·have:=g1 (λcs rest st=>gN rest (some (cs,st.bk))) [];rw [List.append_nil] at this;exact this
 ·obtain ⟨hk,za|⟨hp,hx⟩⟩:=B2 f o ho
  ·obtain ⟨g,o3,hp,Yc,aku,Zm,aoA,CJ⟩:=za;obtain ⟨I,cells,q1,q2,q3,q4,q5⟩:=(h.jN g o3 Yc).row;refine ⟨⟨I,cells,by rw [<-aku];exact q1,q2,by rw [<-aku,<-Zm,hE hp];exact q3,by rw [<-Zm];show bx c.key e.φ _ _ _;rw [<-h.key];exact q4,λb hb=>⟨.inr ⟨f,g,hp,by rw [<-hE hp];exact hb⟩,λoff u hu=> ?_,λhc=>hc.elim⟩⟩,?_⟩
   ·obtain ⟨k1,k2⟩:=(q5 b (by rw [<-hE hp];exact hb)).2.1 off u hu;exact ⟨aoA k1,by rw [<-Zm];exact k2⟩
   ·rw [hE hp];exact h.bf root cs g o3 hf Yc
  ·obtain ⟨I,hI,Y1⟩:=Zs kI f o.ty o.eT hk;refine ⟨⟨I,[],hI,Y1,⟨by rw [hx];simp,.inl ⟨by rw [hE0 hp],by rw [hx];rfl⟩⟩,by rw [hx];rfl,λb hb=> ?_⟩,?_⟩
   ·rw [hE0 hp] at hb;simp [BY] at hb
   ·rw [hE0 hp];simp [BY]
 ·obtain ⟨_,za|⟨hp,_⟩⟩:=B2 f o ho
  ·obtain ⟨g,o3,hp,Yc,_⟩:=za;obtain ⟨_,Nq|⟨Nr,_⟩⟩:=B2 f' o' CF
   ·obtain ⟨g',o3',Nr,aoB,_⟩:=Nq;rw [hE hp] at hk;rw [hE Nr] at hk';have:=h.ff g g' o3 o3' k Yc aoB hk hk';subst this;exact Du.inj _ _ _ hp Nr
   ·rw [hE0 Nr] at hk';simp [BY] at hk'
  ·rw [hE0 hp] at hk;simp [BY] at hk
theorem TC.bk (ht:TC st [] ks cs ls ps): ∀x g,(x,g+1)∈ps-> ∃o,aV st.bk g=some o/\g∉st.cY:=by
 have key: ∀{ps0 ps:List (Nat×Nat)} {ks:List LK} {cs:List aS} {ls:List MV},TC st ps0 ks cs ls ps-> ∀x g,(x,g+1)∈ps->(x,g+1)∈ps0\/ ∃o,aV st.bk g=some o/\g∉st.cY:=by
  intro ps0 ps ks cs ls h;induction h with
  |nil=>exact λx g hm=> .inl hm
  |Nw _ ih=>exact ih
  |hs _ _ ih=>exact ih
  |p _ _ _ _ _ ih=>exact ih
  |own f ty eT g0 o ho _ _ hg _ _ ih=>
   intro x g hm;rcases ih x g hm with h|h
   ·rcases AS.1 h with h|h
    ·simp only [aaf,acA] at h;obtain ⟨rfl,rfl⟩:=h;exact .inr ⟨o,ho,hg⟩
    ·exact .inl h
   ·exact .inr h
  |xS f ty eT _ _ ih=>
   intro x g hm;rcases ih x g hm with h|h
   ·rcases AS.1 h with h|h
    ·simp at h
    ·exact .inl h
   ·exact .inr h
 intro x g hm;exact (key ht x g hm).resolve_left (by simp)
def kK (gs:List Nat)(m:List (Nat×oS)):List (Nat×oS):=m.filter λp=>!bX gs p.1
theorem PI (gs:List Nat)(m:List (Nat×oS))(K:List (Nat×oS)->Option R):Pd gs m K=K (kK gs m):=by
 induction m generalizing K with
 |nil=>rfl
 |cons p m ih=>obtain ⟨k,o⟩:=p;simp only [Pd,kK,aeK];cases bX gs k<;>simp [ih,kK]
theorem Ie (gs:List Nat)(m:List (Nat×oS))(f:Nat):aV (kK gs m) f=if bX gs f then none else aV m f:=by
 induction m with
 |nil=>simp [kK,aV]
 |cons p m ih=>
  obtain ⟨k,o⟩:=p;simp only [kK,aeK] at ih⊢;cases hk:bX gs k with
  |true=>
   simp only [acM,aaH,if_false,ih,aV,gj];by_cases hkf:k=f
   ·subst hkf;simp [hk]
   ·simp [hkf]
  |false=>
   simp only [afR,if_true,aV,gj];by_cases hkf:k=f
   ·subst hkf;simp [hk]
   ·simp only [hkf,decide_false,cond_false];exact ih
def nu (fs:List Nat)(r:Fr):Fr:=fs.foldl (λr f=>lM f r) r
def Dy (fs:List Nat)(s:Slot):Slot:=fs.foldl (λs f=>Ci f s) s
theorem UR (fs:List Nat)(r:Fr)(K:Fr->Option R):acS fs r K=K (nu fs r):=by
 induction fs generalizing r with
 |nil=>rfl
 |cons f fs ih=>simp only [acS,YN];exact ih _
theorem Ig (fs:List Nat)(r:Fr)(t:Nat):av (nu fs r) t=Dy fs (av r t):=by
 induction fs generalizing r with
 |nil=>rfl
 |cons f fs ih=>show av (nu fs (lM f r)) t=Dy fs (Ci f (av r t));rw [ih,iK]
theorem Ih (fs:List Nat)(r:Fr):bg (nu fs r)=bg r:=by
 induction fs generalizing r with
 |nil=>rfl
 |cons f fs ih=>show bg (nu fs (lM f r))=_;rw [ih];simp [bg,lM]
theorem ah.afX {v:Value}{s:Slot}(fs:List Nat)(h:ah e v s):ah e v (Dy fs s):=by
 induction fs generalizing s with
 |nil=>exact h
 |cons f fs ih=>exact ih (h.kill f)
theorem Ii {S:Nat->Prop}(f:Nat){l:aS}(h:jW S l):jW (λg=>S g/\g≠f) (O0 f l):=by intro g hg;refine ⟨?_,HX f l g hg⟩;cases l<;>simp [O0] at hg;rename_i g';cases hb:AT g' f<;>simp [hb] at hg;subst hg;exact h _ rfl
theorem Zt {S T:Nat->Prop}(f:Nat){s:Slot}(h:gk S T s):gk (λg=>S g/\g≠f) T (Ci f s):=by
 cases s with
 |sc l=>exact Ii f h
 |ag cs=>intro l hl;obtain ⟨x,hx,rfl⟩:=aa6.1 hl;exact Ii f (h x hx)
 |ep g i o b cs=>
  simp only [Ci];cases hb:AT g f
  ·simp only [cond_false,gk];refine ⟨h,λe=> ?_⟩;subst e;simp [gj] at hb
  ·simp only [cond_true,gk];intro g' hg';cases hg'
 |box cs=>trivial
 |_=>exact h
theorem US {S T:Nat->Prop}(fs:List Nat){s:Slot}(h:gk S T s):gk (λg=>S g/\g∉fs) T (Dy fs s):=by
 induction fs generalizing S s with
 |nil=>
  have:(λg=>S g/\g∉([]:List Nat))=S:=by funext g;simp
  rw [this];exact h
 |cons f fs ih=>
  have h2:=ih (Zt f h);have:(λg=>(S g/\g≠f)/\g∉fs)=(λg=>S g/\g∉f::fs):=by funext g;simp [and_assoc]
  rw [<-this];exact h2
def Zu (fs:List Nat)(cs:List aS):List aS:=fs.foldl (λcs f=>cs.map (O0 f)) cs
theorem PJ (fs:List Nat)(cs:List aS):Dy fs (.box cs)= .box (Zu fs cs):=by
 induction fs generalizing cs with
 |nil=>rfl
 |cons f fs ih=>exact ih _
theorem uU (fs:List Nat){s:Slot}{ds:List aS}(h:Dy fs s= .box ds): ∃cs,s= .box cs/\ds=Zu fs cs:=by
 induction fs generalizing s with
 |nil=>exact ⟨ds,h,rfl⟩
 |cons f fs ih=>
  obtain ⟨cs,h1,h2⟩:=ih (s:=Ci f s) h;cases s<;>simp only [Ci] at h1<;>first|(cases h1;done)|skip
  ·rename_i GO;simp only [Slot.box.injEq] at h1;exact ⟨GO,rfl,by rw [h2,<-h1];rfl⟩
  ·rename_i g i o b c0;cases hb:AT g f<;>simp [hb] at h1
theorem PK {fs:List Nat}{o:Obj}{cs:List aS}(h:ki e o cs):ki e o (Zu fs cs):=by
 induction fs generalizing cs with
 |nil=>exact h
 |cons f fs ih=>exact ih (h.map (λ_ _=>bp.kill f) (λ_ _=>rfl))
theorem UT {S:Nat->Prop}(fs:List Nat){cs:List aS}(h: ∀l∈cs,jW S l): ∀l∈Zu fs cs,jW (λg=>S g/\g∉fs) l:=by
 induction fs generalizing S cs with
 |nil=>
  have:(λg=>S g/\g∉([]:List Nat))=S:=by funext g;simp
  rw [this];exact h
 |cons f fs ih=>
  have h2:=ih (S:=λg=>S g/\g≠f) (cs:=cs.map (O0 f)) (λl hl=>by obtain ⟨x,hx,rfl⟩:=aa6.1 hl;exact Ii f (h x hx));have:(λg=>(S g/\g≠f)/\g∉fs)=(λg=>S g/\g∉f::fs):=by funext g;simp [and_assoc]
  rw [<-this];exact h2
theorem LM (fs:List Nat)(cs:List aS):mG (Zu fs cs)=mG cs:=by
 induction fs generalizing cs with
 |nil=>rfl
 |cons f fs ih=>exact (ih _).trans (Su f cs)
theorem Ij {fs:List Nat}{m:List (Nat×oS)}(h:Lt fs m=false): ∀f∈fs,aV m f=none:=by
 induction fs with
 |nil=>simp
 |cons f fs ih=>
  intro g hg;unfold Lt at h;cases ho:aV m f with
  |some o=>simp [ho] at h
  |none=>
   simp only [ho] at h;rcases AS.1 hg with rfl|hg
   ·exact ho
   ·exact ih h g hg
theorem Ik {l k:List Nat}(h:meets l k=false): ∀f∈l,f∉k:=by
 induction l with
 |nil=>simp
 |cons x l ih=>
  intro g hg;unfold meets at h;cases hx:bX k x with
  |true=>simp [hx] at h
  |false=>
   simp only [hx,cond_false] at h;rcases AS.1 hg with rfl|hg
   ·intro hm;rw [(b8 k g).2 hm] at hx;cases hx
   ·exact ih h g hg
theorem F7 {ps:List (Nat×Nat)}{g:Nat}:g∈eZ ps↔ ∃x,(x,g+1)∈ps:=by
 induction ps with
 |nil=>simp [eZ]
 |cons p ps ih=>
  obtain ⟨x,y⟩:=p;cases y with
  |zero=>
   simp only [eZ,ih];constructor
   ·rintro ⟨z,hz⟩;exact ⟨z,by simp [hz]⟩
   ·rintro ⟨z,hz⟩;rcases AS.1 hz with hz|hz
    ·simp at hz
    ·exact ⟨z,hz⟩
  |succ y=>
   simp only [eZ,AS,ih];constructor
   ·rintro (rfl|⟨z,hz⟩)
    ·exact ⟨x,by simp⟩
    ·exact ⟨z,by simp [hz]⟩
   ·rintro ⟨z,hz⟩;rcases hz with hz|hz
    ·simp only [aaf,acA] at hz;exact .inl hz.2
    ·exact .inr ⟨z,hz⟩
theorem kf {ks:List LK}: ∀{R:Type}{r:R}{st:St}{ms:List MV} {K':List aS->List MV->St->Option R},dw st ks ms K'=some r-> ∃cs rest cO,(∀{R':Type}(K2:List aS->List MV->St->Option R'),dw st ks ms K2=K2 cs rest cO)/\K' cs rest cO=some r:=by
 induction ks with
 |nil=>intro R r st ms K' h;exact ⟨[],ms,st,λ_=>rfl,h⟩
 |cons k ks ih=>
  intro R r st ms K' h;cases ms with
  |nil=>simp [dw,gC] at h
  |cons m ms=>
   simp only [dw,gC] at h;cases k with
   |k x=>simp only [lS] at h;obtain ⟨l,h0,h⟩:=Bl h;obtain ⟨cs,rest,cO,h1,h⟩:=ih h;refine ⟨l::cs,rest,cO,λK2=> ?_,h⟩;simp only [dw,gC,lS,Ib h0];exact h1 _
   |own f ty eT=>
    unfold lS gL at h;cases m<;>simp only at h<;>try (cases h;done)
    rename_i xs;obtain ⟨p,q,fr,n⟩:=st;simp only [oV] at h;obtain ⟨cs,rest,cO,h1,h⟩:=ih h;refine ⟨.own f::cs,rest,cO,λK2=> ?_,h⟩;simp only [dw,gC,lS,gL,oV];exact h1 _
theorem LN (m n:List (Nat×oS))(f:Nat):aV (m++n) f=match aV m f with|some o=>some o|none=>aV n f:=by
 induction m with
 |nil=>rfl
 |cons p m ih=>obtain ⟨k,o⟩:=p;simp only [OF,aV,gj];by_cases h:k=f<;>simp [h,ih]
theorem Dz {ks:List LK}: ∀{st:St}{ms:List MV}{cs:List aS}{rest:List MV}{cO:St},(∀{R':Type}(K2:List aS->List MV->St->Option R'),dw st ks ms K2=K2 cs rest cO)-> ∀f o,aV cO.bk f=some o->aV st.bk f=some o\/f∈bK ks:=by
 induction ks with
 |nil=>intro st ms cs rest cO h f o ho;have:=h (λa b c=>some c);simp only [dw,AI] at this;subst this;exact .inl ho
 |cons k ks ih=>
  intro st ms cs rest cO h f o ho;have h0:=h (λa b c=>some (a,b,c));obtain ⟨lu,aqY,ei,h1,h2⟩:=kf h0;clear h1;cases ms with
  |nil=>simp [dw,gC] at h0
  |cons m ms=>
   cases k with
   |k x=>simp only [dw,gC,lS] at h0;obtain ⟨l,h3,h4⟩:=Bl h0;obtain ⟨lZ,Zv,np,h5,h6⟩:=kf h4;simp only [AI,aaf] at h6;obtain ⟨_,_,rfl⟩:=h6;exact ih h5 f o ho
   |own f' ty eT=>
    simp only [dw,gC] at h0;unfold lS gL at h0;cases m<;>simp only at h0<;>try (cases h0;done)
    rename_i xs;obtain ⟨p,q,fr,n⟩:=st;simp only [oV] at h0;obtain ⟨lZ,Zv,np,h5,h6⟩:=kf h0;simp only [AI,aaf] at h6;obtain ⟨_,_,rfl⟩:=h6;rcases ih h5 f o ho with h7|h7
    ·have h7:aV (cw n f' ⟨ty,eT,xs⟩) f=some o:=h7;rw [bG] at h7;by_cases fK:f=f'
     ·subst fK;exact .inr (by simp [bK])
     ·rw [if_neg fK] at h7;exact .inl h7
    ·exact .inr (by simp [bK,h7])
end
end Dn
/-
  Calls that are handed a variable. Conditions: none.
-/
namespace Dn
open Go
theorem zZ {ks:List LK}: ∀{st:St}{ms:List MV}{cs:List aS}{rest:List MV}{cO:St},(∀{R':Type}(K2:List aS->List MV->St->Option R'),dw st ks ms K2=K2 cs rest cO)-> ∀l∈cs,jW (λf=>f∈bK ks) l:=by
 induction ks with
 |nil=>intro st ms cs rest cO h l hl;have:=h (λa b c=>some a);simp only [dw,AI] at this;subst this;simp at hl
 |cons k ks ih=>
  intro st ms cs rest cO h l hl;have h0:=h (λa b c=>some (a,b,c));cases ms with
  |nil=>simp [dw,gC] at h0
  |cons m ms=>
   cases k with
   |k x=>
    simp only [dw,gC,lS] at h0;obtain ⟨l0,h3,h4⟩:=Bl h0;obtain ⟨lZ,Zv,np,h5,h6⟩:=kf h4;simp only [AI,aaf] at h6;obtain ⟨rfl,_,_⟩:=h6;rcases AS.1 hl with rfl|hl
    ·obtain ⟨l2,hs,hk⟩:=n5 (e:=⟨λn=>n,λ_ _=>none,λ_=>undef,λ_=>0,[]⟩) (vs:=[]) h3;cases hk;exact HW hs.Ye
    ·exact ih h5 l hl
   |own f' ty eT=>
    simp only [dw,gC] at h0;unfold lS gL at h0;cases m<;>simp only at h0<;>try (cases h0;done)
    rename_i xs;obtain ⟨p,q,fr,n⟩:=st;simp only [oV] at h0;obtain ⟨lZ,Zv,np,h5,h6⟩:=kf h0;simp only [AI,aaf] at h6;obtain ⟨rfl,_,_⟩:=h6;rcases AS.1 hl with rfl|hl
    ·intro f hf;cases hf;simp [bK]
    ·intro f hf;have:=ih h5 l hl f hf;simp [bK,this]
section
variable {P:Program}{c:Ctx}{Z:cb} {Z':Nat->Prop} {e e':Env}{st cO:St}{a:Act} {w w':World}{R:Type}{K:St->Option R}{r:R}{Q:Exit->Act->World->Prop}{o:Oper}{root:Nat}{cs:List aS}{ks:List LK}{ls outs:List MV}{ps:List (Nat×Nat)} {φ':Ph}
theorem F8 {fr:Fr}(fs:List Nat){s:Slot}(h:cZ fr s):cZ fr (Dy fs s):=by
 induction fs generalizing s with
 |nil=>exact h
 |cons f fs ih=>
  refine ih ?_;cases s with
  |ep g i o b cs=>simp only [Ci];cases AT g f<;>trivial
  |ptr=>exact h
  |hp=>exact h
  |zN=>exact h
  |_=>trivial
theorem Il (fs:List Nat){s:Slot}(h:dv s=true):dv (Dy fs s)=true:=by
 induction fs generalizing s with
 |nil=>exact h
 |cons f fs ih=>refine ih (s:=Ci f s) ?_;rw [E9];exact h
theorem DA (h:cG c Z e st a w)(hf:av st.fr root= .box cs)(hr:bX st.df root=false)(ht:TC st [] ks cs ls ps): ∀b,gone e root ps b->Z.In b:=by
 have hs:=h.slot root;rw [hf] at hs;intro b hb;rcases hb with rfl|⟨x,g,hp,hb⟩
 ·exact Pm hs.2.dm (by rw [<-h.defers.2.1,<-b8,hr];simp)
 ·obtain ⟨o,ho,hg⟩:=ht.bk x g hp;obtain ⟨I,cells,_,_,_,_,h5⟩:=(h.jN g o ho).row;exact Pm (h5 b hb).1 (by rw [<-h.defers.2.2.1];exact hg)
theorem Zx (h:cG c Z e st a w)(hf:av st.fr root= .box cs)(hm:fT cs=false)(hr:bX st.df root=false)(ht:TC st [] ks cs ls ps)(hZ: ∀b,Z' b↔w.heap.size<=b\/gone e root ps b)(xA:Trans Z' e.φ w φ' w')(hi:Co φ' w')(hc:oZ c Z' φ' w' (e.B root) ks outs)(hK:Lu st root ks ps outs K=some r): ∃e' cO,cG c Z e' cO a w'/\e'.φ=φ'/\K cO=some r:=by
 unfold Lu at hK;obtain ⟨lu,rest,Bc,g1,hK⟩:=kf hK;cases rest with
 |cons=>simp [gN] at hK
 |nil=>
 simp only [gN,PI] at hK;cases mW:Lt (bK ks) (kK (eZ ps) st.bk)||meets (bK ks) st.cY with
 |true=>simp [mW] at hK
 |false=>
 simp only [mW,cond_false,UR,nL,xH] at hK;obtain ⟨SP,Im⟩:=By.1 mW;have SP:=Ij SP;have Im:=Ik Im;obtain ⟨lZ,m3,E,arr,T,z1,dx,hzb,r9,rO,iN,fK⟩:=hc;have oM:lZ=lu/\m3=Bc.bk:=by unfold UO at z1;rw [g1] at z1;simp only [gN,AI,aaf] at z1;exact ⟨z1.1.symm,z1.2.symm⟩
 obtain ⟨rfl,rfl⟩:=oM;have eS:=zZ g1;have gp: ∀f o,aV Bc.bk f=some o->f∈bK ks:=λf o ho=>(Dz g1 f o ho).resolve_left (by simp [aV]);have hs:=h.slot root;rw [hf] at hs;have vI: ∀b,Z' b->Z.In b:=by
  intro b hb;rcases (hZ b).1 hb with hb|hb
  ·exact h.dm b hb
  ·exact DA h hf hr ht b hb
 have PL: ∀t gK,av st.fr t= .box gK->t≠root-> ¬Z' (e.B t):=by
  intro t gK Zy dG hz;rcases (hZ _).1 hz with hz|hz|⟨x,g,hp,hz⟩
  ·have:=xQ h Zy;omega
  ·exact h.bb t root gK cs Zy hf dG hz
  ·obtain ⟨o,ho,_⟩:=ht.bk x g hp;exact h.bf t gK g o Zy ho hz
 have hold: ∀f o,aV (kK (eZ ps) st.bk) f=some o->aV st.bk f=some o/\f∉eZ ps:=by
  intro f o ho;rw [Ie] at ho;cases hn:bX (eZ ps) f with
  |true=>simp [hn] at ho
  |false=>simp only [hn,aaH,if_false] at ho;exact ⟨ho,λhm=>by rw [(b8 _ _).2 hm] at hn;cases hn⟩
 have F9: ∀f o b,aV (kK (eZ ps) st.bk) f=some o->(e.E f).ownBlock=some b-> ¬Z' b:=by
  intro f o b ho hb hz;obtain ⟨CF,hnf⟩:=hold f o ho;rcases (hZ _).1 hz with hz|hz|⟨x,g,hp,hz⟩
  ·have:=xR h CF hb;omega
  ·exact h.bf root cs f o hf CF (by rw [hb,hz])
  ·obtain ⟨o2,dh,_⟩:=ht.bk x g hp;have:=h.ff f g o o2 b CF dh hb hz;subst this;exact hnf (F7.2 ⟨x,hp⟩)
 let E2:Nat->Value:=λf=>if bX (bK ks) f=true then E f else e.E f
 have zJ: ∀f,f∈bK ks->E2 f=E f:=λf hf=>by show (if _ then _ else _)=_;rw [if_pos ((b8 _ _).2 hf)]
 have O2: ∀f,f∉bK ks->E2 f=e.E f:=λf hf=>by show (if _ then _ else _)=_;rw [if_neg (λhq=>hf ((b8 _ _).1 hq))]
 have lX: ∀f o,aV (Bc.bk++kK (eZ ps) st.bk) f=some o->(f∈bK ks/\aV Bc.bk f=some o)\/(f∉bK ks/\aV (kK (eZ ps) st.bk) f=some o):=by
  intro f o ho;rw [LN] at ho;cases hq:aV Bc.bk f with
  |some o2=>simp only [hq,AI] at ho;exact .inl ⟨gp f o2 hq,by rw [ho]⟩
  |none=>simp only [hq] at ho;refine .inr ⟨λhm=> ?_,ho⟩;rw [SP f hm] at ho;cases ho
 let e2:Env:=⟨e.key,φ',E2,e.B,Bc.bk++kK (eZ ps) st.bk⟩
 have vG:lr (λg=>True/\g∉bK ks) (λ_=>True) e e2:=by
  refine ⟨rfl,xA.ph,λ_ _=>rfl,λf o' CF hS=> ?_⟩;rcases lX f o' CF with ⟨h1,_⟩|⟨h1,h2⟩
  ·exact absurd h1 hS.2
  ·exact ⟨o',by rw [h.m];exact (hold f o' h2).1,O2 f h1,rfl⟩
 have Zz:aJ e2 arr.toList lZ:=by
  have ahy:lr (λf=>f∈bK ks) (λ_=>True) ⟨c.key,φ',E,λ_=>e.B root,Bc.bk⟩ ⟨c.key,φ',E2,λ_=>e.B root,Bc.bk++kK (eZ ps) st.bk⟩:=by
   refine ⟨rfl,.refl _,λ_ _=>rfl,λf o' CF hS=> ?_⟩;rcases lX f o' CF with ⟨h1,h2⟩|⟨h1,_⟩
   ·exact ⟨o',h2,zJ f h1,rfl⟩
   ·exact absurd hS h1
  have h1:=rO.on ahy eS;have ahz:lr (λ_=>True) (λ_=>False) ⟨c.key,φ',E2,λ_=>e.B root,Bc.bk++kK (eZ ps) st.bk⟩ e2:=⟨h.key,.refl _,λ_ h=>h.elim,λf o ho _=>⟨o,ho,rfl,rfl⟩⟩
  exact h1.on ahz (λ_ _ _ _=>trivial)
 have hm3:fT lZ=false:=Zz.Ck;have Ny: ∀t,av (cM (nu (bK ks) st.fr) root (.box lZ)) t=if t=root then .box lZ else Dy (bK ks) (av st.fr t):=λt=>by rw [cr,Ig]
 have vK: ∀t ds,av (cM (nu (bK ks) st.fr) root (.box lZ)) t= .box ds-> ∃ds0,av st.fr t= .box ds0:=by
  intro t ds hb;rw [Ny] at hb;by_cases xA:t=root
  ·exact ⟨cs,by rw [xA];exact hf⟩
  ·rw [if_neg xA] at hb;obtain ⟨d0,h1,_⟩:=uU _ hb;exact ⟨d0,h1⟩
 refine ⟨e2,⟨st.df,st.cY,cM (nu (bK ks) st.fr) root (.box lZ),Bc.bk++kK (eZ ps) st.bk⟩,⟨h.defers,h.size,rfl,h.key,?_,?_,?_,?_,?_,?_,?_,hi,λb hb=>h.dm b (acV xA.size hb)⟩,rfl,hK⟩
 ·show (bg (cM (nu (bK ks) st.fr) root (.box lZ))).Nodup;refine fG ?_;rw [Ih];exact h.nodup
 ·intro t;show cz Z e2 w' t _ (av (cM (nu (bK ks) st.fr) root (.box lZ)) t);rw [Ny];by_cases tj:t=root
  ·subst tj;rw [if_pos rfl];exact ⟨hs.1.mG (by rw [xK hm,xK hm3]),hs.2.dm,⟨_,dx,rfl,Zz⟩,r9⟩
  ·rw [if_neg tj];have eR:=h.slot t;have hnb:=PL t;generalize av st.fr t=s at eR hnb;by_cases E8: ∃ds,s= .box ds
   ·obtain ⟨ds,rfl⟩:=E8;rw [PJ];have hz:=hnb ds rfl tj;obtain ⟨o2,h1,h2⟩:=eR.2.obj;refine ⟨eR.1.mG (LM _ _),eR.2.dm,⟨o2,by show w'.heap[e.B t]? =_;rw [xA.heap _ hz (bZ h1)];exact h1,?_⟩,λoff=>by show φ' (e.B t) off=none;rw [xA.free _ off hz];exact eR.2.free off⟩;exact (PK h2).on vG (UT _ (λl _ f _=>trivial))
   ·have ahA:ah e (a.tmps.getD t undef) s:=by cases s<;>simp only [cz] at eR<;>first|exact eR|exact absurd ⟨_,rfl⟩ E8
    have h2:=(ahA.afX (bK ks)).on vG (US _ (ey s));have ZA: ∀ds,Dy (bK ks) s≠ .box ds:=λds hq=>by obtain ⟨d0,h1,_⟩:=uU _ hq;exact E8 ⟨d0,h1⟩
    generalize Dy (bK ks) s=s2 at h2 ZA;cases s2<;>first|exact h2|exact absurd rfl (ZA _)
 ·intro t;show cZ (cM (nu (bK ks) st.fr) root (.box lZ)) (av (cM (nu (bK ks) st.fr) root (.box lZ)) t);have Zl: ∀q,dv (av st.fr q)=true->dv (av (cM (nu (bK ks) st.fr) root (.box lZ)) q)=true:=by
   intro q hq;rw [Ny];by_cases hqr:q=root
   ·rw [if_pos hqr];rfl
   ·rw [if_neg hqr];exact Il _ hq
  rw [Ny];by_cases tj:t=root
  ·rw [if_pos tj];trivial
  ·rw [if_neg tj];refine F8 _ ?_;have qz:=h.root t;generalize av st.fr t=s at qz;cases s with
   |ptr q o=>exact Zl q qz
   |hp q o i=>exact Zl q qz
   |zN q=>exact Zl q qz
   |_=>trivial
 ·intro f o ho;rcases lX f o ho with ⟨h1,h2⟩|⟨h1,h2⟩
  ·have hfm:=(iN f o h2).1;have CJ:f∉Z.cY:=by rw [<-h.defers.2.2.1];exact Im f h1
   refine dH.to ?_ CJ;obtain ⟨I,cells,q1,q2,q3,q4,q5⟩:=hfm.row;refine ⟨I,cells,q1,q2,?_,?_,λb hb=> ?_⟩
   ·show w'.ownsRow 0 o.ty I.size (E2 f) o.xs.length cells;rw [zJ f h1];exact q3
   ·show bx e.key φ' I.size cells o.xs;rw [h.key];exact q4
   ·have hb:(E2 f).ownBlock=some b:=hb;rw [zJ f h1] at hb;exact ⟨vI b (q5 b hb).1,(q5 b hb).2.1,λhc=>hc.elim⟩
  ·obtain ⟨CF,hnf⟩:=hold f o h2;obtain ⟨I,cells,q1,q2,q3,q4,q5⟩:=(h.jN f o CF).row;refine ⟨I,cells,q1,q2,?_,q4.mono xA.ph,?_⟩
   ·show w'.ownsRow 0 o.ty I.size (E2 f) o.xs.length cells;rw [O2 f h1];refine ⟨q3.1,?_⟩;rcases q3.2 with h6|⟨g,cap,dL,k1,k2,k3,k4⟩
    ·exact .inl h6
    ·refine .inr ⟨g,cap,dL,k1,k2,?_,k4⟩;rw [xA.heap g (F9 f o g h2 (by rw [k1];rfl)) (bZ k3)];exact k3
   ·intro bB hb;have hb:(E2 f).ownBlock=some bB:=hb;rw [O2 f h1] at hb;refine ⟨(q5 bB hb).1,λoff u hu=>(q5 bB hb).2.1 off u ?_,λk1 k2 j hj=>xA.ph.Be ((q5 bB hb).2.2 k1 k2 j hj) hj⟩;have hu:φ' bB off=some u:=hu;rw [xA.free _ off (F9 f o bB h2 hb)] at hu;exact hu
 ·intro t t' c1 c2 h1 h2 dG;obtain ⟨d1,k1⟩:=vK t c1 h1;obtain ⟨d2,k2⟩:=vK t' c2 h2;exact h.bb t t' d1 d2 k1 k2 dG
 ·intro t c1 f o h1 h2;show (E2 f).ownBlock≠some (e.B t);rcases lX f o h2 with ⟨k1,k2⟩|⟨k1,k2⟩
  ·rw [zJ f k1];by_cases tj:t=root
   ·rw [tj];exact (iN f o k2).2
   ·obtain ⟨d1,k3⟩:=vK t c1 h1;intro hq;obtain ⟨I,cells,_,_,_,_,q5⟩:=(iN f o k2).1.row;exact PL t d1 k3 tj (q5 _ hq).1
  ·rw [O2 f k1];obtain ⟨d1,k3⟩:=vK t c1 h1;exact h.bf t d1 f o k3 (hold f o k2).1
 ·intro f f' o o' k h1 h2 h3 h4;have h3:(E2 f).ownBlock=some k:=h3;have h4:(E2 f').ownBlock=some k:=h4;rcases lX f o h1 with ⟨k1,k2⟩|⟨k1,k2⟩<;>rcases lX f' o' h2 with ⟨k3,k4⟩|⟨k3,k4⟩
  ·rw [zJ f k1] at h3;rw [zJ f' k3] at h4;exact fK f f' o o' k k2 k4 h3 h4
  ·rw [zJ f k1] at h3;rw [O2 f' k3] at h4;obtain ⟨I,cells,_,_,_,_,q5⟩:=(iN f o k2).1.row;exact absurd (q5 _ h3).1 (F9 f' o' k k4 h4)
  ·rw [O2 f k1] at h3;rw [zJ f' k3] at h4;obtain ⟨I,cells,_,_,_,_,q5⟩:=(iN f' o' k4).1.row;exact absurd (q5 _ h4).1 (F9 f o k k2 h3)
  ·rw [O2 f k1] at h3;rw [O2 f' k3] at h4;exact h.ff f f' o o' k (hold f o k2).1 (hold f' o' k4).1 h3 h4
end
end Dn
/-
  The operation of a call that is handed a variable. Conditions: none.
-/
namespace Dn
open Go
section
variable {P:Program}{c:Ctx}{Z:cb} {Z':Nat->Prop} {e e':Env}{st cO:St}{a:Act} {w w':World}{R:Type}{K:St->Option R}{r:R}{Q:Exit->Act->World->Prop}{o:Oper}
theorem cN.length {key:Nat->Nat} {φ:Ph}{ms:List MV}: ∀{vs:List Value},cN key φ vs ms->vs.length=ms.length:=by
 induction ms with
 |nil=>intro vs h;cases h;rfl
 |cons m ms ih=>intro vs h;obtain ⟨v,u,rfl,_,h2⟩:=h;simp [ih h2]
theorem PM {cl:Call}{g:List MV->Option MV}{pos:Nat}{ks:List LK}{oI:Option TI}{gv:Bool}(hS:Sound P c)(LO:gv=true-> ∀ms x,g ms=some x-> ∃f:Nat,c.g (c.key f) ms=some x/\c.fe (c.key f)=true/\c.sig (c.key f)=some (pos,ks)/\(execOp a.eval o).run P w=(callFunc f (cl.args.map a.eval)).run P w)(h:cG c Z e st a w)(hK:Uz c gv g pos ks st (lq c st cl.args.toList) oI (λs st=>bY c st o.dst s K)=some r): gv=true/\o.wp P a w (λa' w'=>Out c Z K r e.φ w a' w') Q:=by
 unfold Uz at hK;obtain ⟨vs,Cj⟩: ∃vs,vs=cl.args.toList.map a.eval:=⟨_,rfl⟩
 have hlen:vs.length=(lq c st cl.args.toList).length:=by rw [Cj];simp [n0]
 have gm: ∀(i:Nat) (v:Value) (s:Slot),vs[i]? =some v->(lq c st cl.args.toList)[i]? =some s->ah e v s:=by rw [Cj];exact cN.map h
 generalize lq c st cl.args.toList=ss at hK hlen gm;split at hK
 ·rename_i root off fg;have asQ:pos<ss.length:=(aai.1 fg).1;obtain ⟨v,hv⟩: ∃v,vs[pos]? =some v:=⟨vs[pos]'(by omega),aaa (by omega)⟩
  have hvp:v= .pointer (some ⟨e.B root,off,none⟩):=gm pos v _ hv fg;have Io:vs=vs.take pos++v::vs.drop (pos+1):=by
   conv=>lhs;rw [<-aaG pos vs]
   rw [List.drop_eq_getElem_cons (by omega)];have:=aai.1 hv;obtain ⟨_,hv2⟩:=this;rw [hv2]
  obtain ⟨e1,dA,m1,h1,x1,E6,r1,su⟩:=sv h ⟨λ_=>vs.take pos,rfl,by simp only [ae4];omega,λi u s hu hs=>by
   rw [aeE] at hu hs;split at hu
   ·rename_i hi;rw [if_pos hi] at hs;exact gm i u s hu hs
   ·cases hu⟩ hK
  obtain ⟨e2,ei,m2,h2,x2,ac8,r2,zW⟩:=sv h1 ⟨λ_=>vs.drop (pos+1),rfl,by simp only [afq];omega,λi u s hu hs=>by rw [List.getElem?_drop] at hu hs;exact (gm _ u s hu hs).on x1.on (ey s)⟩ su;split at zW
  ·rename_i cs hf;cases mW:fT cs||bX ei.df root||!je c ks||!gv with
   |true=>simp [mW] at zW
   |false=>
   simp only [mW,cond_false] at zW;simp only [By,aaJ] at mW;obtain ⟨⟨⟨hm,hr⟩,kI⟩,hg⟩:=mW;obtain ⟨ls,ps,ht,H9⟩:=CP zW;simp only [xH] at H9;obtain ⟨x,hx,hK4⟩:=qA H9;unfold gW at hK4;split at hK4;rotate_left
   ·simp at hK4
   rename_i r0 outs;have hB:e2.B root=e.B root:=(x2.on.B root trivial).trans (x1.on.B root trivial);let Z2:Nat->Prop:=λb=>w.heap.size<=b\/gone e2 root ps b;have Bh:m1.length=pos:=by rw [<-r1.length,ae4];omega
   have akw:e2.key=c.key:=h2.key;obtain ⟨f,hx,Yi,B3,cC⟩:=LO hg _ _ hx;have gn:fU c Z2 e2.φ w (c.key f) vs (m1++ .cell (.func off ls)::m2):=by
    simp only [fU,Yi,if_true];refine .inr (.inr ⟨pos,ks,off,ls,e2.B root,B3,by rw [hv,hvp,hB],by rw [acw (by omega),Bh];simp,?_,(Ic h2 hf hm kI ht).wide λb hb=> .inr hb⟩);rw [List.set_append_right _ _ (by omega),Bh,Nat.sub_self,List.set_cons_zero,Io];refine cN.append ?_ ⟨v,vs.drop (pos+1),rfl,?_,?_⟩
    ·have:=r1.mono x2.on.φ;rw [h1.key] at this;exact this
    ·rw [hvp];exact ⟨rfl,.rp (e.B root) off [] [] .nil (by simp)⟩
    ·rw [<-akw];exact r2
   have zb:=hS f _ _ hx e2.φ w Z2 vs (λb hb=> .inl hb) gn h2.qe;refine ⟨hg,?_⟩;have GP:vs.toArray=cl.args.map a.eval:=by rw [Cj,<-adF,abT]
   refine wD ?_ zb ?_
   ·rw [GP];exact cC
   ·rintro v' w' ⟨φ',t1,t2,z6,pos',ks',bB,V7,Bi,Yb,hc⟩;rw [B3] at Bi;simp only [AI,aaf] at Bi;obtain ⟨rfl,rfl⟩:=Bi;rw [hv,hvp] at Yb;simp only [AI,aeB,Addr.mk.injEq] at Yb;have mI:bB=e2.B root:=by rw [<-Yb.1,hB]
    subst mI;obtain ⟨e3,np,h3,hφ3,hK5⟩:=Zx h2 hf hm hr ht (λb=>Iff.rfl) t1 t2 hc hK4;have xA:Trans Z e.φ w φ' w':=by
     have t0:Trans Z e2.φ w φ' w':=by have vI: ∀b,Z2 b->Z.In b:=λb hb=>hb.elim (h2.dm b) (DA h2 hf hr ht b);exact ⟨t1.ph,λb hb=>t1.heap b (λhz=>hb (vI b hz)),λb o hb=>t1.free b o (λhz=>hb (vI b hz)),t1.size,t1.rest⟩
     exact (x1.tr.trans x2.tr).trans t0
    cases oI with
    |none=>simp only at hK5;obtain ⟨e4,st4,q1,q2,q3⟩:=ew (v:=v') (s:= .sc .un) h3 (.of (by simp [ah]) trivial) hK5;exact ⟨e4,st4,q1,by rw [q3,hφ3];exact xA,q2⟩
    |some I=>simp only at hK5;obtain ⟨s,g1,g2,hK6⟩:=xP (e:=e3) (st:=np) h3.key (by rw [hφ3];exact z6) hK5;obtain ⟨e4,st4,q1,q2,q3⟩:=ew h3 (.of g1 g2) hK6;exact ⟨e4,st4,q1,by rw [q3,hφ3];exact xA,q2⟩
  ·simp at zW
 ·simp at hK
theorem ads {cl:Call}{f pos:Nat}{ks:List LK}{oI:Option TI}(hS:Sound P c)(B3:c.sig (c.key f)=some (pos,ks))(ho:o.op= .call cl)(r8:cl.callee= .value (.func f))(h:cG c Z e st a w)(hK:afG c (c.key f) pos ks st (lq c st cl.args.toList) oI (λs st=>bY c st o.dst s K)=some r): c.fe (c.key f)=true/\o.wp P a w (λa' w'=>Out c Z K r e.φ w a' w') Q:=PM hS (λhg ms x hx=>⟨f,hx,hg,B3,by simp [execOp,ho,resolve,r8,Act.eval,acK,invoke]⟩) h hK
theorem SQ: ∀{l m:List LK},YC l m=true->l=m
 |[],[],_=>rfl
 | .k k1::r,.k k2::q,h=>by simp only [YC,sh] at h;rw [SQ h.2];have h1:=h.1;cases k1<;>cases k2<;>simp [kdB,kB] at h1<;>first|rfl|(subst h1;rfl)
 | .own f t z::r,.own f' t' z'::q,h=>by simp only [YC,sh,gj,decide_eq_true_eq,beq_iff_eq] at h;obtain ⟨rfl,rfl,rfl,h⟩:=h;rw [SQ h]
 |[],_::_,h=>by simp [YC] at h
 | .k _::_,[],h=>by simp [YC] at h
 | .k _::_,.own _ _ _::_,h=>by simp [YC] at h
 | .own _ _ _::_,[],h=>by simp [YC] at h
 | .own _ _ _::_,.k _::_,h=>by simp [YC] at h
theorem ZB {pos:Nat}{ks:List LK}{l:List Nat}(h:Pe c pos ks l=true): ∀k∈l,c.sig k=some (pos,ks)/\c.fe k=true:=by
 induction l with
 |nil=>simp
 |cons x l ih=>
  simp only [Pe,sh] at h;obtain ⟨h1,h2,h3⟩:=h;intro k hk;rcases AS.1 hk with rfl|hk
  ·refine ⟨?_,h2⟩;cases hs:c.sig k with
   |none=>rw [hs] at h1;cases h1
   |some sg=>rw [hs] at h1;simp only [sh] at h1;obtain ⟨p,q⟩:=sg;have e1:p=pos:=c8 h1.1;have e2:q=ks:=SQ h1.2;rw [e1,e2]
  ·exact ih h3 k hk
theorem ahD {R:Type}{r:R}{l:List Nat}{k:Nat}{K:Nat->Option R}(h:KD l k K=some r):k∈l/\K k=some r:=by
 induction l with
 |nil=>simp [KD] at h
 |cons p l ih=>
  cases l with
  |nil=>
   unfold KD at h;cases hb:AT k p with
   |false=>rw [hb] at h;cases h
   |true=>rw [hb] at h;have:=c8 hb;subst this;exact ⟨by simp,h⟩
  |cons q l=>
   unfold KD at h;cases hb:AT k p with
   |false=>rw [hb] at h;obtain ⟨h1,h2⟩:=ih h;exact ⟨IT _ h1,h2⟩
   |true=>rw [hb] at h;have:=c8 hb;subst this;exact ⟨by simp,h⟩
theorem adt {cl:Call}{x:Operand}{V6:List Nat}{oI:Option TI}(hS:Sound P c)(ho:o.op= .call cl)(r8:cl.callee= .value x)(h:cG c Z e st a w)(hK:YD c V6 st (bw c st x) (lq c st cl.args.toList) oI (λs st=>bY c st o.dst s K)=some r): o.wp P a w (λa' w'=>Out c Z K r e.φ w a' w') Q:=by
 obtain ⟨hx,_⟩:=h.eval x;generalize bw c st x=s at hx hK;unfold YD at hK;split at hK
 ·rename_i m k0 aky;simp only [ah,bp] at hx;cases hs0:c.sig k0 with
  |none=>simp [hs0] at hK
  |some sg=>
  obtain ⟨pos,ks⟩:=sg;simp only [hs0] at hK;cases E8:Pe c pos ks (k0::aky) with
  |false=>simp [E8] at hK
  |true=>
  simp only [E8,cond_true] at hK;unfold Sd at hK;split at hK
  ·rename_i f cE;cases cE with
   |cons=>simp [gN] at hK
   |nil=>
   simp only [gN] at hK;obtain ⟨f',cap,hv,CO,E7,jO⟩: ∃(f':Nat) (cap:Array Value),a.eval x= .func (.func f') #[] cap/\e.key f'=f/\jj e.key e.φ cap.toList []/\ ∀m∈([]:List MV),m.one=true:=by obtain ⟨_,hx⟩:=hx;generalize Cj:[a.eval x]=vs at hx;cases hx;rename_i f' cap h1 h2 h3;exact ⟨f',cap,by simpa using Cj,h1,h2,h3⟩
   have akz:cap= #[]:=by generalize hl:cap.toList=l at E7;cases E7;exact acL.1 hl
   subst akz;have LJ:c.key f'=f:=by rw [<-h.key];exact CO
   exact (PM hS (λ_ ms y hy=>by obtain ⟨hm,hy⟩:=ahD hy;obtain ⟨h1,h2⟩:=ZB E8 f hm;refine ⟨f',by rw [LJ];exact hy,by rw [LJ];exact h2,by rw [LJ];exact h1,?_⟩;simp [execOp,ho,resolve,r8,hv,acK,invoke]) h hK).2
  ·simp at hK
 ·simp at hK
end
end Dn
/-
  Every operation. Conditions: none.
-/
namespace Dn
open Go
section
variable {P:Program}{c:Ctx} {Z Z':cb} {e e':Env}{st:St}{a:Act} {w w':World}{R:Type}{K:St->Option R}{r:R}{Q:Exit->Act->World->Prop}{o:Oper}
structure Good (P:Program) (c:Ctx):Prop where
 ti:lV P c.ti
 eq:Sw P c.ti
 fn:Sound P c
 fk: ∀t k,c.fk t=some k->P.underlying t=some (.float k)
 mt:Fb P c
def adu (c:Ctx)(o:Oper):Option MS:=match acT o with|some t=>V5 c t|none=>none
def iq (c:Ctx)(o:Oper) (w w':World):Prop:=match adu c o with|some s=>F6 s w w'|none=>eG w w'
theorem eG.trans' {w w' Bf:World}(h:eG w w') (h':eG w' Bf):eG w Bf:=⟨acV h.size h'.size,λb hb=>(h'.Bg b (Nat.lt_of_lt_of_le hb h.size)).trans (h.Bg b hb),h.rest.trans h'.rest⟩
theorem eG.for {w w':World}(h:eG w w'):iq c o w w':=by
 unfold iq;split
 ·exact h.m _
 ·exact h
theorem iq.trans {w w' Bf:World}(h:iq c o w w') (h':iq c o w' Bf):iq c o w Bf:=by
 unfold iq at *;split at h
 ·rename_i s hs;simp only [hs] at h'⊢;exact F6.trans h h'
 ·rename_i hs;simp only [hs] at h'⊢;exact eG.trans' h h'
inductive qh (P:Program) (c:Ctx) (Z:cb) {R:Type} (K:St->Option R) (r:R) (e:Env) (a:Act) (w:World) (o:Oper) (Q:Exit->Act->World->Prop):Prop
 |rd:(oL c o=false/\oT c o=false)->Rd P c Z K r e a w o (λ_=>True)->qh P c Z K r e a w o Q
 |ld:(oL c o=true/\oT c o=false)->Co e.φ w->Rd P c Z K r e a w o (λw'=>(still c o=false->iq c o w w')/\Co e.φ w')->qh P c Z K r e a w o Q
 |gr:(uA o=false\/oT c o=true)->o.wp P a w (λa' w'=>eG w w'/\Out c Z K r e.φ w a' w') Q->qh P c Z K r e a w o Q
 |cl (f:Nat):(uA o=false/\GK c o=!c.fe (c.key f))->o.wp P a w (λa' w'=>(c.fe (c.key f)=false->eG w w')/\Out c Z K r e.φ w a' w') Q->qh P c Z K r e a w o Q
 |an:(uA o=false/\GK c o=false)->o.wp P a w (Out c Z K r e.φ w) Q->qh P c Z K r e a w o Q
 |me (t:Nat) (s:MS):agY o=some t->V5 c t=some s->(uA o=false/\GK c o=false)->o.wp P a w (λa' w'=>F6 s w w'/\Out c Z K r e.φ w a' w') Q->qh P c Z K r e a w o Q
theorem SR (hG:Good P c)(h:cG c Z e st a w)(hK:opK c o st (λs st=>bY c st o.dst s K)=some r):qh P c Z K r e a w o Q:=by
 have hT:=hG.ti;unfold opK at hK;split at hK
 ·rename_i ho;exact .rd ⟨by simp [oL,uz, *],by simp [oT, *]⟩ (Nl (.inl ho) h hK)
 ·rename_i x ho;cases hm:oT c o with
  |true=>exact .gr (.inr hm) (ado ho h hK)
  |false=>
   refine .rd ⟨by simp [oL,uz, *],hm⟩ (Nl (.inr ho) h ?_);unfold Hg at hK;unfold oT at hm;rw [ho] at hm;split at hK
   ·rename_i t q hq;rw [hq] at hm;simp at hm
   ·exact hK
 ·rename_i ho;exact .rd ⟨by simp [oL,uz, *],by simp [oT, *]⟩ (Pp ho h hK)
 ·rename_i ho;exact .rd ⟨by simp [oL,uz, *],by simp [oT, *]⟩ (acX ho h hK)
 ·rename_i t ho;cases hI:c.tv t with
  |none=>simp [hI] at hK
  |some I=>simp only [hI] at hK;exact .gr (.inl (by simp [uA, *])) (YY ho hI hT h hK)
 ·rename_i t x ho;cases hI:c.tv t with
  |none=>simp [hI] at hK
  |some I=>simp only [hI] at hK;exact .gr (.inl (by simp [uA, *])) (ahd ho h hK)
 ·rename_i t parts ho;cases hI:c.tv t with
  |none=>simp [hI] at hK
  |some I=>simp only [hI] at hK;exact .rd ⟨by simp [oL,uz, *],by simp [oT, *]⟩ (Ze ho hI hT h hK)
 ·rename_i t n parts ho;cases hI:c.tv t with
  |none=>simp [hI] at hK
  |some I=>
   simp only [hI] at hK;cases hL:I.Dd with
   |false=>simp [hL] at hK
   |true=>
    simp only [hL,cond_true] at hK;cases hE:c.tv I.elem with
    |none=>simp [hE] at hK
    |some E=>
     simp only [hE] at hK;cases oN:acF (n *E.size) 16777216 with
     |false=>simp [oN] at hK
     |true=>simp only [oN,cond_true] at hK;exact .gr (.inl (by simp [uA, *])) (KJ ho hI hL hE hT h oN hK)
 ·rename_i t x ho;cases hI:c.tv t with
  |none=>simp [hI] at hK
  |some I=>
   simp only [hI] at hK;cases hs:still c o with
   |true=>
    simp only [hs,cond_true] at hK;split at hK
    ·rename_i cs off H2;obtain ⟨v,h1,h2⟩:=YX ho hI hT h H2 hK;exact .ld ⟨by simp [oL,uz, *],by simp [oT, *]⟩ h.qe ⟨v,λw' hw=>h1 w' hw.2,h2⟩
    ·simp at hK
   |false=>simp only [hs,cond_false] at hK;obtain ⟨v,h1,h2⟩:=ac2 ho hI hT h hK;refine .ld ⟨by simp [oL,uz, *],by simp [oT, *]⟩ h.qe ⟨v,λw' hw=>h1 w' ?_,h2⟩;have:=hw.1 hs;simpa [iq,adu,acT,ho] using this
 ·rename_i t x y ho;cases hI:c.tv t with
  |none=>simp [hI] at hK
  |some I=>simp only [hI] at hK;exact .an (by simp [uA,GK, *]) (Y9 ho hI hT h hK)
 ·rename_i op t x y t' ho;exact .rd ⟨by simp [oL,uz, *],by simp [oT, *]⟩ (YW ho h hG.eq hK)
 ·rename_i ho;exact .rd ⟨by simp [oL,uz, *],by simp [oT, *]⟩ (acY ho h hK)
 ·rename_i s t x ho;cases hL:isLT c s with
  |true=>
   simp only [hL,cond_true] at hK;cases hY:c.tv s with
   |none=>simp [hY] at hK
   |some Y=>
    cases hI:c.tv t with
    |none=>simp [hY,hI] at hK
    |some I=>
     simp only [hY,hI] at hK;obtain ⟨v,h1,h2⟩:=Zr ho hY hI (by simpa [isLT,hY] using hL) hT h hK;refine .ld ⟨by simp [oL,uz,ho,hL],by simp [oT,ho]⟩ h.qe ⟨v,λw' hw=>h1 w' ?_,h2⟩;have hs:still c o=false:=by simp [still,ho]
     have:=hw.1 hs;simpa [iq,adu,acT,ho] using this
  |false=>
   simp only [hL,cond_false] at hK;cases hS:c.ti s with
   |none=>simp [hS] at hK
   |some S=>
    simp only [hS] at hK;cases hI:c.tv t with
    |none=>simp [hI] at hK
    |some I=>simp only [hI] at hK;obtain ⟨d,i,h1,_⟩:=hT s S hS;exact .rd ⟨by simp [oL,uz,ho,hL],by simp [oT,ho]⟩ (Sv ho (cc hI).1 hT ⟨d,h1⟩ (hG.fk t) h hK)
 ·rename_i t x ho;cases hI:c.tv t with
  |none=>simp [hI] at hK
  |some I=>simp only [hI] at hK;exact .an (by simp [uA,GK, *]) (Zq ho hI hT h hK)
 ·rename_i x ho;exact .an (by simp [uA,GK, *]) (adp ho h hK)
 ·rename_i f first cE ho
  split at hK
  ·rename_i hf;have hf:first= #[]:=by apply acL.1;simpa using hf
   subst hf;exact .rd ⟨by simp [oL,uz, *],by simp [oT, *]⟩ (PE ho h hK)
  ·simp at hK
 ·rename_i t x lo hi ho;cases hI:c.tv t with
  |none=>simp [hI] at hK
  |some I=>simp only [hI] at hK;exact .rd ⟨by simp [oL,uz, *],by simp [oT, *]⟩ (Y5 ho hI hT h hK)
 ·rename_i t x f ho;cases hI:c.tv t with
  |none=>simp [hI] at hK
  |some I=>simp only [hI] at hK;exact .rd ⟨by simp [oL,uz, *],by simp [oT, *]⟩ (Wd ho hI hT h hK)
 ·rename_i t x f ho;cases hI:c.tv t with
  |none=>simp [hI] at hK
  |some I=>simp only [hI] at hK;exact .rd ⟨by simp [oL,uz, *],by simp [oT, *]⟩ (ahg ho hI hT h hK)
 ·rename_i t x y ho;cases hI:c.tv t with
  |none=>simp [hI] at hK
  |some I=>
   simp only [hI] at hK;cases hE:c.tv I.elem with
   |none=>simp [hE] at hK
   |some E=>simp only [hE] at hK;exact .rd ⟨by simp [oL,uz, *],by simp [oT, *]⟩ (ahi ho hI hE hT h hK)
 ·rename_i t x y ho;cases hI:c.tv t with
  |none=>simp [hI] at hK
  |some I=>simp only [hI] at hK;exact .rd ⟨by simp [oL,uz, *],by simp [oT, *]⟩ (aj1 ho (cc hI).1 hT h hK)
 ·rename_i ho;exact .rd ⟨by simp [oL,uz, *],by simp [oT, *]⟩ (ahb ho h hK)
 ·rename_i cl ho;split at hK
  ·rename_i f r8;cases hsg:c.sig (c.key f) with
   |some sg=>obtain ⟨pos,ks⟩:=sg;simp only [hsg] at hK;obtain ⟨hg,hw⟩:=ads hG.fn hsg ho r8 h hK;exact .an (by simp [uA,GK,ho,r8,hg]) hw
   |none=>
   simp only [hsg] at hK;cases hI:c.ti o.type with
   |none=>simp [hI] at hK
   |some I=>simp only [hI] at hK;exact .cl f (by simp [uA,GK, *]) (adl hG.fn ho r8 h hK)
  ·rename_i x _ r8;cases hdy:c.dyn with
   |cons k0 V6=>simp only [hdy] at hK;exact .an (by simp [uA,GK,ho,r8,hdy]) (adt hG.fn ho r8 h hK)
   |nil=>
   simp only [hdy] at hK;cases hI:c.ti o.type with
   |none=>simp [hI] at hK
   |some I=>simp only [hI] at hK;exact .gr (.inl (by simp [uA, *])) (aht hG.fn ho r8 h hK)
  ·rename_i r8;split at hK
   ·rename_i t Df;cases hI:c.tv t with
    |none=>simp [hI] at hK
    |some I=>simp only [hI] at hK;exact .rd ⟨by simp [oL,uz, *],by simp [oT, *]⟩ (ahh ho r8 Df hI hT h hK)
   ·simp at hK
  ·rename_i r8;split at hK
   ·rename_i s x t t' H2 Df;cases hI:c.tv t with
    |none=>simp [hI] at hK
    |some I=>
     simp only [hI] at hK;cases hL:I.Dd with
     |false=>simp [hL] at hK
     |true=>
      simp only [hL,cond_true] at hK;cases hE:c.tv I.elem with
      |none=>simp [hE] at hK
      |some E=>
       simp only [hE] at hK;obtain ⟨so,xo,gn,rfl,rfl⟩: ∃so xo,cl.args.toList=[so,xo]/\bw c st so=s/\bw c st xo=x:=by
        rw [n0] at H2;match hl:cl.args.toList,H2 with
        |[so,xo],H2=>simp at H2;exact ⟨so,xo,rfl,H2.1,H2.2⟩
        |[],H2=>simp at H2
        |[_],H2=>simp at H2
        |_::_::_::_,H2=>simp at H2
       exact .an (by simp [uA,GK,r8,ho]) (Wk ho r8 gn Df hI hL hE hT h hK)
   ·simp at hK
  ·rename_i r8;cases hm:Sg false (lq c st cl.args.toList) with
   |none=>simp [hm] at hK
   |some m=>simp only [hm] at hK;exact .rd ⟨by simp [oL,uz, *],by simp [oT, *]⟩ (LG (mx:=false) ho r8 h hm hK)
  ·rename_i r8;cases hm:Sg true (lq c st cl.args.toList) with
   |none=>simp [hm] at hK
   |some m=>simp only [hm] at hK;exact .rd ⟨by simp [oL,uz, *],by simp [oT, *]⟩ (LG (mx:=true) ho r8 h hm hK)
  ·simp at hK
 ·simp at hK
theorem qh.wp (h:qh P c Z K r e a w o Q):o.wp P a w (Out c Z K r e.φ w) Q:=by
 cases h with
 |rd _ h=>exact h.wp trivial
 |ld _ hi h=>exact h.wp ⟨λ_=>(eG.refl w).for,hi⟩
 |me _ _ _ _ _ h=>exact adQ (λa w h=>h.2) h
 |gr _ h=>exact adQ (λa w h=>h.2) h
 |cl f _ h=>exact adQ (λa w h=>h.2) h
 |an _ h=>exact h
theorem qh.aoI (h:qh P c Z K r e a w o Q)(hr:uA o=true)(hv:oT c o=false):Rd P c Z K r e a w o (λw'=>oL c o=true->(still c o=false->iq c o w w')/\Co e.φ w'):=by
 cases h with
 |rd hl h=>obtain ⟨v,h1,h2⟩:=h;exact ⟨v,λw' _=>h1 w' trivial,h2⟩
 |ld hl _ h=>obtain ⟨v,h1,h2⟩:=h;exact ⟨v,λw' hg=>h1 w' (hg hl.1),h2⟩
 |gr hn h=>rw [hr,hv] at hn;simp at hn
 |me _ _ _ _ hn h=>rw [hr] at hn;cases hn.1
 |cl f hn h=>rw [hr] at hn;cases hn.1
 |an hn h=>rw [hr] at hn;cases hn.1
theorem qh.aoJ (h:qh P c Z K r e a w o Q)(hr:uA o=true\/GK c o=true):o.wp P a w (λa' w'=>eG w w'/\Out c Z K r e.φ w a' w') Q:=by
 have rd: ∀G:World->Prop,G w->Rd P c Z K r e a w o G->o.wp P a w (λa' w'=>eG w w'/\Out c Z K r e.φ w a' w') Q:=by rintro G hG ⟨v,h1,h2⟩;unfold agi;rw [h1 w hG,afK];exact ⟨.refl w,h2⟩
 cases h with
 |rd hl h=>exact rd _ trivial h
 |ld _ hi h=>exact rd _ ⟨λ_=>(eG.refl w).for,hi⟩ h
 |me _ _ _ _ hn h=>
  rcases hr with hr|hr
  ·rw [hr] at hn;cases hn.1
  ·rw [hr] at hn;cases hn.2
 |gr hn h=>exact h
 |cl f hn h=>
  rcases hr with hr|hr
  ·rw [hr] at hn;cases hn.1
  ·rw [hn.2] at hr;exact adQ (λa w h=>⟨h.1 (by simpa using hr),h.2⟩) h
 |an hn h=>
  rcases hr with hr|hr
  ·rw [hr] at hn;cases hn.1
  ·rw [hr] at hn;cases hn.2
theorem akA (hG:Good P c)(h:cG c Z e st a w)(hK:opK c o st (λs st=>bY c st o.dst s K)=some r){oi:Oper}(hr:Ch oi o=true):o.wp P a w (λa' w'=>iq c oi w w'/\Out c Z K r e.φ w a' w') Q:=by
 unfold Ch at hr;split at hr
 ·rename_i t t' h1 h2;have ht:=c8 hr;subst ht;have hme: ∃m k,o.op= .mapEntry t m k:=by
   unfold agY at h2;split at h2
   ·rename_i u m k ho;cases h2;exact ⟨m,k,ho⟩
   ·cases h2
  obtain ⟨m,k,ho⟩:=hme;unfold opK at hK;simp only [ho] at hK;cases hK
 ·cases hr
end
end Dn
/-
  Guards; operations one behind the other. Conditions: none.
-/
namespace Dn
open Go
section
variable {P:Program}{c:Ctx} {Z Z':cb} {e e':Env}{st:St}{a:Act} {w w':World}{R:Type}{K:St->Option R}{r:R}{Q:Exit->Act->World->Prop}{o:Oper}
theorem cG.frame {qd:Fr}(h:cG c Z e st a w)(hf: ∀t,av qd t=av st.fr t)(hn:(bg qd).Nodup):cG c Z e {st with fr:=qd} a w:=by
 have hr: ∀s,cZ st.fr s->cZ qd s:=by intro s hs;cases s<;>simp only [cZ,hf] at hs⊢ <;>exact hs
 exact ⟨h.defers,h.size,h.m,h.key,hn,λt=>by show cz Z e w t _ (av qd t);rw [hf];exact h.slot t,λt=>by show cZ qd (av qd t);rw [hf];exact hr _ (h.root t),h.jN,λt t' cs gK h1 h2=>h.bb t t' cs gK (by rw [<-hf];exact h1) (by rw [<-hf];exact h2),λt cs f o h1=>h.bf t cs f o (by rw [<-hf];exact h1),h.ff,h.qe,h.dm⟩
theorem cG.reset {t:Nat}{s:Slot}(h:cG c Z e st a w)(hs:av st.fr t=s):cG c Z e {st with fr:=cM st.fr t s} a w:=by
 refine h.frame (λt'=> ?_) (fG h.nodup);rw [cr];by_cases ht:t'=t
 ·subst ht;simp [hs]
 ·simp [ht]
theorem PN {ops:Array Oper} {K':Bool->St->Option R}(h:cG c Z e st a w)(hK:Sj ops.toList o st K'=some r): ∃cO go,cG c Z e cO a w/\K' go cO=some r/\af1 o (yielded ops a.tmps)=go:=by
 unfold Sj at hK;unfold af1;cases hg:o.guard with
 |none=>simp only [hg] at hK;exact ⟨st,true,h,hK,rfl⟩
 |some jw=>
  obtain ⟨j,want⟩:=jw;simp only [hg] at hK;cases hp:ops.toList[j]? with
  |none=>simp [hp] at hK
  |some p=>
   simp only [hp] at hK;have Nr:ops[j]? =some p:=by simpa using hp
   cases hd:p.dst with
   |none=>simp [hd] at hK
   |some t=>
    simp only [hd] at hK;have oW:=h.slot t;split at hK
    ·rename_i v hv;rw [hv] at oW;have SS:a.tmps.getD t undef= .bool v:=HZ oW;have hy:yielded ops a.tmps j=some v:=by
      unfold yielded;have:a.tmps[t]? =some (.bool v):=by
       rw [aaI] at SS;cases ht:a.tmps[t]? with
       |none=>rw [ht] at SS;simp [undef] at SS
       |some u=>rw [ht] at SS;simpa using SS
      simp [Nr,hd,this]
     simp only [hy];cases v<;>simp only [nL] at hK
     ·exact ⟨_,_,h.reset hv,hK,by cases want<;>rfl⟩
     ·exact ⟨_,_,h.reset hv,hK,by cases want<;>rfl⟩
    ·rename_i hv;rw [hv] at oW;simp only [cz,ah] at oW;have hy:yielded ops a.tmps j=none:=by
      unfold yielded;rw [aaI] at oW;cases ht:a.tmps[t]? with
      |none=>simp [Nr,hd,ht]
      |some u=>rw [ht] at oW;simp at oW;subst oW;simp [Nr,hd,ht,undef]
     simp only [hy];exact ⟨st,false,h,hK,by cases want<;>rfl⟩
    ·simp at hK
theorem UU {ops:Array Oper}{i:Nat}(hG:Good P c)(hi:ops[i]? =some o)(h:cG c Z e st a w)(hK:UA c ops.toList o st K=some r): wpOp P ops Q i (Out c Z K r e.φ w) a w:=by
 unfold UA at hK;obtain ⟨cO,go,h',hK,hw⟩:=PN h hK;unfold wpOp;simp only [hi];rw [hw];cases go with
 |true=>simp only [cond_true] at hK;simp only [if_true];exact .inl (SR hG h' hK).wp
 |false=>simp only [cond_false] at hK;simp only [aaH,if_false];obtain ⟨e2,ei,h1,h2,h3⟩:=ew (v:=undef) (s:= .skip) h' ⟨rfl,trivial⟩ hK;exact ⟨e2,ei,h1,by rw [h3];exact .refl _ _ _,h2⟩
theorem ahF {ops:Array Oper}{is:List Nat}(hG:Good P c): ∀{os:List Oper}{e:Env}{st:St}{a:Act}{w:World},is.map (ops[·]?)=os.map some->cG c Z e st a w->BZ c ops.toList os st K=some r-> ∀{φ0:Ph}{w0:World},Trans Z φ0 w0 e.φ w->(∀a' w',Out c Z K r φ0 w0 a' w'->Q .normal a' w')->wpOps P ops Q is a w:=by
 induction is with
 |nil=>
  intro os e st a w hm h hK φ0 w0 ht hQ;cases os with
  |nil=>exact hQ a w ⟨e,st,h,ht,hK⟩
  |cons=>simp at hm
 |cons i is ih=>
  intro os e st a w hm h hK φ0 w0 ht hQ;cases os with
  |nil=>simp at hm
  |cons o os=>simp only [acB,aaj] at hm;simp only [BZ] at hK;rw [wpOps_cons];refine wpOp_mono ?_ (UU hG hm.1 h hK);rintro a' w' ⟨e2,ei,h1,h2,h3⟩;exact ih hm.2 h1 h3 (ht.trans h2) hQ
end
end Dn
/-
  Parts of a state. Conditions: none.
-/
namespace Dn
open Go
section
variable {P:Program}{c:Ctx}{Z Zi:cb} {e e':Env}{st cO:St}{a:Act} {w w':World}{R:Type}{K:St->Option R}{r:R}{Q:Exit->Act->World->Prop}{o:Oper}
theorem Wp {fs:List Nat}: ∀{e:Env}{st:St},cG c Z e st a w->(∀f∈fs,∀o,aV st.bk f=some o->f∉Z.cY\/o.eT=true)-> ∃φ' m',sn e.φ φ'/\(∀b off,¬Z.In b->φ' b off=e.φ b off)/\cG c Z {e with φ:=φ',m:=m'} {st with bk:=m'} a w/\ (∀f,aV m' f=(aV st.bk f).map λo=>if f∈fs then ⟨o.ty,true,o.xs⟩ else o)/\ (∀f∈fs,∀o I cells,aV st.bk f=some o->c.ti o.ty=some I->w.ownsRow 0 o.ty I.size (e.E f) o.xs.length cells-> ∀bB,(e.E f).ownBlock=some bB-> ∀j,j<cells.length->φ' bB j=cells[j]?):=by
 induction fs with
 |nil=>
  intro e st h _;refine ⟨e.φ,st.bk,.refl _,λ_ _ _=>rfl,?_,λf=>by cases aV st.bk f<;>simp,λf hf=>by simp at hf⟩;have hm:e.m=st.bk:=h.m;have he:({e with φ:=e.φ,m:=st.bk}:Env)=e:=by cases e;simp at hm⊢;exact hm.symm
  rw [he];exact h
 |cons g gs ih=>
  intro e st h hp;cases hg:aV st.bk g with
  |none=>
   obtain ⟨φ',m',h1,h2,h3,h4,h5⟩:=ih h (λf hf=>hp f (by simp [hf]));refine ⟨φ',m',h1,h2,h3,λf=> ?_,λf hf o I cells ho=> ?_⟩
   ·rw [h4];by_cases O3:f=g
    ·subst O3;rw [hg];rfl
    ·simp [O3]
   ·rcases AS.1 hf with rfl|hf
    ·rw [hg] at ho;cases ho
    ·exact h5 f hf o I cells ho
  |some og=>
   obtain ⟨φ1,k1,k2,k3,_,k5⟩:=freeze h hg (hp g (by simp) og hg);obtain ⟨φ',m',h1,h2,h3,h4,h5⟩:=ih k3 (by
    intro f hf o ho;have ho:aV (cw st.bk g ⟨og.ty,true,og.xs⟩) f=some o:=ho;rw [bG] at ho;by_cases O3:f=g
    ·rw [if_pos O3] at ho;cases ho;exact .inr rfl
    ·rw [if_neg O3] at ho;exact hp f (by simp [hf]) o ho)
   refine ⟨φ',m',k1.trans h1,λb off hb=>(h2 b off hb).trans (k2 b off hb),h3,λf=> ?_,λf hf o I cells ho hI eS bB hb j hj=> ?_⟩
   ·rw [h4];show Option.map _ (aV (cw st.bk g ⟨og.ty,true,og.xs⟩) f)=_;rw [bG];by_cases O3:f=g
    ·subst O3;simp [hg]
    ·simp [O3]
   ·by_cases O3:f=g
    ·subst O3;rw [hg] at ho;cases ho;exact h1.Be (k5 I cells hI eS bB hb j hj) hj
    ·rcases AS.1 hf with rfl|hf
     ·exact absurd rfl O3
     ·refine h5 f hf o I cells ?_ hI eS bB hb j hj;show aV (cw st.bk g ⟨og.ty,true,og.xs⟩) f=_;rw [bG,if_neg O3];exact ho
end
end Dn
/-
  What a piece of code begins with, and what stays as it was behind it. Conditions: none.
-/
namespace Dn
open Go
theorem uV {l k:List Nat}(h:meets l k=false): ∀x∈l,x∉k:=by
 induction l with
 |nil=>simp
 |cons y l ih=>
  simp only [meets] at h;cases hm:bX k y with
  |true=>simp [hm] at h
  |false=>
   simp only [hm,cond_false] at h;intro x hx;rcases AS.1 hx with rfl|hx
   ·rw [<-b8,hm];simp
   ·exact ih h x hx
theorem Ip {ks:List Nat}{r:Fr}: ∀t∈bg (oU ks r),t∈ks:=by
 induction r with
 |nil=>simp [bg,oU]
 |cons p r ih=>
  obtain ⟨k,x⟩:=p;simp only [oU];cases hb:bX ks k&&!dW x with
  |false=>simpa using ih
  |true=>
   simp only [sh] at hb;intro t ht;simp only [cond_true,bg,acB,AS] at ht;rcases ht with rfl|ht
   ·exact (b8 _ _).1 hb.1
   ·exact ih t ht
theorem LP {qs:List Nat}{r:Fr}:bg (Sq qs r)=bg r:=by simp [bg,Sq]
theorem Ga {ks fs qs:List Nat}{m:List (Nat×oS)}{f:Nat}: aV (te ks fs qs m) f=if f∈ks then (aV m f).map λo=>if f∈fs/\f∉qs then ⟨o.ty,true,o.xs⟩ else o else none:=by
 induction m with
 |nil=>simp [te,aV]
 |cons p m ih=>
  obtain ⟨k,o⟩:=p;simp only [te];by_cases hk:k=f
  ·subst hk;cases hm:bX ks k with
   |false=>
    have:k∉ks:=by rw [<-b8,hm];simp
    simp only [cond_false,ih,this,if_false]
   |true=>
    have:k∈ks:=(b8 _ _).1 hm;simp only [cond_true,this,if_true,aV,gj,decide_true];cases hc:bX fs k&&!bX qs k with
    |true=>
     simp only [sh,IN] at hc;have h1:=(b8 _ _).1 hc.1;have h2:k∉qs:=by rw [<-b8,hc.2];simp
     simp [aV,gj,h1,h2]
    |false=>
     have: ¬(k∈fs/\k∉qs):=by
      rintro ⟨h1,h2⟩;rw [<-b8] at h1;have h2:bX qs k=false:=by cases hq:bX qs k with|false=>rfl|true=>exact absurd ((b8 _ _).1 hq) h2
      simp [h1,h2] at hc
     simp [aV,gj,this]
  ·cases hm:bX ks k with
   |false=>simp only [cond_false,ih,aV,gj,hk,decide_false]
   |true=>simp only [cond_true,aV,gj,hk,decide_false,cond_false];cases bX fs k&&!bX qs k<;>simp only [cond_true,cond_false,aV,gj,hk,decide_false]<;>exact ih
theorem uW (m n:List (Nat×oS))(f:Nat):aV (m++n) f=(match aV m f with|some o=>some o|none=>aV n f):=by
 induction m with
 |nil=>simp [aV]
 |cons p m ih=>obtain ⟨k,o⟩:=p;simp only [OF,aV,gj];by_cases hk:k=f<;>simp [hk,ih]
def o4:Slot->List aS
 | .sc l=>[l]
 | .ag cs=>cs
 | .box cs=>cs
 |_=>[]
section
variable {P:Program}{c:Ctx}{Z Zb Zi:cb} {e e':Env}{st cO B:St} {a a':Act} {w w':World}{R:Type}{K:St->Option R}{r:R}{Q:Exit->Act->World->Prop}{o:Oper}{hn:se}
structure Cq (c:Ctx) (Zb Zi:cb) (e:Env) (B:St) (hn:se) (a:Act) (w:World):Prop where
 wC:cG c Zb e B a w
 sub: ∀b,Zi.In b->Zb.In b
 new: ∀b,w.heap.size<=b->Zi.In b
 df: ∀t∈Zb.df,t∈Zi.df
 T: ∀t∈Zi.df,a.tmps.getD t undef=Zi.T t
 keys: ∀t∈bg B.fr,t∈Zi.df
 box: ∀t cs,av B.fr t= .box cs-> ¬Zi.In (e.B t)
 jN: ∀f o b,aV B.bk f=some o->(e.E f).ownBlock=some b-> ¬Zi.In b
 akB: ∀t∈dZ hn.all,t∉Zb.df/\t∉Zi.df
 ahG: ∀f∈cI hn.all,f∉Zb.cY/\aV B.bk f=none
 ptr: ∀t,dW (av B.fr t)=false
 men: ∀t f,aS.own f∈o4 (av B.fr t)->f∉cI hn.all
theorem Cq.later {φ':Ph}(h:Cq c Zb Zi e B hn a w)(ht:Trans Zi.In e.φ w φ' w')(hi:Co φ' w')(hd:a'.defers=[])(hs:a'.tmps.size=c.n)(hT: ∀t∈Zi.df,a'.tmps.getD t undef=Zi.T t): Cq c Zb Zi {e with φ:=φ'} B hn a' w':=by
 have h1:=h.wC.called (Z':=Zi.In) h.sub h.box h.jN ht hi;refine ⟨?_,h.sub,λb hb=>h.new b (acV ht.size hb),h.df,hT,h.keys,h.box,h.jN,h.akB,h.ahG,h.ptr,h.men⟩;have zX: ∀t∈Zi.df,a'.tmps.getD t undef=a.tmps.getD t undef:=λt ht=>(hT t ht).trans (h.T t ht).symm;refine ⟨⟨hd,h1.defers.2.1,h1.defers.2.2.1,λt ht=>(zX t (h.df t ht)).trans (h1.defers.2.2.2 t ht)⟩,hs,h1.m,h1.key,h1.nodup,?_,h1.root,h1.jN,h1.bb,h1.bf,h1.ff,h1.qe,h1.dm⟩;intro t;by_cases hk:t∈bg B.fr
 ·rw [zX t (h.keys t hk)];exact h1.slot t
 ·rw [sU _ _ hk];simp [cz,ah]
theorem Wq {K2:St->St->Option R}(h:cG c Z e st a w)(hK:Sk c hn st K2=some r): ∃Zi e1 e2 dA ei,cG c Zi e1 dA a w/\Trans Z.In e.φ w e1.φ w/\e2.φ=e1.φ/\e2.key=e1.key/\Cq c Z Zi e2 (EX st ei) hn a w/\Cq c Zi Zi e2 ei hn a w/\(∀b,Zi.In b->Z.In b)/\e8 c hn.all=true/\K2 dA ei=some r:=by
 obtain ⟨p,q,fr,m⟩:=st;unfold Sk at hK;simp only [xH,acU,ag0,YP] at hK;cases UW:!e8 c hn.all||meets (dZ hn.all) p||meets (cI hn.all) q||meets (dZ hn.all) hn.df||meets (cI hn.all) hn.cY with
 |true=>simp [UW] at hK
 |false=>
  simp only [UW,cond_false] at hK;simp only [By,aaJ] at UW;obtain ⟨⟨⟨⟨m0,m1⟩,m2⟩,m3⟩,m4⟩:=UW;have m1:=uV m1;have m2:=uV m2;have m3:=uV m3;have m4:=uV m4;have SU:p=Z.df/\q=Z.cY:=⟨h.defers.2.1,h.defers.2.2.1⟩
  let mp:=te hn.cY hn.eT q m;let mo:=te (cI hn.all) hn.eT q m;let rp:=Sq hn.cY (oU hn.df fr);let ro:=oU (dZ hn.all) fr;let fs:=hn.cY.filter λf=>match aV mp f with|some o=>o.eT|none=>false
  have CQ: ∀f o,aV mp f=some o->f∈hn.cY/\ ∃o0,aV m f=some o0/\o0.ty=o.ty/\o0.xs=o.xs/\(o0.eT=true->o.eT=true)/\(f∈q->o=o0):=by
   intro f o ho;have ho:aV (te hn.cY hn.eT q m) f=some o:=ho;rw [Ga] at ho;split at ho
   ·rename_i hf;refine ⟨hf,?_⟩;cases h0:aV m f with
    |none=>rw [h0] at ho;cases ho
    |some o0=>
     rw [h0] at ho;simp only [afM,AI] at ho;refine ⟨o0,rfl,?_⟩;split at ho
     ·rename_i hc;subst ho;exact ⟨rfl,rfl,λ_=>rfl,λhq=>absurd hq hc.2⟩
     ·subst ho;exact ⟨rfl,rfl,id,λ_=>rfl⟩
   ·cases ho
  have hmo: ∀f o,aV mo f=some o->f∈cI hn.all/\ ∃o0,aV m f=some o0/\o0.ty=o.ty/\o0.xs=o.xs/\(o0.eT=true->o.eT=true):=by
   intro f o ho;have ho:aV (te (cI hn.all) hn.eT q m) f=some o:=ho;rw [Ga] at ho;split at ho
   ·rename_i hf;refine ⟨hf,?_⟩;cases h0:aV m f with
    |none=>rw [h0] at ho;cases ho
    |some o0=>
     rw [h0] at ho;simp only [afM,AI] at ho;refine ⟨o0,rfl,?_⟩;split at ho
     ·subst ho;exact ⟨rfl,rfl,λ_=>rfl⟩
     ·subst ho;exact ⟨rfl,rfl,id⟩
   ·cases ho
  obtain ⟨φ',m',f1,f2,f3,f4,f5⟩:=Wp (fs:=fs) h (by
   intro f hf o ho;simp only [fs,acR] at hf;obtain ⟨SH,Cn⟩:=hf;by_cases hq:f∈Z.cY
   ·right;cases KL:aV mp f with
    |none=>simp [KL] at Cn
    |some o1=>simp only [KL] at Cn;obtain ⟨_,o0,g1,_,_,_,g5⟩:=CQ f o1 KL;have ho:aV m f=some o:=ho;rw [g1] at ho;cases ho;have:=g5 (by rw [SU.2];exact hq);rw [<-this];exact Cn
   ·exact .inl hq)
  let Zi:cb:=⟨λb=>Z.In b/\(∀t cs,av rp t= .box cs->e.B t≠b)/\(∀f o,aV mp f=some o->(e.E f).ownBlock≠some b),hn.df++p,hn.cY++q,λt=>a.tmps.getD t undef,False,λ_=>True⟩
  have wu: ∀b,w.heap.size<=b->Zi.In b:=by
   intro b hb;refine ⟨f3.dm b hb,λt cs ht=> ?_,λf o ho SK=> ?_⟩
   ·have hrp:av rp t=Kx hn.cY (av (oU hn.df fr) t):=Ly _ _ _;rw [hrp,CE _ _ h.nodup] at ht;split at ht
    ·have: ∃GO,av fr t= .box GO:=by generalize av fr t=s at ht;cases s<;>simp only [Kx] at ht<;>first|(cases ht;done)|exact ⟨_,rfl⟩
     obtain ⟨GO,h0⟩:=this;have:=xQ (st:=⟨p,q,fr,m⟩) h h0;omega
    ·simp [Kx,Sp] at ht
   ·obtain ⟨_,o0,g1,_⟩:=CQ f o ho;have:=xR (st:=⟨p,q,fr,m⟩) h g1 SK;omega
  have adw: ∀t,av rp t=if bX hn.df t&&!dW (av fr t) then Kx hn.cY (av fr t) else .sc .un:=by intro t;have hrp:av rp t=Kx hn.cY (av (oU hn.df fr) t):=Ly _ _ _;rw [hrp,CE _ _ h.nodup];split<;>rfl
  have ahH: ∀t,av ro t=if bX (dZ hn.all) t&&!dW (av fr t) then av fr t else .sc .un:=λt=>CE _ _ h.nodup t
  have ahI: ∀t∈bg rp,t∈hn.df:=by intro t ht;have ht:t∈bg (Sq hn.cY (oU hn.df fr)):=ht;rw [LP] at ht;exact Ip t ht
  have Iq: ∀t cs,av rp t= .box cs->t∈hn.df/\ ∃GO,av fr t= .box GO:=by
   intro t cs ht;rw [adw] at ht;split at ht
   ·rename_i hc;simp only [sh] at hc;refine ⟨(b8 _ _).1 hc.1,?_⟩;generalize av fr t=s at ht;cases s<;>simp only [Kx] at ht<;>first|(cases ht;done)|exact ⟨_,rfl⟩
   ·cases ht
  have aoM: ∀f o,aV mp f=some o->o.eT=true->f∈fs:=by intro f o ho hz;simp only [fs,acR];exact ⟨(CQ f o ho).1,by simp only [ho];exact hz⟩
  have hm': ∀f o0,aV m f=some o0->aV m' f=some (if f∈fs then ⟨o0.ty,true,o0.xs⟩ else o0):=by intro f o0 h0;rw [f4];show Option.map _ (aV m f)=_;rw [h0];rfl
  have afY: ∀f o,aV (mp++mo) f=some o-> ∃o1,aV m' f=some o1/\o1.ty=o.ty/\o1.xs=o.xs/\(o1.eT=true->o.eT=true):=by
   intro f o ho;rw [uW] at ho;cases KL:aV mp f with
   |some o1=>
    simp only [KL,AI] at ho;subst ho;obtain ⟨_,o0,g1,g2,g3,g4,_⟩:=CQ f o1 KL;refine ⟨_,hm' f o0 g1,?_⟩;split
    ·rename_i ZC;refine ⟨g2,g3,λ_=> ?_⟩;simp only [fs,acR,KL] at ZC;exact ZC.2
    ·exact ⟨g2,g3,g4⟩
   |none=>
    simp only [KL] at ho;obtain ⟨g0,o0,g1,g2,g3,g4⟩:=hmo f o ho;refine ⟨_,hm' f o0 g1,?_⟩;have:f∉fs:=by intro ZC;simp only [fs,acR] at ZC;exact m4 f g0 ZC.1
    rw [if_neg this];exact ⟨g2,g3,g4⟩
  have akC: ∀f o,aV mp f=some o-> ∃o1,aV m' f=some o1/\o1.ty=o.ty/\o1.xs=o.xs/\(o1.eT=true->o.eT=true):=by intro f o ho;exact afY f o (by rw [uW,ho])
  have adm: ∀f o I cells b,aV mp f=some o->o.eT=true->c.ti o.ty=some I->w.ownsRow 0 o.ty I.size (e.E f) o.xs.length cells->(e.E f).ownBlock=some b-> ∀j,j<cells.length->φ' b j=cells[j]? :=by intro f o I cells b ho hz hI eS hb j hj;obtain ⟨_,o0,g1,g2,g3,_⟩:=CQ f o ho;exact f5 f (aoM f o ho hz) o0 I cells g1 (by rw [g2];exact hI) (by rw [g2,g3];exact eS) b hb j hj
  have akD:(hn.df++p)=Zi.df/\(hn.cY++q)=Zi.cY/\ ∀t∈Zi.df,a.tmps.getD t undef=Zi.T t:=⟨rfl,rfl,λ_ _=>rfl⟩
  have hkd:(bg rp).Nodup:=by have:bg rp=bg (oU hn.df fr):=LP;rw [this];exact (xI _ _).nodup h.nodup
  have ZD: ∀t,av rp t= .sc .un\/(dW (av fr t)=false/\(av rp t=av fr t\/ ∃qs,av rp t=Kx qs (av fr t))):=by
   intro t;rw [adw];cases hc:bX hn.df t&&!dW (av fr t) with
   |false=>exact .inl (by simp)
   |true=>simp only [sh,IN] at hc;exact .inr ⟨hc.2,.inr ⟨hn.cY,by simp⟩⟩
  have afZ: ∀(Zb:cb) (pb qb:List Nat),pb=Zb.df->qb=Zb.cY->(∀t∈Zb.df,a.tmps.getD t undef=Zb.T t)->(∀t∈Z.df,t∈Zb.df)->(∀t cs,av rp t= .box cs->(t∈Zb.df/\Zb.Pr (e.B t))\/Zb.In (e.B t))-> (∀f o b,aV mp f=some o->(e.E f).ownBlock=some b->(f∈Zb.cY/\Zb.Pr b)\/Zb.In b)->(∀b,w.heap.size<=b->Zb.In b)->cG c Zb {e with φ:=φ',m:=mp} ⟨pb,qb,rp,mp⟩ a w:=by intro Zb pb qb h1 h2 h3 hpp h4 h5 h6;exact f3.sub (cO:=⟨pb,qb,rp,mp⟩) hpp ⟨h1,h2,h3⟩ hkd ZD akC h4 h5 (λf o I cells b ho _ hz hI eS hb j hj=>adm f o I cells b ho hz hI eS hb j hj) h6
  have adx: ∀t f,aS.own f∈o4 (av rp t)->f∉cI hn.all:=by
   intro t f hf;have:f∈hn.cY:=by
    rw [adw] at hf;split at hf
    ·generalize av fr t=s at hf;cases s<;>simp only [Kx,o4,AS,aa6,List.not_mem_nil,or_false] at hf
     ·exact Sr hn.cY _ f hf.symm
     ·obtain ⟨l,_,hl⟩:=hf;exact Sr hn.cY l f hl
     ·obtain ⟨l,_,hl⟩:=hf;exact Sr hn.cY l f hl
    ·simp [o4] at hf
   exact λho=>m4 f ho this
  have Za: ∀t,dW (av rp t)=false:=by
   intro t;rw [adw];split
   ·rename_i hc;simp only [sh,IN] at hc;generalize av fr t=s at hc;cases s<;>simp [dW] at hc<;>rfl
   ·rfl
  have af0: ∀b,Zi.In b->Z.In b:=λb hb=>hb.1;refine ⟨Zi,{e with φ:=φ',m:=mp++mo},{e with φ:=φ',m:=mp},⟨hn.df++p,hn.cY++q,rp++ro,mp++mo⟩,⟨hn.df++p,hn.cY++q,rp,mp⟩,?_,⟨f1,λ_ _ _=>rfl,f2,agf _,.refl _⟩,rfl,rfl,?_,?_,af0,m0,hK⟩
  ·have hkk: ∀t,av (rp++ro) t=av rp t\/(t∈dZ hn.all/\av rp t= .sc .un/\av (rp++ro) t=av ro t):=by
    intro t;rw [zS];by_cases hk:t∈bg rp
    ·simp [hk]
    ·simp only [hk,if_false];have h0:=sU rp t hk;by_cases CM:t∈dZ hn.all
     ·exact .inr ⟨CM,h0,trivial⟩
     ·left;rw [h0,ahH];have:bX (dZ hn.all) t=false:=by cases hq:bX (dZ hn.all) t with|false=>rfl|true=>exact absurd ((b8 _ _).1 hq) CM
      simp [this]
   refine f3.sub (cO:=⟨hn.df++p,hn.cY++q,rp++ro,mp++mo⟩) (λt ht=>No _ (by rw [SU.1];exact ht)) akD ?_ ?_ afY ?_ ?_ ?_ wu
   ·show (bg (rp++ro)).Nodup;have:bg (rp++ro)=bg rp++bg ro:=by simp [bg]
    rw [this];refine List.nodup_append.2 ⟨hkd,(xI _ _).nodup h.nodup,?_⟩;intro x hx y hy Yj;subst Yj;exact m3 x (Ip x hy) (ahI x hx)
   ·intro t;show av (rp++ro) t=_\/(_/\(av (rp++ro) t=_\/ ∃qs,av (rp++ro) t=_));rcases hkk t with hk|⟨Yk,CM,hk⟩
    ·rw [hk];exact ZD t
    ·rw [hk,ahH];cases hc:bX (dZ hn.all) t&&!dW (av fr t) with
     |false=>exact .inl (by simp)
     |true=>simp only [sh,IN] at hc;exact .inr ⟨hc.2,.inl (by simp)⟩
   ·intro t cs ht;have ht:av (rp++ro) t= .box cs:=ht;rcases hkk t with hk|⟨Yk,CM,hk⟩
    ·rw [hk] at ht;exact .inl ⟨IS _ (Iq t cs ht).1,trivial⟩
    ·rw [hk,ahH] at ht;split at ht
     ·right;refine ⟨?_,?_,?_⟩
      ·have hs:=h.slot t;have CH:av (St.fr ⟨p,q,fr,m⟩) t= .box cs:=ht;rw [CH] at hs;refine Pm hs.2.dm ?_;rw [<-SU.1];exact m1 t Yk
      ·intro t2 lu LQ ET;obtain ⟨g1,GO,g2⟩:=Iq t2 lu LQ;exact h.bb t2 t GO cs g2 ht (by intro he;subst he;exact m3 t2 Yk g1) ET
      ·intro f o ho ET;obtain ⟨_,o0,g1,_⟩:=CQ f o ho;exact h.bf t cs f o0 ht g1 ET
     ·cases ht
   ·intro f o b ho hb;have ho:aV (mp++mo) f=some o:=ho;rw [uW] at ho;cases KL:aV mp f with
    |some o1=>exact .inl ⟨IS _ (CQ f o1 KL).1,trivial⟩
    |none=>
     right;simp only [KL] at ho;obtain ⟨g0,o0,g1,_⟩:=hmo f o ho;obtain ⟨I,cells,_,_,_,_,g5⟩:=(h.jN f o0 g1).row;refine ⟨Pm (g5 b hb).1 (by rw [<-SU.2];exact m2 f g0),?_,?_⟩
     ·intro t cs ht ET;obtain ⟨_,GO,k2⟩:=Iq t cs ht;exact h.bf t GO f o0 k2 g1 (by rw [ET];exact hb)
     ·intro f2 o2 dh ET;obtain ⟨k0,o20,k1,_⟩:=CQ f2 o2 dh;have:=h.ff f f2 o0 o20 b g1 k1 hb ET;subst this;exact m4 f g0 k0
   ·intro f o I cells b ho hp hz hI eS hb j hj;have ho:aV (mp++mo) f=some o:=ho;rw [uW] at ho;cases KL:aV mp f with
    |some o1=>simp only [KL,AI] at ho;subst ho;exact adm f o1 I cells b KL hz hI eS hb j hj
    |none=>
     simp only [KL] at ho;obtain ⟨g0,_⟩:=hmo f o ho;exfalso;rcases abG.1 hp with hp|hp
     ·exact m4 f g0 hp
     ·exact m2 f g0 hp
  ·refine ⟨afZ Z p q SU.1 SU.2 h.defers.2.2.2 (λ_ h=>h) ?_ ?_ f3.dm,af0,wu,λt ht=>No _ (by rw [SU.1];exact ht),λ_ _=>rfl,λt ht=>IS _ (ahI t ht),?_,?_,?_,?_,Za,adx⟩
   ·intro t cs ht;obtain ⟨_,GO,g2⟩:=Iq t cs ht;have hs:=h.slot t;have g2':av (St.fr ⟨p,q,fr,m⟩) t= .box GO:=g2;rw [g2'] at hs;exact hs.2.dm
   ·intro f o b ho hb;obtain ⟨_,o0,g1,_⟩:=CQ f o ho;obtain ⟨I,cells,_,_,_,_,g5⟩:=(h.jN f o0 g1).row;exact (g5 b hb).1
   ·intro t cs ht hz;exact hz.2.1 t cs ht rfl
   ·intro f o b ho hb hz;exact hz.2.2 f o ho hb
   ·intro t ht;exact ⟨by rw [<-SU.1];exact m1 t ht,by show t∉hn.df++p;simp only [abG,not_or];exact ⟨m3 t ht,m1 t ht⟩⟩
   ·intro f hf;refine ⟨by rw [<-SU.2];exact m2 f hf,?_⟩;cases KL:aV mp f with
    |none=>first|exact KL|rfl
    |some o1=>exact absurd (CQ f o1 KL).1 (m4 f hf)
  ·refine ⟨afZ Zi _ _ rfl rfl (λ_ _=>rfl) (λt ht=>No _ (by rw [SU.1];exact ht)) ?_ ?_ wu,λb hb=>hb,wu,λt ht=>ht,λ_ _=>rfl,λt ht=>IS _ (ahI t ht),?_,?_,?_,?_,Za,adx⟩
   ·intro t cs ht;exact .inl ⟨IS _ (Iq t cs ht).1,trivial⟩
   ·intro f o b ho hb;exact .inl ⟨IS _ (CQ f o ho).1,trivial⟩
   ·intro t cs ht hz;exact hz.2.1 t cs ht rfl
   ·intro f o b ho hb hz;exact hz.2.2 f o ho hb
   ·intro t ht;have:t∉hn.df++p:=by simp only [abG,not_or];exact ⟨m3 t ht,m1 t ht⟩
    exact ⟨this,this⟩
   ·intro f hf;refine ⟨by show f∉hn.cY++q;simp only [abG,not_or];exact ⟨m4 f hf,m2 f hf⟩,?_⟩;cases KL:aV mp f with
    |none=>first|exact KL|rfl
    |some o1=>exact absurd (CQ f o1 KL).1 (m4 f hf)
theorem Ir {K2:St->St->Option R}(h:cG c Z e st a w)(hK:HM c hn st K2=some r): ∃Zi e1 e2 dA ei,cG c Zi e1 dA a w/\Trans Z.In e.φ w e1.φ w/\e2.φ=e1.φ/\e2.key=e1.key/\Cq c Z Zi e2 (EX st ei) hn a w/\Cq c Zi Zi e2 ei hn a w/\(∀b,Zi.In b->Z.In b)/\e8 c hn.all=true/\K2 dA ei=some r:=by unfold HM at hK;obtain ⟨Zi,e1,e2,dA,ei,h1,t1,hφ,hk,j1,j2,gp,kI,hK⟩:=Wq h hK;obtain ⟨fr,g1,g2⟩:=Ia h (PH h.nodup) h1 hK;exact ⟨Zi,e1,e2,_,ei,g1,t1,hφ,hk,j1,j2,gp,kI,g2⟩
end
end Dn
/-
  What a piece of code hands on. Conditions: none.
-/
namespace Dn
open Go
section
variable {P:Program}{c:Ctx}{Z Zb Zi:cb} {e e' e3:Env}{st cO np B:St} {a a':Act} {w w':World}{R:Type}{K:St->Option R}{r:R}{Q:Exit->Act->World->Prop}{o:Oper}{hn:se}
structure Ev (S:Nat->Prop) (e e':Env):Prop where
 key:e'.key=e.key
 φ:e'.φ=e.φ
 jN: ∀f o,aV e'.m f=some o->S f->(∃o0,aV e.m f=some o0)/\e'.E f=e.E f
theorem Ev.refl (S:Nat->Prop)(e:Env):Ev S e e:=⟨rfl,rfl,λf o h _=>⟨⟨o,h⟩,rfl⟩⟩
theorem Ev.trans {S:Nat->Prop} {e e' e'':Env}(h:Ev S e e') (h':Ev S e' e''):Ev S e e'':=⟨h'.key.trans h.key,h'.φ.trans h.φ,λf o ho hs=>by obtain ⟨⟨o1,g1⟩,g2⟩:=h'.jN f o ho hs;obtain ⟨g3,g4⟩:=h.jN f o1 g1 hs;exact ⟨g3,g2.trans g4⟩⟩
theorem Ev.aoN {S S':Nat->Prop} {e e':Env}(h:Ev S e e')(hs: ∀f,S' f->S f):Ev S' e e':=⟨h.key,h.φ,λf o ho hf=>h.jN f o ho (hs f hf)⟩
theorem bp.ev {S:Nat->Prop}(h:Ev S e e'){vs:List Value}{l:aS}(hl: ∀f,l= .own f->S f)(hr:bp e vs l):bp e' vs l:=by
 cases l with
 |own f=>obtain ⟨v,rfl,hv,hf⟩:=hr;refine ⟨v,rfl,hv,λo' CF=> ?_⟩;obtain ⟨⟨o,ho⟩,hE⟩:=h.jN f o' CF (hl f rfl);rw [hE];exact hf o ho
 |p m=>exact ⟨hr.1,by rw [h.key,h.φ];exact hr.2⟩
 |_=>exact hr
theorem aJ.ev {S:Nat->Prop}(h:Ev S e e'){cs:List aS}: ∀{vs:List Value},(∀f,aS.own f∈cs->S f)->aJ e vs cs->aJ e' vs cs:=by
 induction cs with
 |nil=>intro vs _ hr;exact hr
 |cons l r ih=>intro vs hl hr;obtain ⟨v,u,rfl,h1,h2⟩:=hr;exact ⟨v,u,rfl,h1.ev h (λf hf=>hl f (by simp [hf])),ih (λf hf=>hl f (by simp [hf])) h2⟩
theorem ki.ev {S:Nat->Prop}(h:Ev S e e'){ob:Obj}{cs:List aS}(hl: ∀f,aS.own f∈cs->S f)(hr:ki e ob cs):ki e' ob cs:=by
 cases ob with
 |cells arr T z=>exact ⟨hr.1,hr.2.ev h hl⟩
 |map es clock=>exact hr
 |stringIter x pos=>exact hr
 |_=>exact hr.elim
theorem ah.ev {S:Nat->Prop}(h:Ev S e e'){v:Value}{s:Slot}(hp:dW s=false)(hl: ∀f,aS.own f∈o4 s->S f)(hr:ah e v s):ah e' v s:=by
 have akE:lr (λ_=>False) (λ_=>False) e e':=⟨h.key,by rw [h.φ];exact .refl _,λ_ hf=>hf.elim,λ_ _ _ hf=>hf.elim⟩
 cases s with
 |sc l=>
  cases l<;>first|exact hr|skip
  ·exact bp.ev (l:= .p _) h (λf hf=>by cases hf) hr
  ·rename_i f;exact bp.ev (l:= .own f) h (λf hf=>hl f (by simp [o4,hf])) hr
 |ag cs=>simp only [ah] at hr⊢;obtain ⟨arr,h1,h2⟩:=hr;exact ⟨arr,h1,h2.ev h (λf hf=>hl f hf)⟩
 |ptr=>simp [dW] at hp
 |zN=>simp [dW] at hp
 |rp=>simp [dW] at hp
 |hp=>simp [dW] at hp
 |ep=>simp [dW] at hp
 |_=>exact hr.on akE (by simp [gk])
theorem wE {fr:Fr}{s:Slot}(h:dW s=false):cZ fr s:=by cases s<;>simp [dW] at h<;>trivial
theorem cG.ady {t:Nat}{s:Slot}(h:cG c Z e st a w)(hp: ∀t,dW (av st.fr t)=false)(hs:dW s=false)(hb:dv s=false)(hr:ah e (a.tmps.getD t undef) s): cG c Z e {st with fr:=cM st.fr t s} a w:=by
 have hg: ∀t',av (cM st.fr t s) t'=if t'=t then s else av st.fr t':=λt'=>cr _ _ _ _
 have vF: ∀t' cs,av (cM st.fr t s) t'= .box cs->t'≠t/\av st.fr t'= .box cs:=by
  intro t' cs ht;rw [hg] at ht;by_cases vJ:t'=t
  ·rw [if_pos vJ] at ht;subst ht;simp [dv] at hb
  ·rw [if_neg vJ] at ht;exact ⟨vJ,ht⟩
 refine ⟨h.defers,h.size,h.m,h.key,fG h.nodup,?_,?_,h.jN,?_,?_,h.ff,h.qe,h.dm⟩
 ·intro t';show cz Z e w t' _ (av (cM st.fr t s) t');rw [hg];by_cases vJ:t'=t
  ·subst vJ;simp only [if_true];cases s<;>first|exact hr|(simp [dv] at hb)
  ·simp only [vJ,if_false];exact h.slot t'
 ·intro t';show cZ _ (av (cM st.fr t s) t');rw [hg];by_cases vJ:t'=t
  ·simp only [vJ,if_true];exact wE hs
  ·simp only [vJ,if_false];exact wE (hp t')
 ·intro t1 t2 c1 c2 h1 h2 dG;exact h.bb t1 t2 c1 c2 (vF t1 c1 h1).2 (vF t2 c2 h2).2 dG
 ·intro t1 c1 f o h1 h2;exact h.bf t1 c1 f o (vF t1 c1 h1).2 h2
theorem cG.ahJ {t bB:Nat}{cs:List aS}(h:cG c Z e st a w)(hp: ∀t,dW (av st.fr t)=false)(hv:tied Z t (a.tmps.getD t undef) cs bB)(Fa:uP (Z.bz t) e w bB cs)(h1: ∀t' gK,av st.fr t'= .box gK->t'≠t->e.B t'≠bB)(h2: ∀f o,aV st.bk f=some o->(e.E f).ownBlock≠some bB): cG c Z (e.Dq t bB) {st with fr:=cM st.fr t (.box cs)} a w:=by
 have vG:lr (λ_=>True) (λ_=>False) e (e.Dq t bB):=⟨rfl,.refl _,λr hr=>hr.elim,λf o ho _=>⟨o,ho,rfl,rfl⟩⟩
 have hg: ∀t',av (cM st.fr t (.box cs)) t'=if t'=t then .box cs else av st.fr t':=λt'=>cr _ _ _ _
 refine ⟨h.defers,h.size,h.m,h.key,fG h.nodup,?_,?_,λf o ho=>(h.jN f o ho).env rfl rfl,?_,?_,h.ff,h.qe,h.dm⟩
 ·intro t';show cz Z _ w t' _ (av (cM st.fr t (.box cs)) t');rw [hg];by_cases vJ:t'=t
  ·subst vJ;simp only [if_true,cz,Env.Dq];exact ⟨hv,Fa.env rfl rfl rfl rfl⟩
  ·simp only [vJ,if_false];have hs:=h.slot t';have Nr:=hp t';generalize av st.fr t'=s at hs Nr;cases s<;>simp only [cz] at hs⊢ <;>first|(simp [dW] at Nr;done)|exact hs.on vG (by simp [gk,jW])|skip
   simp only [Env.Dq,vJ,if_false];exact ⟨hs.1,hs.2.env rfl rfl rfl rfl⟩
 ·intro t';show cZ _ (av (cM st.fr t (.box cs)) t');rw [hg];by_cases vJ:t'=t
  ·simp only [vJ,if_true];trivial
  ·simp only [vJ,if_false];exact wE (hp t')
 ·intro t1 t2 c1 c2 g1 g2 dG;have g1:av (cM st.fr t (.box cs)) t1= .box c1:=g1;have g2:av (cM st.fr t (.box cs)) t2= .box c2:=g2;rw [hg] at g1 g2;simp only [Env.Dq];by_cases k1:t1=t
  ·by_cases k2:t2=t
   ·exact absurd (k1.trans k2.symm) dG
   ·rw [if_neg k2] at g2;simp only [k1,k2,if_true,if_false];exact λhe=>h1 t2 c2 g2 k2 he.symm
  ·rw [if_neg k1] at g1;by_cases k2:t2=t
   ·simp only [k1,k2,if_true,if_false];exact h1 t1 c1 g1 k1
   ·rw [if_neg k2] at g2;simp only [k1,k2,if_false];exact h.bb t1 t2 c1 c2 g1 g2 dG
 ·intro t1 c1 f o g1 g2;have g1:av (cM st.fr t (.box cs)) t1= .box c1:=g1;rw [hg] at g1;simp only [Env.Dq];by_cases k1:t1=t
  ·simp only [k1,if_true];exact h2 f o g2
  ·rw [if_neg k1] at g1;simp only [k1,if_false];exact h.bf t1 c1 f o g1 g2
def Env.Nz (e:Env)(f:Nat)(v:Value)(fo:oS):Env:={e with E:=λg=>if g=f then v else e.E g,m:=cw e.m f fo}
theorem cG.ZE {f:Nat}{v:Value}{fo:oS}(h:cG c Z e st a w)(hp: ∀t,dW (av st.fr t)=false)(CJ:f∉Z.cY)(iN:dH c Z.nc e w v fo)(hb: ∀b,v.ownBlock=some b->(∀t cs,av st.fr t= .box cs->e.B t≠b)/\(∀g o,g≠f->aV st.bk g=some o->(e.E g).ownBlock≠some b))(H2:Ev (λg=> ∃t,aS.own g∈o4 (av st.fr t)) e (e.Nz f v fo)):cG c Z (e.Nz f v fo) {st with bk:=cw st.bk f fo} a w:=by
 refine ⟨h.defers,h.size,by show cw e.m f _=cw st.bk f _;rw [h.m],h.key,h.nodup,?_,h.root,?_,h.bb,?_,?_,h.qe,h.dm⟩
 ·intro t;have hs:=h.slot t;have hl: ∀f,aS.own f∈o4 (av st.fr t)-> ∃t,aS.own f∈o4 (av st.fr t):=λf hf=>⟨t,hf⟩
  have hpt:=hp t;show cz Z _ w t _ (av st.fr t);generalize av st.fr t=s at hs hpt hl;by_cases E8: ∃cs,s= .box cs
  ·obtain ⟨cs,rfl⟩:=E8;simp only [cz] at hs⊢;obtain ⟨o2,h1,h2⟩:=hs.2.obj;exact ⟨hs.1,hs.2.dm,⟨o2,h1,h2.ev H2 hl⟩,hs.2.free⟩
  ·have Bi:ah e (a.tmps.getD t undef) s:=by cases s<;>simp only [cz] at hs<;>first|exact hs|exact absurd ⟨_,rfl⟩ E8
   have h2:=Bi.ev H2 hpt hl;cases s<;>first|exact h2|exact absurd ⟨_,rfl⟩ E8
 ·intro f2 o2 dh;have dh:aV (cw st.bk f fo) f2=some o2:=dh;rw [bG] at dh;show dH c (Z.fz f2) _ w (if f2=f then v else e.E f2) o2;by_cases fK:f2=f
  ·rw [if_pos fK];rw [if_pos fK] at dh;cases dh;rw [fK];exact (iN.to CJ).env rfl rfl
  ·rw [if_neg fK];rw [if_neg fK] at dh;exact (h.jN f2 o2 dh).env rfl rfl
 ·intro t c1 f2 o2 h1 h2;have h2:aV (cw st.bk f fo) f2=some o2:=h2;rw [bG] at h2;show (if f2=f then v else e.E f2).ownBlock≠some (e.B t);by_cases fK:f2=f
  ·rw [if_pos fK];intro hh;exact (hb _ hh).1 t c1 h1 rfl
  ·rw [if_neg fK] at h2⊢;exact h.bf t c1 f2 o2 h1 h2
 ·intro f1 f2 o1 o2 k h1 h2 h3 h4;have h1:aV (cw st.bk f fo) f1=some o1:=h1;have h2:aV (cw st.bk f fo) f2=some o2:=h2;have h3:(if f1=f then v else e.E f1).ownBlock=some k:=h3;have h4:(if f2=f then v else e.E f2).ownBlock=some k:=h4;rw [bG] at h1 h2;by_cases k1:f1=f
  ·by_cases k2:f2=f
   ·rw [k1,k2]
   ·rw [if_pos k1] at h3;rw [if_neg k2] at h4 h2;exact absurd h4 ((hb k h3).2 f2 o2 k2 h2)
  ·rw [if_neg k1] at h3 h1;by_cases k2:f2=f
   ·rw [if_pos k2] at h4;exact absurd h3 ((hb k h4).2 f1 o1 k1 h1)
   ·rw [if_neg k2] at h4 h2;exact h.ff f1 f2 o1 o2 k h1 h2 h3 h4
inductive TK (st:St) (ps:List (Nat×Nat)):LK->aS->MV->List (Nat×Nat)->Prop
 |Nw:TK st ps (.k .l) .nil (.list []) ps
 |hs (x:lQ):TK st ps (.k .h) (.hs x) (.h x) ps
 |p (x:Kd) (m:MV):TK st ps (.k x) (.p m) m ps
 |own (f ty:Nat) (eT:Bool) (g:Nat) (o:oS):aV st.bk g=some o->o.ty=ty->(o.eT=true->eT=true)->g∉st.cY->nb ps f (g+1)=true->TK st ps (.own f ty eT) (.own g) (.list o.xs) ((f,g+1)::ps)
 |xS (f ty:Nat) (eT:Bool):nb ps f 0=true->TK st ps (.own f ty eT) .nil (.list []) ((f,0)::ps)
theorem SV {k:Kd}{m:MV} {K':aS->Option R}(h:kF k m K'=some r): ∃l,K' l=some r:=by obtain ⟨l,_,h⟩:=n5 (e:=⟨λn=>n,λ_ _=>none,λ_=>undef,λ_=>0,[]⟩) (vs:=[]) h;exact ⟨l,h⟩
theorem PO {ps:List (Nat×Nat)}{k:LK}{l:aS} {K':MV->List (Nat×Nat)->Option R}(h:Nc st ps k l K'=some r): ∃m ke,TK st ps k l m ke/\K' m ke=some r:=by
 unfold Nc at h;split at h
 ·exact ⟨_,_,.Nw,h⟩
 ·exact ⟨_,_,.hs _,h⟩
 ·obtain ⟨_,h⟩:=SV h;exact ⟨_,_,.p _ _,h⟩
 ·rename_i f ty eT g;cases ho:aV st.bk g with
  |none=>simp [ho] at h
  |some o=>
   simp only [ho] at h;cases hc:!AT o.ty ty||(o.eT&&!eT)||bX st.cY g||!nb ps f (g+1) with
   |true=>simp [hc] at h
   |false=>
    simp only [hc,cond_false] at h;simp only [By,aaJ] at hc;obtain ⟨⟨⟨h1,h2⟩,h3⟩,h4⟩:=hc;refine ⟨_,_,.own f ty eT g o ho (c8 h1) ?_ ?_ h4,h⟩
    ·intro hz;rw [hz] at h2;simpa using h2
    ·rw [<-b8,h3];simp
 ·rename_i f ty eT;cases hc:nb ps f 0 with
  |false=>simp [hc] at h
  |true=>simp only [hc,cond_true] at h;exact ⟨_,_,.xS f ty eT hc,h⟩
 ·simp at h
theorem Gb {ps:List (Nat×Nat)}{f g:Nat}(h:nb ps f g=true):(∀b,(f,b)∈ps->b=g/\g≠0)/\(∀x,(x,g)∈ps->x≠f->g=0):=by
 induction ps with
 |nil=>simp
 |cons p ps ih=>
  obtain ⟨x,y⟩:=p;simp only [nb,sh,gj] at h;obtain ⟨h1,h2⟩:=h;obtain ⟨i1,i2⟩:=ih h2;refine ⟨?_,?_⟩
  ·intro b hb;rcases AS.1 hb with hb|hb
   ·cases hb;simp at h1;exact ⟨h1.1,h1.2⟩
   ·exact i1 b hb
  ·intro z hz dG;rcases AS.1 hz with hz|hz
   ·cases hz;simp [dG] at h1;exact h1
   ·exact i2 z hz dG
structure Inv (c:Ctx) (Zb Zi:cb) (e3:Env) (np:St) (F:List Nat) (ps:List (Nat×Nat)) (e:Env) (st:St) (a:Act) (w:World):Prop where
 wC:cG c Zb e st a w
 φ:e.φ=e3.φ
 box: ∀t cs,av st.fr t= .box cs-> ¬Zi.In (e.B t)\/(e.B t=e3.B t/\ ∃lZ,av np.fr t= .box lZ)
 jN: ∀f o b,aV st.bk f=some o->(e.E f).ownBlock=some b-> ¬Zi.In b\/ ∃g,(f,g+1)∈ps
 pair: ∀f g,(f,g+1)∈ps->e.E f=e3.E g/\ ∃o3,aV np.bk g=some o3
 has: ∀f x,(f,x)∈ps-> ∃o,aV st.bk f=some o
 own: ∀f∈F,∀o,aV st.bk f=some o-> ∃x,(f,x)∈ps
 ptr: ∀t,dW (av st.fr t)=false
 men: ∀t f,aS.own f∈o4 (av st.fr t)->f∉F\/ ∃x,(f,x)∈ps
theorem Wr {F:List Nat}{ps ke:List (Nat×Nat)}{k:LK}{l:aS}{m:MV}{vs:List Value} {K':aS->St->Option R}(hi:Inv c Zb Zi e3 np F ps e st a w)(h3:cG c Zi e3 np a w)(gp: ∀b,Zi.In b->Zb.In b)(hF: ∀f∈bK [k],f∈F/\f∉Zb.cY)(hl:bp e3 vs l)(ht:TK np ps k l m ke)(hK:lS st k m K'=some r)(kI: ∀f ty eT,k= .own f ty eT-> ∃I,c.ti ty=some I/\I.du=[]): ∃e' cO l',K' l' cO=some r/\Inv c Zb Zi e3 np F ke e' cO a w/\bp e' vs l'/\cO.fr=st.fr/\Ev (λf=>f∉F\/ ∃x,(f,x)∈ps) e e'/\(∀p∈ps,p∈ke)/\(∀f,l'= .own f-> ∃x,(f,x)∈ke)/\e'.B=e.B/\l'≠ .un:=by
 have hkφ: ∀{vs m},nn e3.key e3.φ vs m->nn e.key e.φ vs m:=by intro vs m h;rw [hi.φ,hi.wC.key,<-h3.key];exact h
 have simple: ∀{x:Kd} {m:MV},nn e3.key e3.φ vs m->(kF x m λl=>K' l st)=some r-> ∃e' cO l',K' l' cO=some r/\Inv c Zb Zi e3 np F ps e' cO a w/\bp e' vs l'/\cO.fr=st.fr/\Ev (λf=>f∉F\/ ∃x,(f,x)∈ps) e e'/\(∀p∈ps,p∈ps)/\(∀f,l'= .own f-> ∃x,(f,x)∈ps)/\e'.B=e.B/\l'≠ .un:=by
  intro x m hr hK;obtain ⟨l',B0,hK⟩:=n5 (e:=e) (vs:=vs) hK;refine ⟨e,st,l',hK,hi,B0.rep (hkφ hr),rfl,.refl _ _,λp hp=>hp,λf hf=> ?_,rfl,λhu=> ?_⟩
  ·have:=B0.Ye;rw [hf] at this;simp [uN] at this
  ·have:=B0.Ye;rw [hu] at this;simp [uN] at this
 cases ht with
 |Nw=>have hl:vs=[.slice none 0 0]:=hl;subst hl;exact simple (x:= .l) (.list none 0 [] 0 0 0 (λ_=>[]) (by simp) (by simp) (by simp) (by simp) (by simp)) hK
 |hs x=>have hl:vs=bT x:=hl;subst hl;exact simple (x:= .h) (.h x) hK
 |p x m=>exact simple hl.2 hK
 |own f ty eT g o3 ho akF hfz hg hpo=>
  obtain ⟨v,rfl,hv,hE⟩:=hl;have hE:=hE o3 (by rw [h3.m];exact ho);obtain ⟨hfF,ZF⟩:=hF f (by simp [bK]);obtain ⟨p1,p2⟩:=Gb hpo;simp only [lS,gL,oV] at hK;have hgz:g∉Zi.cY:=by rw [<-h3.defers.2.2.1];exact hg
  obtain ⟨I,cells,q1,q2,q3,q4,q5⟩:=(h3.jN g o3 ho).row;have vI: ∀b,v.ownBlock=some b->Zi.In b:=λb hb=>Pm (q5 b (by rw [<-hE];exact hb)).1 hgz;have iN:dH c Zb.nc e w v ⟨ty,eT,o3.xs⟩:=by refine ⟨I,cells,by rw [<-akF];exact q1,q2,by rw [<-akF,hE];exact q3,by rw [hi.φ,hi.wC.key,<-h3.key];exact q4,λbB hb=>⟨gp _ (vI bB hb),λoff u hu=> ?_,λhc=>hc.elim⟩⟩;rw [hi.φ] at hu;obtain ⟨k1,k2⟩:=(q5 bB (by rw [<-hE];exact hb)).2.1 off u hu;exact ⟨hfz k1,k2⟩
  have hold: ∀x,(f,x)∈ps->e.E f=v:=by intro x hx;have:=(p1 x hx).1;subst this;rw [(hi.pair f g hx).1,hE]
  have SW: ∀S:Nat->Prop,(S f-> ∃x,(f,x)∈ps)->Ev S e (e.Nz f v ⟨ty,eT,o3.xs⟩):=by
   intro S hS;refine ⟨rfl,rfl,λf2 o2 dh hs=> ?_⟩;have dh:aV (cw e.m f ⟨ty,eT,o3.xs⟩) f2=some o2:=dh;rw [bG] at dh;by_cases fK:f2=f
   ·subst fK;obtain ⟨x,hx⟩:=hS hs;obtain ⟨o0,h0⟩:=hi.has f2 x hx;exact ⟨⟨o0,by rw [hi.wC.m];exact h0⟩,by simp only [Env.Nz,if_true];exact (hold x hx).symm⟩
   ·rw [if_neg fK] at dh;exact ⟨⟨o2,dh⟩,by simp only [Env.Nz,fK,if_false]⟩
  have SK: ∀b,v.ownBlock=some b->(∀t cs,av st.fr t= .box cs->e.B t≠b)/\(∀g' o',g'≠f->aV st.bk g'=some o'->(e.E g').ownBlock≠some b):=by
   intro b hb;refine ⟨λt cs Fa hbt=> ?_,λg' o' dG hog hbg=> ?_⟩
   ·rcases hi.box t cs Fa with h0|⟨h0,lZ,h1⟩
    ·exact h0 (by rw [hbt];exact vI b hb)
    ·exact h3.bf t lZ g o3 h1 ho (by rw [<-hE,<-h0,hbt];exact hb)
   ·rcases hi.jN g' o' b hog hbg with h0|⟨x,h0⟩
    ·exact h0 (vI b hb)
    ·obtain ⟨h5,o5,h6⟩:=hi.pair g' x h0;rw [h5] at hbg;have:=h3.ff g x o3 o5 b ho h6 (by rw [<-hE];exact hb) hbg;subst this;have:=p2 g' h0 dG;omega
  have tg:=hi.wC.ZE hi.ptr ZF iN SK (SW _ (λ⟨t,hm⟩=>(hi.men t f hm).resolve_left (λhn=>hn hfF)));refine ⟨_,_,.own f,hK,⟨tg,hi.φ,hi.box,?_,?_,?_,?_,hi.ptr,?_⟩,?_,rfl,SW _ (λhs=>hs.resolve_left (λhn=>hn hfF)),λp hp=>by simp [hp],λf' UG=>by cases UG;exact ⟨g+1,by simp⟩,rfl,λhu=>by cases hu⟩
  ·intro f2 o2 b dh hb;have dh:aV (cw st.bk f ⟨ty,eT,o3.xs⟩) f2=some o2:=dh;have hb:(if f2=f then v else e.E f2).ownBlock=some b:=hb;rw [bG] at dh;by_cases fK:f2=f
   ·subst fK;exact .inr ⟨g,by simp⟩
   ·rw [if_neg fK] at dh hb;rcases hi.jN f2 o2 b dh hb with h0|⟨x,h0⟩
    ·exact .inl h0
    ·exact .inr ⟨x,by simp [h0]⟩
  ·intro f2 g2 hp;show (if f2=f then v else e.E f2)=_/\_;rcases AS.1 hp with R5|R5
   ·simp only [aaf,acA] at R5;obtain ⟨rfl,rfl⟩:=R5;simp only [if_true];exact ⟨hE,o3,ho⟩
   ·by_cases fK:f2=f
    ·subst fK;have:=(p1 _ R5).1;have:g2=g:=by omega
     subst this;simp only [if_true];exact ⟨hE,o3,ho⟩
    ·rw [if_neg fK];exact hi.pair f2 g2 R5
  ·intro f2 x hp;show∃o,aV (cw st.bk f ⟨ty,eT,o3.xs⟩) f2=some o;rw [bG];by_cases fK:f2=f
   ·rw [if_pos fK];exact ⟨_,rfl⟩
   ·rw [if_neg fK];rcases AS.1 hp with hp|hp
    ·exact absurd (Prod.mk.inj hp).1 fK
    ·exact hi.has f2 x hp
  ·intro f2 Cn o2 dh;have dh:aV (cw st.bk f ⟨ty,eT,o3.xs⟩) f2=some o2:=dh;rw [bG] at dh;by_cases fK:f2=f
   ·subst fK;exact ⟨g+1,by simp⟩
   ·rw [if_neg fK] at dh;obtain ⟨x,hx⟩:=hi.own f2 Cn o2 dh;exact ⟨x,by simp [hx]⟩
  ·intro t f2 hm;rcases hi.men t f2 hm with h0|⟨x,hx⟩
   ·exact .inl h0
   ·exact .inr ⟨x,by simp [hx]⟩
  ·exact ⟨v,rfl,hv,λo' _=>by simp [Env.Nz]⟩
 |xS f ty eT hpo=>
  have hl:vs=[.slice none 0 0]:=hl;subst hl;obtain ⟨hfF,ZF⟩:=hF f (by simp [bK]);obtain ⟨p1,_⟩:=Gb hpo;have R6: ∀x,(f,x)∉ps:=λx hx=>(p1 x hx).2 rfl;simp only [lS,gL,oV] at hK;obtain ⟨I,hI,Y1⟩:=kI f ty eT rfl;have iN:dH c Zb.nc e w (.slice none 0 0) ⟨ty,eT,[]⟩:=⟨I,[],hI,Y1,⟨by simp,.inl ⟨rfl,rfl⟩⟩,rfl,λbB hb=>by simp [BY] at hb⟩
  have SW: ∀S:Nat->Prop,(S f->False)->Ev S e (e.Nz f (.slice none 0 0) ⟨ty,eT,[]⟩):=by
   intro S hS;refine ⟨rfl,rfl,λf2 o2 dh hs=> ?_⟩;have dh:aV (cw e.m f ⟨ty,eT,[]⟩) f2=some o2:=dh;rw [bG] at dh;by_cases fK:f2=f
   ·subst fK;exact (hS hs).elim
   ·rw [if_neg fK] at dh;exact ⟨⟨o2,dh⟩,by simp only [Env.Nz,fK,if_false]⟩
  have tg:=hi.wC.ZE hi.ptr ZF iN (λb hb=>by simp [BY] at hb) (SW _ (λ⟨t,hm⟩=>(hi.men t f hm).elim (λhn=>hn hfF) (λ⟨x,hx⟩=>R6 x hx)));refine ⟨_,_,.own f,hK,⟨tg,hi.φ,hi.box,?_,?_,?_,?_,hi.ptr,?_⟩,?_,rfl,SW _ (λhs=>hs.elim (λhn=>hn hfF) (λ⟨x,hx⟩=>R6 x hx)),λp hp=>by simp [hp],λf' UG=>by cases UG;exact ⟨0,by simp⟩,rfl,λhu=>by cases hu⟩
  ·intro f2 o2 b dh hb;have dh:aV (cw st.bk f ⟨ty,eT,[]⟩) f2=some o2:=dh;have hb:(if f2=f then acQ none 0 0 else e.E f2).ownBlock=some b:=hb;rw [bG] at dh;by_cases fK:f2=f
   ·rw [if_pos fK] at hb;simp [BY] at hb
   ·rw [if_neg fK] at dh hb;rcases hi.jN f2 o2 b dh hb with h0|⟨x,h0⟩
    ·exact .inl h0
    ·exact .inr ⟨x,by simp [h0]⟩
  ·intro f2 g2 hp;show (if f2=f then acQ none 0 0 else e.E f2)=_/\_;rcases AS.1 hp with R5|R5
   ·simp at R5
   ·by_cases fK:f2=f
    ·subst fK;exact absurd R5 (R6 _)
    ·rw [if_neg fK];exact hi.pair f2 g2 R5
  ·intro f2 x hp;show∃o,aV (cw st.bk f ⟨ty,eT,[]⟩) f2=some o;rw [bG];by_cases fK:f2=f
   ·rw [if_pos fK];exact ⟨_,rfl⟩
   ·rw [if_neg fK];rcases AS.1 hp with hp|hp
    ·exact absurd (Prod.mk.inj hp).1 fK
    ·exact hi.has f2 x hp
  ·intro f2 Cn o2 dh;have dh:aV (cw st.bk f ⟨ty,eT,[]⟩) f2=some o2:=dh;rw [bG] at dh;by_cases fK:f2=f
   ·subst fK;exact ⟨0,by simp⟩
   ·rw [if_neg fK] at dh;obtain ⟨x,hx⟩:=hi.own f2 Cn o2 dh;exact ⟨x,by simp [hx]⟩
  ·intro t f2 hm;rcases hi.men t f2 hm with h0|⟨x,hx⟩
   ·exact .inl h0
   ·exact .inr ⟨x,by simp [hx]⟩
  ·exact ⟨_,rfl,rfl,λo' _=>by simp [Env.Nz]⟩
end
end Dn
/-
  What a piece of code hands on: all of it. Conditions: none.
-/
namespace Dn
open Go
theorem SX {c:Ctx}{ks:List LK}(h:je c ks=true): ∀f ty eT,LK.own f ty eT∈ks-> ∃I,c.ti ty=some I/\I.du=[]:=by
 induction ks with
 |nil=>intro f ty eT hm;simp at hm
 |cons k ks ih=>
  intro f ty eT hm;cases k with
  |k x=>
   simp only [je] at h;rcases AS.1 hm with hm|hm
   ·cases hm
   ·exact ih h f ty eT hm
  |own f' ty' aoz=>
   simp only [je] at h;cases hI:c.tv ty' with
   |none=>simp [hI] at h
   |some I=>
    simp only [hI] at h;rcases AS.1 hm with hm|hm
    ·cases hm;exact ⟨I,cc hI⟩
    ·exact ih h f ty eT hm
theorem Gc (k:LK)(ks:List LK):bK (k::ks)=bK [k]++bK ks:=by cases k<;>simp [bK]
section
variable {P:Program}{c:Ctx}{Z Zb Zi:cb} {e e' e3:Env}{st cO np B:St} {a a':Act} {w w':World}{R:Type}{K:St->Option R}{r:R}{Q:Exit->Act->World->Prop}{o:Oper}{hn:se}
inductive TKs (st:St):List (Nat×Nat)->List LK->List aS->List MV->List (Nat×Nat)->Prop
 |nil (ps):TKs st ps [] [] [] ps
 |cons {ps ps1 ps2 k l m ks ls ms}:TK st ps k l m ps1->TKs st ps1 ks ls ms ps2->TKs st ps (k::ks) (l::ls) (m::ms) ps2
theorem xT {ks:List LK}: ∀{ps:List (Nat×Nat)}{ls:List aS} {K':List MV->List (Nat×Nat)->Option R},kh st ps ks ls K'=some r-> ∃ms ke,TKs st ps ks ls ms ke/\K' ms ke=some r:=by
 induction ks with
 |nil=>
  intro ps ls K' h;cases ls with
  |nil=>exact ⟨[],ps,.nil ps,h⟩
  |cons=>simp [kh] at h
 |cons k ks ih=>
  intro ps ls K' h;cases ls with
  |nil=>simp [kh] at h
  |cons l ls=>simp only [kh] at h;obtain ⟨m,ps1,h1,h⟩:=PO h;obtain ⟨ms,ps2,h2,h⟩:=ih h;exact ⟨m::ms,ps2,.cons h1 h2,h⟩
theorem z7 {F:List Nat}{ks:List LK}: ∀{ps ke:List (Nat×Nat)}{ls:List aS}{ms rest:List MV}{vs:List Value}{e:Env}{st:St} {K':List aS->List MV->St->Option R},Inv c Zb Zi e3 np F ps e st a w->cG c Zi e3 np a w->(∀b,Zi.In b->Zb.In b)-> (∀f∈bK ks,f∈F/\f∉Zb.cY)->je c ks=true->aJ e3 vs ls->TKs np ps ks ls ms ke->dw st ks (ms++rest) K'=some r-> ∃e' cO ze,K' ze rest cO=some r/\Inv c Zb Zi e3 np F ke e' cO a w/\aJ e' vs ze/\cO.fr=st.fr/\Ev (λf=>f∉F\/ ∃x,(f,x)∈ps) e e'/\(∀p∈ps,p∈ke)/\(∀f,aS.own f∈ze-> ∃x,(f,x)∈ke)/\e'.B=e.B/\(∀l∈ze,l≠ .un):=by
 induction ks with
 |nil=>intro ps ke ls ms rest vs e st K' hi h3 gp hF kI hl ht hK;cases ht;exact ⟨e,st,[],hK,hi,hl,rfl,.refl _ _,λp hp=>hp,λf hf=>by simp at hf,rfl,by simp⟩
 |cons k ks ih=>
  intro ps ke ls ms rest vs e st K' hi h3 gp hF kI hl ht hK;cases ht with
  |cons ht1 LQ=>
   obtain ⟨v,u,rfl,Bh,sr⟩:=hl;simp only [dw,OF,gC] at hK;have lW:=SX kI;obtain ⟨e1,dA,l',su,uX,LD,E6,adA,ZG,Cr,hB1,ZH⟩:=Wr hi h3 gp (λf hf=>hF f (by rw [Gc];exact IS _ hf)) Bh ht1 hK (λf ty eT hk=>lW f ty eT (by rw [hk];simp));have ZI:je c ks=true:=by
    cases k with
    |k x=>exact kI
    |own f ty eT=>
     simp only [je] at kI;cases hI:c.tv ty with
     |none=>simp [hI] at kI
     |some I=>simpa [hI] using kI
   obtain ⟨e2,ei,ze,zW,Yh,hr2,ac8,akI,akJ,akK,hB2,aoP⟩:=ih uX h3 gp (λf hf=>hF f (by rw [Gc];exact No _ hf)) ZI sr LQ su;refine ⟨e2,ei,l'::ze,zW,Yh,⟨v,u,rfl,?_,hr2⟩,ac8.trans E6,adA.trans (akI.aoN ?_),λp hp=>akJ p (ZG p hp),?_,hB2.trans hB1,by intro l hl;rcases AS.1 hl with rfl|hl<;>first|exact ZH|exact aoP l hl⟩
   ·exact LD.ev akI (λf hf=> .inr (Cr f hf))
   ·rintro f (hf|⟨x,hx⟩)
    ·exact .inl hf
    ·exact .inr ⟨x,ZG _ hx⟩
   ·intro f hf;rcases AS.1 hf with hf|hf
    ·obtain ⟨x,hx⟩:=Cr f hf.symm;exact ⟨x,akJ _ hx⟩
    ·exact akK f hf
inductive TO (st:St):List (Nat×Nat)->List (Nat×OK)->List MV->Prop
 |nil (ps):TO st ps [] []
 |sc {ps ke t k l ms r ns}:av st.fr t= .sc l->TKs st ps [k] [l] ms ke->TO st ke r ns->TO st ps ((t,.sc k)::r) (ms++ns)
 |ag {ps ke t ks ls ms r ns}:av st.fr t= .ag ls->TKs st ps ks ls ms ke->TO st ke r ns->TO st ps ((t,.ag ks)::r) (ms++ns)
 |box {ps ke t ks ls ms r ns}:av st.fr t= .box ls->TKs st ps ks ls ms ke->TO st ke r ns->TO st ps ((t,.box ks)::r) (ms++ns)
 |mp {ps t s es r ns}:av st.fr t= .box [.mp s es]->TO st ps r ns->TO st ps ((t,.mp s)::r) (.list es::ns)
 |pt {ps t root off r ns}:av st.fr t= .ptr root off->BX root=false->EV (av st.fr root)=true->TO st ps r ns->TO st ps ((t,.pt root off)::r) ns
theorem tk {os:List (Nat×OK)}: ∀{ps:List (Nat×Nat)}{R:Type}{r:R} {K':List MV->Option R},om st ps os K'=some r-> ∃ms,TO st ps os ms/\K' ms=some r:=by
 induction os with
 |nil=>intro ps R r K' h;exact ⟨[],.nil ps,h⟩
 |cons p os ih=>
  intro ps R r K' h;obtain ⟨t,k⟩:=p;simp only [om] at h;split at h
  ·rename_i k l hf;obtain ⟨ms,ke,h1,h⟩:=xT h;obtain ⟨ns,h2,h⟩:=ih h;simp only [xH] at h;exact ⟨_,.sc hf h1 h2,h⟩
  ·rename_i ks ls hf;obtain ⟨ms,ke,h1,h⟩:=xT h;obtain ⟨ns,h2,h⟩:=ih h;simp only [xH] at h;exact ⟨_,.ag hf h1 h2,h⟩
  ·rename_i ks ls hf;obtain ⟨ms,ke,h1,h⟩:=xT h;obtain ⟨ns,h2,h⟩:=ih h;simp only [xH] at h;exact ⟨_,.box hf h1 h2,h⟩
  ·rename_i s s' es hf;cases hm:msB s s' with
   |false=>simp [hm] at h
   |true=>simp only [hm,cond_true] at h;have:=ahw hm;subst this;obtain ⟨ns,h2,h⟩:=ih h;exact ⟨_,.mp hf h2,h⟩
  ·rename_i root off YE V7 hf;cases hc:AT root YE&&(AT off V7&&(!BX root&&EV (av st.fr root))) with
   |false=>simp [hc] at h
   |true=>rw [hc] at h;simp only [sh,IN] at hc;obtain ⟨k1,k2,k3,k4⟩:=hc;have k1:=c8 k1;have k2:=c8 k2;subst k1 k2;obtain ⟨ns,h2,h⟩:=ih h;exact ⟨_,.pt hf k3 k4 h2,h⟩
  ·simp at h
theorem ZJ {os:List (Nat×OK)}: ∀{ps:List (Nat×Nat)}{ms:List MV}{st:St},cG c Zb e st a w->cG c Zi e3 np a w->TO np ps os ms->YF os ms st K=some r-> ∃cO,cG c Zb e cO a w/\K cO=some r:=by
 induction os with
 |nil=>intro ps ms st h h3 ht hK;cases ht;exact ⟨st,h,hK⟩
 |cons p os ih=>
  obtain ⟨t,k⟩:=p;intro ps ms st h h3 ht hK;cases k with
  |pt root off=>
   cases ht with
   |pt hf hp hb LQ=>
    obtain ⟨pr,q,fr,m⟩:=st;simp only [YF] at hK;cases hc:!BX root&&(EV (av fr root)&&!dv (av fr t)) with
    |false=>simp [hc] at hK
    |true=>
     rw [hc] at hK;simp only [sh,IN] at hc;obtain ⟨_,wj,hn⟩:=hc;simp only [cond_true,nL] at hK;obtain ⟨cs,SH,_⟩:=Bj wj;have hB:=PG h3 h hp hb wj;have hv:ah e (a.tmps.getD t undef) (.ptr root off):=by have:=h3.slot t;rw [hf] at this;simp only [cz,ah] at this⊢;rw [hB];exact this
     exact ih (h.Zp SH hn hv) h3 LQ hK
  |_=>simp [YF] at hK
theorem Ws {F:List Nat}{os:List (Nat×OK)}: ∀{ps:List (Nat×Nat)}{ms:List MV}{e:Env}{st:St},Inv c Zb Zi e3 np F ps e st a w->cG c Zi e3 np a w->(∀b,Zi.In b->Zb.In b)-> (∀f∈cI os,f∈F/\f∉Zb.cY)->(∀t∈dZ os,t∉Zi.df)->e8 c os=true->TO np ps os ms->oo st os ms K=some r-> ∃e' cO,cG c Zb e' cO a w/\e'.φ=e3.φ/\K cO=some r:=by
 induction os with
 |nil=>intro ps ms e st hi h3 gp hF hk kI ht hK;cases ht;exact ⟨e,st,hi.wC,hi.φ,hK⟩
 |cons p os ih=>
  intro ps ms e st hi h3 gp hF hk kI ht hK;obtain ⟨t,k⟩:=p;have h3t:=h3.slot t;have next: ∀{ke:List (Nat×Nat)} {s:Slot} {e1:Env} {dA:St} {ns:List MV},Inv c Zb Zi e3 np F ke e1 dA a w->dW s=false->dv s=false->ah e1 (a.tmps.getD t undef) s->(∀f,aS.own f∈o4 s-> ∃x,(f,x)∈ke)-> (∀f∈cI os,f∈F/\f∉Zb.cY)->e8 c os=true->TO np ke os ns->(Pf dA t s λst=>oo st os ns K)=some r-> ∃e' cO,cG c Zb e' cO a w/\e'.φ=e3.φ/\K cO=some r:=by
   intro ke s e1 dA ns uX hp hb hr adx hF2 ZI LQ hK;simp only [Pf,nL] at hK;have hg: ∀t',av (cM dA.fr t s) t'=if t'=t then s else av dA.fr t':=λt'=>cr _ _ _ _
   refine ih ⟨uX.wC.ady uX.ptr hp hb hr,uX.φ,?_,uX.jN,uX.pair,uX.has,uX.own,?_,?_⟩ h3 gp hF2 (λt' CH=>hk t' (by simp [dZ,CH])) ZI LQ hK
   ·intro t' cs Fa;have Fa:av (cM dA.fr t s) t'= .box cs:=Fa;rw [hg] at Fa;by_cases vJ:t'=t
    ·rw [if_pos vJ] at Fa;subst Fa;simp [dv] at hb
    ·rw [if_neg vJ] at Fa;exact uX.box t' cs Fa
   ·intro t';show dW (av (cM dA.fr t s) t')=false;rw [hg];by_cases vJ:t'=t
    ·rw [if_pos vJ];exact hp
    ·rw [if_neg vJ];exact uX.ptr t'
   ·intro t' f hm;have hm:aS.own f∈o4 (av (cM dA.fr t s) t'):=hm;rw [hg] at hm;by_cases vJ:t'=t
    ·rw [if_pos vJ] at hm;exact .inr (adx f hm)
    ·rw [if_neg vJ] at hm;exact uX.men t' f hm
  have ZK: ∀{ke:List (Nat×Nat)} {ls ze:List aS} {ob:Obj} {e1:Env} {dA:St} {ns:List MV},Inv c Zb Zi e3 np F ke e1 dA a w->av np.fr t= .box ls->tied Zb t (a.tmps.getD t undef) ze (e3.B t)->w.heap[e3.B t]? =some ob->ki e1 ob ze-> (∀f,aS.own f∈ze-> ∃x,(f,x)∈ke)->(∀f∈cI os,f∈F/\f∉Zb.cY)->e8 c os=true->TO np ke os ns->(Pf dA t (.box ze) λst=>oo st os ns K)=some r-> ∃e' cO,cG c Zb e' cO a w/\e'.φ=e3.φ/\K cO=some r:=by
   intro ke ls ze ob e1 dA ns uX hf hv dx LD Cr hF2 ZI LQ su;rw [hf] at h3t;have Fa:=h3t.2;simp only [Pf,nL] at su;have htp:t∉Zi.df:=hk t (by simp [dZ]);have vI:Zi.In (e3.B t):=Pm Fa.dm htp;have hg: ∀t',av (cM dA.fr t (.box ze)) t'=if t'=t then .box ze else av dA.fr t':=λt'=>cr _ _ _ _
   have lN:=uX.wC.ahJ (t:=t) (bB:=e3.B t) (cs:=ze) uX.ptr hv ⟨.inr (gp _ vI),⟨ob,dx,LD⟩,λoff=>by rw [uX.φ];exact Fa.free off⟩ (by
     intro t' gK E0 dG hbe;rcases uX.box t' gK E0 with h0|⟨h0,lZ,h1⟩
     ·exact h0 (by rw [hbe];exact vI)
     ·exact h3.bb t' t lZ ls h1 hf dG (by rw [<-h0];exact hbe))
    (by
     intro f o ho hbe;rcases uX.jN f o _ ho hbe with h0|⟨g,h0⟩
     ·exact h0 vI
     ·obtain ⟨h5,o5,h6⟩:=uX.pair f g h0;rw [h5] at hbe;exact h3.bf t ls g o5 hf h6 hbe)
   refine ih (e:=e1.Dq t (e3.B t)) ⟨lN,uX.φ,?_,uX.jN,uX.pair,uX.has,uX.own,?_,?_⟩ h3 gp hF2 (λt' CH=>hk t' (by simp [dZ,CH])) ZI LQ su
   ·intro t' cs E0;have E0:av (cM dA.fr t (.box ze)) t'= .box cs:=E0;rw [hg] at E0;show¬Zi.In (if t'=t then e3.B t else e1.B t')\/((if t'=t then e3.B t else e1.B t')=e3.B t'/\_);by_cases vJ:t'=t
    ·subst vJ;simp only [if_true];exact .inr ⟨trivial,ls,hf⟩
    ·rw [if_neg vJ] at E0⊢;exact uX.box t' cs E0
   ·intro t';show dW (av (cM dA.fr t (.box ze)) t')=false;rw [hg];by_cases vJ:t'=t
    ·rw [if_pos vJ];rfl
    ·rw [if_neg vJ];exact uX.ptr t'
   ·intro t' f hm;have hm:aS.own f∈o4 (av (cM dA.fr t (.box ze)) t'):=hm;rw [hg] at hm;by_cases vJ:t'=t
    ·rw [if_pos vJ] at hm;exact .inr (Cr f hm)
    ·rw [if_neg vJ] at hm;exact uX.men t' f hm
  cases ht with
  |sc hf ht1 LQ=>
   rename_i ke k l ms ns;rw [hf] at h3t;simp only [e8] at kI;cases Is:je c [k] with
   |false=>simp [Is] at kI
   |true=>
    simp only [Is,cond_true] at kI;have hF1: ∀f∈bK [k],f∈F/\f∉Zb.cY:=λf hf=>hF f (by simp only [cI];exact IS _ hf);have hF2: ∀f∈cI os,f∈F/\f∉Zb.cY:=λf hf=>hF f (by simp only [cI];exact No _ hf);simp only [oo] at hK;have uQ: ∃vs,bp e3 vs l/\ ∀(e1:Env) (l':aS),bp e1 vs l'->(∀m,l'= .p m->m.one=true)->l'≠ .un->ah e1 (a.tmps.getD t undef) (.sc l'):=by
     have h3s:ah e3 (a.tmps.getD t undef) (.sc l):=h3t;cases ht1 with
     |cons Yk _=>
      generalize a.tmps.getD t undef=v at h3s;by_cases hh: ∃x,l= .hs x
      ·obtain ⟨x,rfl⟩:=hh;refine ⟨bT x,rfl,λe1 l' B0 ho hu=> ?_⟩;have hv:v= .agg (bT x).toArray:=h3s;have hlen:=dJ x;cases l' with
       |un=>exact absurd rfl hu
       |hs y=>have B0:bT x=bT y:=B0;show v=_;rw [<-B0];exact hv
       |nil=>have B0:bT x=[_]:=B0;rw [B0] at hlen;simp at hlen
       |mp s es=>exact B0.elim
       |own f=>obtain ⟨u,hu2,_⟩:=B0;rw [hu2] at hlen;simp at hlen
       |p m=>obtain ⟨u,hu2,_⟩:=B0.2.one (ho m rfl);rw [hu2] at hlen;simp at hlen
      ·have hun:l≠ .un:=by intro he;subst he;cases Yk
       have gm:bp e3 [v] l:=(ah.ag1 (λx he=>hh ⟨x,he⟩) hun).1 h3s;refine ⟨[v],gm,λe1 l' B0 ho hu=> ?_⟩;cases l' with
       |un=>exact absurd rfl hu
       |hs y=>have B0:[v]=bT y:=B0;have:=dJ y;rw [<-B0] at this;simp at this
       |nil=>exact B0
       |mp s es=>exact B0
       |own f=>exact B0
       |p m=>exact B0
    obtain ⟨vs,rO,akM⟩:=uQ;obtain ⟨e1,dA,ze,su,uX,LD,E6,adA,ZG,Cr,hB1,ZH⟩:=z7 (vs:=vs) hi h3 gp hF1 Is (show aJ e3 vs [l] from ⟨vs,[],by simp,rO,rfl⟩) ht1 hK;split at su
    ·rename_i l';obtain ⟨v1,u1,hvu,Bh,hu1⟩:=LD;have hu1:u1=[]:=hu1;subst hu1;have hvu:vs=v1:=by simpa using hvu
     subst hvu;refine next uX rfl rfl ?_ (λf hf=>Cr f (by simpa [o4] using hf)) hF2 kI LQ su
     refine akM e1 l' Bh ?_ ?_
     ·intro m hm;subst hm;exact Bh.1
     ·exact ZH l' (by simp)
    ·cases su
  |ag hf ht1 LQ=>
   rename_i ke ks ls ms ns;rw [hf] at h3t;simp only [e8] at kI;cases Is:je c ks with
   |false=>simp [Is] at kI
   |true=>simp only [Is,cond_true] at kI;simp only [oo] at hK;have h3s:ah e3 (a.tmps.getD t undef) (.ag ls):=h3t;simp only [ah] at h3s;obtain ⟨arr,hv,rO⟩:=h3s;obtain ⟨e1,dA,ze,su,uX,LD,E6,adA,ZG,Cr,hB1,ZH⟩:=z7 hi h3 gp (λf hf=>hF f (by simp only [cI];exact IS _ hf)) Is rO ht1 hK;exact next (s:= .ag ze) uX rfl rfl ⟨arr,hv,LD⟩ Cr (λf hf=>hF f (by simp only [cI];exact No _ hf)) kI LQ su
  |box hf ht1 LQ=>
   rename_i ke ks ls ms ns;rw [hf] at h3t;simp only [e8] at kI;cases Is:je c ks with
   |false=>simp [Is] at kI
   |true=>
    simp only [Is,cond_true] at kI;simp only [oo] at hK;have Ds:fT ls=false:=by
     cases hm:fT ls with
     |false=>rfl
     |true=>obtain ⟨s,es,rfl⟩:=Ni hm;cases ht1;rename_i h1 _;cases h1
    obtain ⟨hv,Fa⟩:=h3t;cases Du:BX t&&!bX st.df (posOf t) with
    |true=>simp [Du] at hK
    |false=>
    simp only [Du,cond_false] at hK;have uC: ∀ze,fT ze=false->tied Zb t (a.tmps.getD t undef) ze (e3.B t):=λze hm'=>⟨λhp=>by rw [hv.1 hp,vE Ds,vE hm'],λhp=>by
     obtain ⟨k1,k2⟩:=hv.2 hp;rw [hp] at Du;have k3:posOf t∈Zb.df:=by rw [<-hi.wC.defers.2.1,<-b8];simpa using Du
     exact ⟨k3,by rw [<-hi.wC.defers.2.2.2 _ k3,h3.defers.2.2.2 _ k1,k2]⟩⟩
    obtain ⟨arr,T,dx,rO⟩:=Fa.cells Ds;obtain ⟨e1,dA,ze,su,uX,LD,E6,adA,ZG,Cr,hB1,ZH⟩:=z7 hi h3 gp (λf hf=>hF f (by simp only [cI];exact IS _ hf)) Is rO ht1 hK;exact ZK uX hf (uC _ LD.Ck) dx ⟨rfl,LD⟩ Cr (λf hf=>hF f (by simp only [cI];exact No _ hf)) kI LQ su
  |mp hf LQ=>
   rename_i s es ns;rw [hf] at h3t;simp only [e8] at kI;simp only [oo] at hK;cases Du:BX t with
   |true=>simp [Du] at hK
   |false=>
   simp only [Du,cond_false,gC,gL] at hK;obtain ⟨R7,Fa⟩:=h3t;have hv:tied Zb t (a.tmps.getD t undef) [aS.mp s es] (e3.B t):= .own Du (R7.1 Du);obtain ⟨ob,dx,Wt⟩:=Fa.obj;cases ob with
   |cells arr T z=>exact absurd Wt.2.Ck (by simp [fT])
   |map arr n=>exact ZK hi hf hv dx Wt (λf hf=>by simp at hf) (λf hf=>hF f (by simp only [cI];exact hf)) kI LQ hK
   |stringIter x n=>exact ZK hi hf hv dx Wt (λf hf=>by simp at hf) (λf hf=>hF f (by simp only [cI];exact hf)) kI LQ hK
   |_=>exact Wt.elim
  |pt hf hp hb LQ=>simp only [oo] at hK;obtain ⟨cO,g1,g2⟩:=ZJ hi.wC h3 (.pt hf hp hb LQ) hK;exact ⟨e,cO,g1,hi.φ,g2⟩
theorem Hm {os:List (Nat×OK)}{ms:List MV}(hJ:Cq c Zb Zi e B hn a w)(h3:cG c Zi e3 np a w) (hφ:e3.φ=e.φ)(hos:(∀t∈dZ os,t∈dZ hn.all)/\(∀f∈cI os,f∈cI hn.all))(kI:e8 c os=true)(ht:TO np [] os ms)(hK:oo B os ms K=some r): ∃e' cO,cG c Zb e' cO a w/\e'.φ=e.φ/\K cO=some r:=by
 rw [<-hφ];refine Ws (F:=cI hn.all) ⟨hJ.wC,hφ.symm,λt cs hb=> .inl (hJ.box t cs hb),λf o b ho hb=> .inl (hJ.jN f o b ho hb),λf g hp=>by simp at hp,λf x hp=>by simp at hp,?_,hJ.ptr,λt f hm=> .inl (hJ.men t f hm)⟩ h3 hJ.sub ?_ ?_ kI ht hK
 ·intro f hf o ho;rw [(hJ.ahG f hf).2] at ho;cases ho
 ·intro f hf;exact ⟨hos.2 f hf,(hJ.ahG f (hos.2 f hf)).1⟩
 ·intro t CH;exact (hJ.akB t (hos.1 t CH)).2
end
end Dn
/-
  Code. Conditions: none.
-/
namespace Dn
open Go
theorem uY {os:List (Nat×OK)}{t:Nat}:t∈dZ os↔ ∃k,(t,k)∈os:=by
 induction os with
 |nil=>simp [dZ]
 |cons p os ih=>
  obtain ⟨t',k'⟩:=p;simp only [dZ,AS,ih,aaf];constructor
  ·rintro (rfl|⟨k,h⟩)
   ·exact ⟨k',.inl ⟨rfl,rfl⟩⟩
   ·exact ⟨k,.inr h⟩
  ·rintro ⟨k,⟨rfl,_⟩|h⟩
   ·exact .inl rfl
   ·exact .inr ⟨k,h⟩
def ZL:OK->List Nat
 | .sc k=>bK [k]
 | .ag ks=>bK ks
 | .box ks=>bK ks
 | .mp _=>[]
 | .pt _ _=>[]
theorem NA (t:Nat)(k:OK)(os:List (Nat×OK)):cI ((t,k)::os)=ZL k++cI os:=by cases k<;>rfl
theorem uZ {os:List (Nat×OK)}{f:Nat}:f∈cI os↔ ∃p∈os,f∈ZL p.2:=by
 induction os with
 |nil=>simp [cI]
 |cons p os ih=>obtain ⟨t',k'⟩:=p;rw [NA];simp [ih]
def It (c:Ctx):OK->Bool
 | .sc k=>je c [k]
 | .ag ks=>je c ks
 | .box ks=>je c ks
 | .mp _=>true
 | .pt _ _=>true
theorem PP {c:Ctx}(t:Nat)(k:OK)(os:List (Nat×OK)):e8 c ((t,k)::os)=(It c k&&e8 c os):=by
 cases k with
 |sc k=>simp only [e8,It];cases je c [k]<;>rfl
 |ag k=>simp only [e8,It];cases je c k<;>rfl
 |box k=>simp only [e8,It];cases je c k<;>rfl
 |mp s=>simp only [e8,It,acO]
 |pt r o=>simp only [e8,It,acO]
theorem Iu {c:Ctx}{os:List (Nat×OK)}:e8 c os=true↔ ∀p∈os,It c p.2=true:=by
 induction os with
 |nil=>simp [e8]
 |cons p os ih=>obtain ⟨t',k'⟩:=p;rw [PP,sh,ih,List.forall_mem_cons]
theorem ZM {l:List (Nat×List (Nat×OK))}{e:Nat}{p:Nat×OK}(h:p∈Yt l e):p∈Uv l:=by
 induction l with
 |nil=>simp [Yt] at h
 |cons q l ih=>
  obtain ⟨k,m⟩:=q;simp only [Yt] at h;simp only [Uv,abG];cases hb:AT k e with
  |true=>simp [hb] at h;exact .inl h
  |false=>simp [hb] at h;exact .inr (ih h)
theorem SY {hn:se}{e:Nat}:(∀t∈dZ (hn.ex e),t∈dZ hn.all)/\(∀f∈cI (hn.ex e),f∈cI hn.all)/\ ∀{c:Ctx},e8 c hn.all=true->e8 c (hn.ex e)=true:=by
 have hm: ∀p∈hn.ex e,p∈hn.all:=λp hp=>No _ (ZM hp);refine ⟨λt ht=> ?_,λf hf=> ?_,λh=> ?_⟩
 ·obtain ⟨k,hk⟩:=uY.1 ht;exact uY.2 ⟨k,hm _ hk⟩
 ·obtain ⟨p,hp,hf⟩:=uZ.1 hf;exact uZ.2 ⟨p,hm _ hp,hf⟩
 ·rw [Iu] at h⊢;exact λp hp=>h p (hm p hp)
theorem ZN {hn:se}:(∀t∈dZ hn.outs,t∈dZ hn.all)/\(∀f∈cI hn.outs,f∈cI hn.all)/\ ∀{c:Ctx},e8 c hn.all=true->e8 c hn.outs=true:=by
 have hm: ∀p∈hn.outs,p∈hn.all:=λp hp=>IS _ hp;refine ⟨λt ht=> ?_,λf hf=> ?_,λh=> ?_⟩
 ·obtain ⟨k,hk⟩:=uY.1 ht;exact uY.2 ⟨k,hm _ hk⟩
 ·obtain ⟨p,hp,hf⟩:=uZ.1 hf;exact uZ.2 ⟨p,hm _ hp,hf⟩
 ·rw [Iu] at h⊢;exact λp hp=>h p (hm p hp)
theorem PQ {R:Type}{r:R}{l:List Nat}{e:Nat}{K:Nat->Option R}(h:KD l e K=some r):K e=some r:=by
 induction l with
 |nil=>simp [KD] at h
 |cons p l ih=>
  cases l with
  |nil=>
   simp only [KD,gj] at h;by_cases he:e=p
   ·subst he;simpa using h
   ·simp [he] at h
  |cons q l=>
   simp only [KD,gj] at h;by_cases he:e=p
   ·subst he;simpa using h
   ·simp only [he,decide_false,cond_false] at h;exact ih h
theorem Wu {σ R:Type}{r:R}{body:σ->Option (Sum σ R)}{s:σ}(h:Loop body s=some r): ∃n,iter body n s=some r:=by
 unfold Loop at h;split at h
 ·rename_i hx;obtain ⟨n,hn⟩:=aaK hx;exact ⟨n,by rw [hn];exact h⟩
 ·cases h
def Fc:Nat->Exit
 |0=> .normal
 |1=> .ret
 |n+2=> .exit n
section
variable {P:Program}{c:Ctx}{Z Zb Zi:cb} {e e' e3:Env}{st cO np B:St} {a a':Act} {w w':World}{R:Type}{r:R}{Q:Exit->Act->World->Prop}{o:Oper}{hn:se}
def NB (P:Program)(c:Ctx)(id:Nat)(ops:Array Oper)(d:Bool)(l:List Oper):Prop:=∀{Z:cb} {e:Env} {st:St} {a:Act} {w:World} {R:Type} {K:St->Option R} {r:R} {Q:Exit->Act->World->Prop},cG c Z e st a w->BZ c ops.toList l st K=some r-> (∀a' w',Out c Z K r e.φ w a' w'->Q .normal a' w')->(aeg id ops d).wp P Q a w
theorem Wv (hG:Good P c)(id:Nat)(ops:Array Oper):NB P c id ops false ops.toList:=by
 intro Z e st a w R K r Q h hK hQ;refine wp_region (ahF hG (os:=ops.toList) ?_ h hK (.refl _ _ _) hQ);apply List.ext_getElem?;intro i;simp only [acE];by_cases hi:i<ops.size
 ·simp [List.getElem?_range hi,hi]
 ·have h1:(aeF ops.size)[i]? =none:=by simp;omega
  have h2:ops.toList[i]? =none:=by simp;omega
  rw [h1,h2];rfl
theorem LR {id:Nat}{ops:Array Oper}{d:Bool}{l:List Oper}{K:St->Option R}(hr:NB P c id ops d l)(h:cG c Z e st a w)(hK:Hh c id ops.toList l st K=some r)(hQ: ∀a' w',Out c Z K r e.φ w a' w'->Q .normal a' w'):(aeg id ops d).wp P Q a w:=by
 unfold Hh at hK;cases hg:guarded ops.toList with
 |false=>simp only [hg,cond_false] at hK;obtain ⟨cO,h',hK⟩:=uT h hK;exact hr h' hK hQ
 |true=>
  simp only [hg,cond_true] at hK;obtain ⟨Zi,e1,e2,dA,ei,h1,t1,hφ,hk,j1,j2,gp,kI,hK⟩:=Ir h hK;obtain ⟨vs,hv,hK⟩:=qA hK;obtain ⟨asZ,Ky,hv⟩:=uT h1 hv;refine hr Ky hv ?_;rintro a' w' ⟨e3,np,h3,t3,hv3⟩;obtain ⟨ms,ht,Ww⟩:=tk hv3;cases Ww;have t3':Trans Zi.In e2.φ w e3.φ w':=by rw [hφ];exact t3
  have jl:=j1.later t3' h3.qe h3.defers.1 h3.size h3.defers.2.2.2;obtain ⟨s1,s2,s3⟩:=SY (hn:=c.HI id) (e:=0);obtain ⟨e5,st5,g1,g2,g3⟩:=Hm jl h3 rfl ⟨s1,s2⟩ (s3 kI) ht hK;refine hQ a' w' ⟨e5,st5,g1,?_,g3⟩;rw [g2];exact t1.trans ⟨t3.ph,λb hb=>t3.heap b (λhz=>hb (gp b hz)),λb o hb=>t3.free b o (λhz=>hb (gp b hz)),t3.size,t3.rest⟩
theorem Trans.sup {I J:Nat->Prop} {φ φ':Ph}(h:Trans I φ w φ' w')(hs: ∀b,I b->J b):Trans J φ w φ' w':=⟨h.ph,λb hb=>h.heap b (λhz=>hb (hs b hz)),λb o hb=>h.free b o (λhz=>hb (hs b hz)),h.size,h.rest⟩
theorem LS {n:Nat}{next:Act->World->Prop}(hn:n≠0):Exit.then next Q (Fc n)=Q (Fc n):=by
 match n,hn with
 |1,_=>rfl
 |n+2,_=>rfl
def PR (P:Program)(c:Ctx)(id:Nat)(ops:Array Oper):Prop:=∀{Z:cb} {e:Env} {st:St} {a:Act} {w:World} {R:Type} {K:St->Option R} {r:R} {Q:Exit->Act->World->Prop},cG c Z e st a w->YJ c id ops.toList st K=some r-> (∀a' w',Out c Z K r e.φ w a' w'->Q .normal a' w')->(aeg id ops false).wp P Q a w
def UX (P:Program)(c:Ctx):Prop:=(∀(id:Nat) (ops:Array Oper),PR P c id ops)/\(∀(id:Nat) (ops:Array Oper) (l:List Oper),CD c ops (c.ord id)=true->qy ops.toList (c.ord id)=some l->NB P c id ops true l)/\ ∀(id:Nat) (ops:Array Oper) (k:Nat) (l:List Nat) {Z:cb} {e:Env} {st:St} {a:Act} {w:World} {R:Type} {K:St->Option R} {r:R} {Q:Exit->Act->World->Prop},cG c Z e st a w->Pl c st K k ops l=some r-> (∀a' w',Out c Z K r e.φ w a' w'->Q .normal a' w')->(aeg id ops true).wp P Q a w
theorem Wx {R:Type}{x y:Option R}{r:R}(h:both x y=some r):x=some r/\y=some r:=by
 unfold both at h;split at h
 ·rename_i he;exact ⟨h,by rw [<-he];exact h⟩
 ·cases h
theorem SZ {n:Nat}{l o1 o2:List Nat}{A B:Nat}(h:YK n l=some (o1,o2,A,B)):A≠B/\A<n/\B<n:=by
 unfold YK at h;split at h
 ·rename_i A' B' _;cases hb:AT A' B'||(acF n A'||acF n B') with
  |true=>rw [hb] at h;cases h
  |false=>
   rw [hb] at h;simp only [cond_false,AI,aaf] at h;obtain ⟨_,_,rfl,rfl⟩:=h;simp only [By] at hb;obtain ⟨h1,h2,h3⟩:=hb;refine ⟨λhe=> ?_,?_,?_⟩
   ·rw [he] at h1;simp [gj] at h1
   ·by_cases hh:A'<n
    ·exact hh
    ·rw [acI (by omega)] at h2;cases h2
   ·by_cases hh:B'<n
    ·exact hh
    ·rw [acI (by omega)] at h3;cases h3
 ·cases h
theorem ahL {ts:List Nat}{K:St->Option R}(h:cG c Z e st a w)(hK:fzK c ts st K=some r): ∃e' cO,cG c Z e' cO a w/\Trans Z.In e.φ w e'.φ w/\K cO=some r:=by
 unfold fzK at hK;split at hK
 ·exact ⟨e,st,h,.refl _ _ _,hK⟩
 ·obtain ⟨e',cO,ms,h1,h2,_,h3,_⟩:=xO h hK;exact ⟨e',cO,h1,h2.tr,h3⟩
theorem UY (hG:Good P c)(hD:UX P c): ∀(code:Code){R:Type}{r:R}{Z:cb}{e:Env}{st:St}{a:Act}{w:World}{K:Nat->St->Option R}{Q:Exit->Act->World->Prop},cG c Z e st a w->pR c code R st K=some r-> (∀n e' cO a' w',cG c Z e' cO a' w'->Trans Z.In e.φ w e'.φ w'->K n cO=some r->Q (Fc n) a' w')->code.wp P Q a w:=by
 intro code;induction code with
 |skip=>intro R r Z e st a w K Q h hK hQ;exact wp_skip (hQ 0 e st a w h (.refl _ _ _) hK)
 |exit id=>intro R r Z e st a w K Q h hK hQ;exact wp_exit (hQ (id+2) e st a w h (.refl _ _ _) hK)
 |ret=>intro R r Z e st a w K Q h hK hQ;exact wp_ret (hQ 1 e st a w h (.refl _ _ _) hK)
 |region id ops d=>
  intro R r Z e st a w K Q h hK hQ;have KM: ∀a' w',Out c Z (λst=>K 0 st) r e.φ w a' w'->Q .normal a' w':=by rintro a' w' ⟨e2,ei,h1,h2,h3⟩;exact hQ 0 e2 ei a' w' h1 h2 h3
  simp only [pR,UC] at hK;obtain ⟨e0,Bc,h0,t0,hK⟩:=ahL h hK;have KM: ∀a' w',Out c Z (λst=>K 0 st) r e0.φ w a' w'->Q .normal a' w':=by rintro a' w' ⟨e2,ei,h1,h2,h3⟩;exact KM a' w' ⟨e2,ei,h1,t0.trans h2,h3⟩
  replace h:=h0
  cases d with
  |false=>exact hD.1 id ops h hK KM
  |true=>
   simp only [cond_true] at hK;cases h2:!AT (c.ord id).length ops.toList.length with
   |true=>
    simp only [h2,cond_true] at hK;unfold ajV at hK;cases hg:guarded ops.toList with
    |true=>simp [hg] at hK
    |false=>simp only [hg,cond_false] at hK;obtain ⟨cO,h',hK⟩:=uT h hK;exact hD.2.2 id ops _ _ h' hK KM
   |false=>
   simp only [h2,cond_false] at hK;cases hd:CD c ops (c.ord id) with
   |false=>simp [hd] at hK
   |true=>
    simp only [hd,cond_true] at hK;cases hp:qy ops.toList (c.ord id) with
    |none=>simp [hp] at hK
    |some l=>simp only [hp] at hK;exact LR (hD.2.1 id ops l hd hp) h hK KM
 |seq x y ihx ihy=>
  intro R r Z e st a w K Q h hK hQ;refine wp_seq (ihx h hK ?_);intro n e1 dA a1 w1 h1 t1 su;by_cases hn:n=0
  ·subst hn;exact ihy h1 su (λn e2 ei a2 w2 h2 t2 zW=>hQ n e2 ei a2 w2 h2 (t1.trans t2) zW)
  ·rw [LS hn];have:AT n 0=false:=by rw [gj];simp [hn]
   simp only [this,cond_false] at su;exact hQ n e1 dA a1 w1 h1 t1 su
 |cond x y z ihy ihz=>
  intro R r Z e st a w K Q h hK hQ;simp only [pR] at hK;obtain ⟨hx,_⟩:=h.eval x;split at hK
  ·rename_i v hv;rw [hv] at hx;have hxv:=HZ hx;refine wp_cond hxv ?_;cases hj:bX (lT y) 0&&bX (lT z) 0 with
   |false=>
    simp only [hj,cond_false] at hK;cases v with
    |true=>exact ihy h hK hQ
    |false=>exact ihz h hK hQ
   |true=>
    simp only [hj,cond_true] at hK;generalize hh:c.Hf ((gf (.seq y z)).getD 0)=hn at hK;obtain ⟨Zi,e1,e2,dA,ei,h1,t1,hφ,hk,j1,j2,gp,kI,hK⟩:=Ir h hK;obtain ⟨⟨n,vs⟩,hv,hK⟩:=qA hK;have hK:=PQ hK;have fin: ∀n' e3 np a3 w3,cG c Zi e3 np a3 w3->Trans Zi.In e1.φ w e3.φ w3->om np [] (hn.ex n') (λvs=>some (n',vs))=some (n,vs)->Q (Fc n') a3 w3:=by
     intro n' e3 np a3 w3 h3 t3 hv3;obtain ⟨ms,ht,Ww⟩:=tk hv3;cases Ww;have t3':Trans Zi.In e2.φ w e3.φ w3:=by rw [hφ];exact t3
     have jl:=j1.later t3' h3.qe h3.defers.1 h3.size h3.defers.2.2.2;obtain ⟨s1,s2,s3⟩:=SY (hn:=hn) (e:=n);obtain ⟨e5,st5,g1,g2,g3⟩:=Hm jl h3 rfl ⟨s1,s2⟩ (s3 kI) ht hK;refine hQ n e5 st5 a3 w3 g1 ?_ g3;rw [g2];exact t1.trans (t3.sup gp)
    cases v with
    |true=>exact ihy h1 hv fin
    |false=>exact ihz h1 hv fin
  ·simp at hK
 |block id b ih=>
  intro R r Z e st a w K Q h hK hQ;refine wp_block (ih h hK ?_);intro n e1 dA a1 w1 h1 t1 su;by_cases hn:n=id+2
  ·subst hn;simp only [gj,decide_true,cond_true] at su;have:=hQ 0 e1 dA a1 w1 h1 t1 su;simpa [Fc,Exit.inBlock] using this
  ·simp only [gj,hn,decide_false,cond_false] at su;have:=hQ n e1 dA a1 w1 h1 t1 su;match n,hn,this with
   |0,_,this=>exact this
   |1,_,this=>exact this
   |i+2,hn,this=>have hi:i≠id:=λhe=>hn (by rw [he]);simpa [Fc,Exit.inBlock,hi] using this
 |loop b ih=>
  intro R r Z e st a w K Q h hK hQ;simp only [pR] at hK;generalize hh:c.FW ((gf b).getD 0)=hn at hK;obtain ⟨Zi,e1,e2,dA,ei,h1,t1,hφ,hk,j1,j2,gp,kI,hK⟩:=Ir h hK;obtain ⟨vs,ht,hK⟩:=tk hK;obtain ⟨⟨n,ms⟩,hl,hK⟩:=qA hK;obtain ⟨k,CM⟩:=Wu hl;have hK:=PQ hK;refine wp_loop_rounds k ?_;have key: ∀(k:Nat) (vs:List MV) (e2 e3:Env) (np:St) (a3:Act) (w3:World),cG c Zi e3 np a3 w3->e3.φ=e2.φ->TO np [] hn.outs vs->Cq c Z Zi e2 (EX st ei) hn a3 w3->Cq c Zi Zi e2 ei hn a3 w3->Trans Z.In e.φ w e2.φ w3-> iter (λms=>oo ei hn.outs ms λst=>pR c b (Sum (List MV) (Nat×List MV)) st λe st=>bif AT e 0 then om st [] hn.outs λvs=>some (.inl vs) else om st [] (hn.ex e) λvs=>some (.inr (e,vs))) k vs=some (n,ms)->Code.rounds P b Q k a3 w3:=by
   intro k;induction k with
   |zero=>intro vs e2 e3 np a3 w3 _ _ _ _ _ _ hi;simp [iter] at hi
   |succ k ihk=>
    intro vs e2 e3 np a3 w3 h3 hφ3 ht3 j1 j2 t3 hi;simp only [iter] at hi;obtain ⟨s1,s2,s3⟩:=ZN (hn:=hn);rw [rounds_succ];have go: ∀(res:Sum (List MV) (Nat×List MV)),(oo ei hn.outs vs λst=>pR c b (Sum (List MV) (Nat×List MV)) st λe st=>
     bif AT e 0 then om st [] hn.outs λvs=>some (.inl vs) else om st [] (hn.ex e) λvs=>some (.inr (e,vs)))=some res->
     (∀Sx,res= .inl Sx->iter (λms=>oo ei hn.outs ms λst=>pR c b (Sum (List MV) (Nat×List MV)) st λe st=>bif AT e 0 then om st [] hn.outs λvs=>some (.inl vs) else om st [] (hn.ex e) λvs=>some (.inr (e,vs))) k Sx=some (n,ms))->
     (∀q,res= .inr q->q=(n,ms))->b.wp P (Exit.then (Code.rounds P b Q k) Q) a3 w3:=by
     intro res z6 hl hr;obtain ⟨e5,st5,g1,g2,g3⟩:=Hm j2 h3 hφ3 ⟨s1,s2⟩ (s3 kI) ht3 z6;refine ih g1 g3 ?_;intro n' e6 st6 a6 w6 h6 t6 hK6;have t6':Trans Zi.In e2.φ w3 e6.φ w6:=by rw [<-g2];exact t6
     have jl1:=j1.later t6' h6.qe h6.defers.1 h6.size h6.defers.2.2.2;have jl2:=j2.later t6' h6.qe h6.defers.1 h6.size h6.defers.2.2.2;by_cases hn0:n'=0
     ·subst hn0;obtain ⟨Sx,ht6,hv6⟩:=tk hK6;cases hv6;exact ihk Sx {e2 with φ:=e6.φ} e6 st6 a6 w6 h6 rfl ht6 jl1 jl2 (t3.trans (t6'.sup gp)) (hl Sx rfl)
     ·rw [LS hn0];have:AT n' 0=false:=by rw [gj];simp [hn0]
      simp only [this,cond_false] at hK6;obtain ⟨Sx,ht6,hv6⟩:=tk hK6;cases hv6;cases hr _ rfl;obtain ⟨x1,x2,x3⟩:=SY (hn:=hn) (e:=n);obtain ⟨e7,st7,q1,q2,q3⟩:=Hm jl1 h6 rfl ⟨x1,x2⟩ (x3 kI) ht6 hK;refine hQ n e7 st7 a6 w6 q1 ?_ q3;rw [q2];exact t3.trans (t6'.sup gp)
    split at hi
    ·rename_i s' hs;exact go _ hs (λSx he=>by cases he;exact hi) (λq he=>by cases he)
    ·rename_i q hs;cases hi;exact go _ hs (λSx he=>by cases he) (λq he=>by cases he;rfl)
    ·cases hi
  refine key k vs e2 e1 dA a w h1 hφ.symm ht j1 j2 ?_ CM;rw [hφ];exact t1
 |_=>intros;rename_i hK _;simp [pR] at hK
end
end Dn
/-
  Whole functions. Conditions: none.
-/
namespace Dn
open Go
section
variable {P:Program}{c:Ctx}{Z Zb Zi:cb} {e e' e3:Env}{st cO np B:St} {a a':Act} {w w':World}{R:Type}{r:R}{Q:Exit->Act->World->Prop}{o:Oper}
theorem Gd {ts:List Nat}: ∀{n:Nat}{vs:List Value}{ms:List MV}{K:Fr->List MV->Option R},cN e.key e.φ vs ms->HP c ts n ms K=some r-> ∃fr rest iM oO,K fr rest=some r/\vs=iM++oO/\iM.length=ts.length/\cN e.key e.φ oO rest/\bg fr=acD n ts.length/\ (∀p∈fr,dW p.2=false/\dv p.2=false/\ ∃v,iM[p.1-n]? =some v/\ah e v p.2):=by
 induction ts with
 |nil=>intro n vs ms K h hK;exact ⟨[],ms,[],vs,hK,rfl,rfl,h,rfl,by simp⟩
 |cons t ts ih=>
  intro n vs ms K h hK;simp only [HP] at hK;cases hI:c.tv t with
  |none=>simp [hI] at hK
  |some I=>
   simp only [hI] at hK;cases ms with
   |nil=>simp [gC] at hK
   |cons m ms=>
    simp only [gC] at hK;obtain ⟨v,u,rfl,h1,h2⟩:=h;obtain ⟨s,g1,g2,hK⟩:=CN h1 hK;obtain ⟨fr,rest,iM,oO,hK,rfl,q1,q2,q3,q4⟩:=ih h2 hK;refine ⟨(n,s)::fr,rest,v::iM,oO,hK,rfl,by simp [q1],q2,?_,?_⟩
    ·simp only [bg,acB,adJ] at q3⊢;rw [q3,adK]
    ·intro p hp;rcases AS.1 hp with rfl|hp
     ·refine ⟨?_,?_,v,by simp,g1⟩
      ·cases s<;>simp [Dl] at g2<;>rfl
      ·cases s<;>simp [Dl] at g2<;>rfl
     ·obtain ⟨k1,k2,v',k3,k4⟩:=q4 p hp;refine ⟨k1,k2,v',?_,k4⟩;have hk:p.1∈bg fr:=aa6.2 ⟨p,hp,rfl⟩;rw [q3,acC] at hk;obtain ⟨i,hi,he⟩:=hk;have:p.1-n=(p.1-(n+1))+1:=by omega
      rw [this];simpa using k3
theorem LU {Hl:List (List Kd)}: ∀{n:Nat}{vs:List Value}{ms:List MV}{K:Fr->Option R},cN e.key e.φ vs ms->So Hl n ms K=some r-> ∃fr,K fr=some r/\vs.length=Hl.length/\bg fr=acD n Hl.length/\ (∀p∈fr,dW p.2=false/\(∀cs,p.2≠ .box cs)/\ ∃v,vs[p.1-n]? =some v/\ah e v p.2):=by
 induction Hl with
 |nil=>
  intro n vs ms K h hK;cases ms with
  |nil=>cases h;exact ⟨[],hK,rfl,rfl,by simp⟩
  |cons m ms=>simp [So,gN] at hK
 |cons ks Hl ih=>
  intro n vs ms K h hK;cases ms with
  |nil=>simp [So,gC] at hK
  |cons m ms=>
   simp only [So,gC] at hK;obtain ⟨v,u,rfl,h1,h2⟩:=h;unfold gP at hK;split at hK
   ·rename_i cs;obtain ⟨_,h1⟩:=h1;obtain ⟨bB,off,us,hv,hr,hφ⟩: ∃bB off us,v= .pointer (some ⟨bB,off,none⟩)/\jj e.key e.φ us cs/\ ∀j,j<us.length->e.φ bB (off+j)=us[j]? :=by
     generalize Cj:[v]=ws at h1;cases h1 with
     |rp bB off us _ hr hφ=>exact ⟨bB,off,us,by simpa using Cj,hr,hφ⟩
    obtain ⟨ls,Px,hK⟩:=xM (e:=e) (vs:=us) hK;obtain ⟨fr,hK,q1,q3,q4⟩:=ih h2 hK;refine ⟨(n,.zM ls)::fr,hK,by simp [q1],?_,?_⟩
    ·simp only [bg,acB,adJ] at q3⊢;rw [q3,adK]
    ·intro p hp;rcases AS.1 hp with rfl|hp
     ·refine ⟨rfl,λcs he=>(by cases he),v,by simp,?_⟩;simp only [ah];exact ⟨bB,off,us,hv,Px.rep hr,Px.Ye,hφ⟩
     ·obtain ⟨k1,k2,v',k3,k4⟩:=q4 p hp;refine ⟨k1,k2,v',?_,k4⟩;have hk:p.1∈bg fr:=aa6.2 ⟨p,hp,rfl⟩;rw [q3,acC] at hk;obtain ⟨i,hi,he⟩:=hk;have:p.1-n=(p.1-(n+1))+1:=by omega
      rw [this];simpa using k3
   ·simp at hK
theorem DB {r:Fr}{t:Nat}(ht:t∈bg r):(t,av r t)∈r:=by
 induction r with
 |nil=>simp [bg] at ht
 |cons p r ih=>
  obtain ⟨k,x⟩:=p;simp only [av,gj];by_cases h:k=t
  ·simp [h]
  ·simp only [h,decide_false,cond_false];simp only [bg,acB,AS] at ht;exact IT _ (ih (ht.resolve_left (λe=>h e.symm)))
def lh (tmps:Array Value):ResultVar->Sem Value
 | .tmp t=>pure (tmps.getD t undef)
 | .cell a t=>do loadVar t (<-asAddr (tmps.getD a undef))
theorem Wy {rs:List ResultVar}(hT:lV P c.ti): ∀{e:Env}{st:St}{K:List MV->Option R},cG c Z e st a w->EZ c st none rs K=some r-> ∃e' cO ms vs,cG c Z e' cO a w/\Ext Z.In e e'/\(rs.mapM (lh a.tmps)).run P w= .ok vs w/\cN e'.key e'.φ vs ms/\K ms=some r:=by
 induction rs with
 |nil=>intro e st K h hK;exact ⟨e,st,[],[],h,.refl _ _,by simp,rfl,hK⟩
 |cons x rs ih=>
  intro e st K h hK;have go: ∀(s:Slot) (v:Value),ah e v s->(lh a.tmps x).run P w= .ok v w->(na st s λm st=>EZ c st none rs λms=>K (m::ms))=some r-> ∃e' cO ms vs,cG c Z e' cO a w/\Ext Z.In e e'/\((x::rs).mapM (lh a.tmps)).run P w= .ok vs w/\cN e'.key e'.φ vs ms/\K ms=some r:=by
   intro s v hs cC hK;obtain ⟨e1,dA,m,h1,h2,h3,h4,hK⟩:=ot h hs hK;obtain ⟨e2,ei,ms,vs,q1,q2,q3,q4,hK⟩:=ih h1 hK;refine ⟨e2,ei,m::ms,v::vs,q1,h2.trans q2,?_,⟨v,vs,rfl,?_,q4⟩,hK⟩
   ·simp [aeh,cC,q3]
   ·have:=h4.mono q2.on.φ;rw [<-q2.on.key] at this;exact this
  simp only [EZ] at hK;cases x with
  |tmp t=>
   simp only at hK;have hs:=h.slot t;by_cases hb: ∃cs,av st.fr t= .box cs
   ·obtain ⟨cs,hb⟩:=hb;rw [hb] at hK;simp [na] at hK
   ·refine go (av st.fr t) (a.tmps.getD t undef) ?_ rfl hK;generalize av st.fr t=s at hs hb;cases s<;>first|exact hs|exact absurd ⟨_,rfl⟩ hb
  |cell b t=>
   simp only at hK;have hs:=h.slot b;split at hK
   ·rename_i I cs hI hb;obtain ⟨O1,R3⟩:=cc hI;rw [hb] at hs;obtain ⟨hv,Fa⟩:=hs;cases CQ:fT cs||BX b with
    |true=>simp [CQ] at hK
    |false=>
    obtain ⟨Ds,hpb⟩:=By.1 CQ;simp only [CQ,cond_false] at hK;have hv:=hv.1 hpb;rw [vE Ds] at hv;obtain ⟨arr,T,dx,rO⟩:=Fa.cells Ds;have hm:w.rangeAt (e.B b) 0 arr.toList:=by intro j v hj;rw [ac1,cell_of dx];simpa using hj
    obtain ⟨v,s,h1,h2,h3,h4⟩:=kl (P:=P) (st:=st) (s:= .skip) (hT t I O1) R3 rO hm hK;refine go s v h2 ?_ h4;simpa [lh,hv,asAddr,aeH,aew] using h1 w hm
   ·simp at hK
theorem Wz {x:ResultVar}{ty:Nat}{I:TI}{K:List MV->Option R}(hI:c.tv ty=some I)(hT:lV P c.ti)(CJ:Z.cY=[])(h:cG c Z e st a w)(hK:EZ c st (some ty) [x] K=some r): ∃v xs,([x].mapM (lh a.tmps)).run P w= .ok [v] w/\dH c Z.nc e w v ⟨ty,false,xs⟩/\K [.fresh xs]=some r:=by
 obtain ⟨uC,hc⟩:=cc hI;have go: ∀(s:Slot) (v:Value),ah e v s->(lh a.tmps x).run P w= .ok v w->(match s with
  | .sc (.own f)=>(match aV st.bk f with|some o=>bif o.eT||!AT o.ty ty then none else EZ c st (some ty) [] λms=>K (.fresh o.xs::ms)|none=>none)
  | .sc .nil=>EZ c st (some ty) [] λms=>K (.fresh []::ms)
  |_=>none)=some r-> ∃v xs,([x].mapM (lh a.tmps)).run P w= .ok [v] w/\dH c Z.nc e w v ⟨ty,false,xs⟩/\K [.fresh xs]=some r:=by
  intro s v hs cC hK;have hr:([x].mapM (lh a.tmps)).run P w= .ok [v] w:=by simp [aeh,cC]
  split at hK
  ·rename_i f;cases hf:aV st.bk f with
   |none=>simp [hf] at hK
   |some o=>
    simp only [hf] at hK;cases hb:o.eT||!AT o.ty ty with
    |true=>simp [hb] at hK
    |false=>simp only [hb,cond_false,EZ] at hK;obtain ⟨h1,h2⟩:=By.1 hb;have kI:o.ty=ty:=c8 (by simpa using h2);obtain ⟨hv,_⟩:=sw h hs hf;obtain ⟨J,cells,k1,k2,k3,k4,k5⟩:=(h.jN f o hf).row;refine ⟨v,o.xs,hr,⟨J,cells,by rw [<-kI];exact k1,k2,by rw [hv,<-kI];exact k3,k4,λbB hb=> ?_⟩,hK⟩;rw [hv] at hb;obtain ⟨q1,q2,_⟩:=k5 bB hb;refine ⟨Pm q1 (by rw [CJ];simp),λoff u hu=> ?_,λhc=>hc.elim⟩;have:=(q2 off u hu).1;rw [h1] at this;cases this
  ·simp only [EZ] at hK;simp only [ah] at hs;have hs:[v]=[acQ none 0 0]:=hs;simp at hs;refine ⟨v,[],hr,⟨I,[],uC,hc,by rw [hs];exact World.ownsRow_nil w 0 ty I.size,rfl,λbB hb=> ?_⟩,hK⟩;rw [hs] at hb;simp [BY] at hb
  ·cases hK
 simp only [EZ] at hK;cases x with
 |tmp t=>
  simp only at hK;have hs:=h.slot t;by_cases hb: ∃cs,av st.fr t= .box cs
  ·obtain ⟨cs,hb⟩:=hb;rw [hb] at hK;simp at hK
  ·refine go (av st.fr t) (a.tmps.getD t undef) ?_ rfl hK;generalize av st.fr t=s at hs hb;cases s<;>first|exact hs|exact absurd ⟨_,rfl⟩ hb
 |cell b t=>
  simp only at hK;have hs:=h.slot b;split at hK
  ·rename_i I cs hI hb;obtain ⟨O1,R3⟩:=cc hI;rw [hb] at hs;obtain ⟨hv,Fa⟩:=hs;cases CQ:fT cs||BX b with
   |true=>simp [CQ] at hK
   |false=>
   obtain ⟨Ds,hpb⟩:=By.1 CQ;simp only [CQ,cond_false] at hK;have hv:=hv.1 hpb;rw [vE Ds] at hv;obtain ⟨arr,T,dx,rO⟩:=Fa.cells Ds;have hm:w.rangeAt (e.B b) 0 arr.toList:=by intro j v hj;rw [ac1,cell_of dx];simpa using hj
   obtain ⟨v,s,h1,h2,h3,h4⟩:=kl (P:=P) (st:=st) (s:= .skip) (hT t I O1) R3 rO hm hK;refine go s v h2 ?_ h4;simpa [lh,hv,asAddr,aeH,aew] using h1 w hm
  ·simp at hK
theorem adB {f:FuncId}{fn:Func}{cE:List (List Kd)}{ms:List MV}{m:MV}(hG:Good P c)(hD:UX P c)(hf:P.funcs[f]? =some fn)(DC:(fn.name== "runtime.NumGoroutine")=false)
 (hn:c.n=fn.ntmps) (wu:fn.params.size+cE.length<=fn.ntmps) (hg:c.fe (c.key f)=false) {fresh:Option Nat} (E5: ∀ty,fresh=some ty->ty=c.sf (c.key f)/\fn.results.toList.length=1/\ ∃I,c.tv ty=some I) (hb:HQ c cE fresh fn ms=some m):lY P c f ms m:=by
 intro φ w Z vs hz gn kb;simp only [fU,hg,aaH,if_false] at gn;unfold HQ at hb;cases qT:fn.body with
 |none=>simp [qT] at hb
 |some b=>
  simp only [qT] at hb;have cC:(callFunc f vs.toArray).run P w= .ok (.enter f vs.toArray) w:=by
   have GM: ¬fn.name= "runtime.NumGoroutine" :=by simpa using DC
   simp [callFunc,hf,GM,qT]
  unfold ia;rw [cC];refine calls_of_wp hf qT ?_;let e:Env:=qg c.key φ;have gn:cN e.key e.φ vs ms:=gn;obtain ⟨fr,rest,iM,oO,hb,rfl,l1,a2,k1,s1⟩:=Gd gn hb;obtain ⟨qd,hb,l2,k2,s2⟩:=LU a2 hb;simp only [xH] at hb;have htn:(iM++oO).toArray.size=fn.params.size+cE.length:=by simp [l1,l2]
  let a:Act:={tmps:=(iM++oO).toArray++abH (fn.ntmps-(iM++oO).toArray.size) undef,defers:=[]}
  have Df: ∀(t:Nat) (v:Value),(iM++oO)[t]? =some v->a.tmps.getD t undef=v:=by intro t v ht;have dK:t<(iM++oO).length:=(aai.1 ht).1;rw [aaI];show (((iM++oO).toArray++abH _ undef)[t]?).getD undef=v;rw [ade (by simpa using dK)];simp only [aec];rw [ht];rfl
  have Iv: ∀t,dW (av (fr++qd) t)=false/\(∀cs,av (fr++qd) t≠ .box cs)/\ah e (a.tmps.getD t undef) (av (fr++qd) t):=by
   intro t;rw [zS];by_cases h1:t∈bg fr
   ·simp only [h1,if_true];obtain ⟨g1,g2,v,g3,g4⟩:=s1 _ (DB h1);refine ⟨g1,?_,?_⟩
    ·intro cs hc;simp only [hc,dv] at g2;cases g2
    ·rw [Df t v ?_];exact g4;have dK:t<iM.length:=(aai.1 g3).1;rw [adv dK];exact g3
   ·simp only [h1,if_false];by_cases h2:t∈bg qd
    ·obtain ⟨g1,g2,v,g3,g4⟩:=s2 _ (DB h2);refine ⟨g1,g2,?_⟩;rw [Df t v ?_];exact g4;have hk:=h2;rw [k2,acC] at hk;obtain ⟨i,hi,he⟩:=hk;have Du:fn.params.size=iM.length:=by rw [l1];simp
     rw [acw (by omega),<-Du];exact g3
    ·rw [sU _ _ h2];exact ⟨rfl,λcs hc=>(by cases hc),by simp [ah]⟩
  have ZO: ∀t cs,av (fr++qd) t= .box cs->False:=λt cs hc=>(Iv t).2.1 cs hc;have tg:cG c (cb.plain Z) e ⟨[],[],fr++qd,[]⟩ a w:=by
   refine ⟨⟨rfl,rfl,rfl,λt ht=>by simp [cb.plain] at ht⟩,?_,rfl,rfl,?_,?_,λt=>wE (Iv t).1,λf o ho=>by simp [aV] at ho,λt t' cs gK h1=>(ZO t cs h1).elim,λt cs f o h1=>(ZO t cs h1).elim,λf f' o o' k h1=>by simp [aV] at h1,kb,hz⟩
   ·show ((iM++oO).toArray++abH (fn.ntmps-(iM++oO).toArray.size) undef).size=c.n;rw [aeI,aey,htn,hn];omega
   ·show (bg (fr++qd)).Nodup;have:bg (fr++qd)=bg fr++bg qd:=by simp [bg]
    rw [this,k1,k2];have:acD 0 fn.params.toList.length++acD fn.params.size cE.length=acD 0 (fn.params.toList.length+cE.length):=by have:=aez (s:=0) (m:=fn.params.toList.length) (n:=cE.length);simpa using this
    rw [this];exact List.nodup_range'
   ·intro t;obtain ⟨g1,g2,g3⟩:=Iv t;show cz _ e w t _ (av (fr++qd) t);generalize av (fr++qd) t=s at g1 g2 g3;cases s<;>first|exact g3|exact absurd rfl (g2 _)
  refine UY hG hD b tg hb ?_;intro n e' cO a' w' h' t' hK;cases hle:acF n 1 with
  |false=>simp [hle] at hK
  |true=>
   simp only [hle,cond_true] at hK;have aoY: ∃φ' us,Trans Z e'.φ w' φ' w'/\Co φ' w'/\(fn.results.toList.mapM (lh a'.tmps)).run P w'= .ok us w'/\ng c Z φ' w' (c.key f) (if h:us.toArray.size=1 then us.toArray[0] else .tuple us.toArray) m:=by
    cases fresh with
    |some ty=>
     obtain ⟨h1,h2,I,h3⟩:=E5 ty rfl;match hrs:fn.results.toList,h2 with
     |[x],_=>rw [hrs] at hK;obtain ⟨v,xs,g1,g2,g3⟩:=Wz (P:=P) h3 hG.ti rfl h' hK;have g3:some (MV.fresh xs)=some m:=g3;cases g3;refine ⟨e'.φ,[v],.refl _ _ _,h'.qe,g1,?_⟩;simp only [abM,acJ,dite_true];show dH c (cb.plain Z) (qg c.key e'.φ) w' v ⟨c.sf (c.key f),false,xs⟩;rw [<-h1];exact g2.env (e':=qg c.key e'.φ) h'.key.symm rfl
    |none=>
    obtain ⟨e2,ei,ns,us,q1,q2,q3,q4,hK⟩:=Wy (P:=P) hG.ti h' hK;refine ⟨e2.φ,us,q2.tr,q1.qe,q3,?_⟩;have CM:e2.key=c.key:=q1.key;rw [CM] at q4;split at hK
    ·rename_i m';cases hK;obtain ⟨v,u,rfl,g1,g2⟩:=q4;have g2:u=[]:=g2;subst g2;simp only [abM,acJ,dite_true];cases m<;>first|exact g1|exact absurd g1.1 (by simp [MV.one])
    ·rename_i ns' dG;cases hK;have dG:us.toArray.size≠1:=by
      intro h1;cases us with
      |nil=>simp at h1
      |cons v us=>
       cases us with
       |cons=>simp at h1
       |nil=>
        cases ns with
        |nil=>cases q4
        |cons m1 ns1=>
         obtain ⟨v',u',h2,g1,g2⟩:=q4;simp at h2;obtain ⟨rfl,rfl⟩:=h2;cases ns1 with
         |nil=>exact dG m1 rfl
         |cons=>obtain ⟨_,_,h3,_⟩:=g2;simp at h3
     rw [dif_neg dG];exact ⟨us.toArray,rfl,by simpa using q4⟩
   obtain ⟨φ2,us,p1,p2,q3,p4⟩:=aoY;have z6:(results fn a'.tmps).run P w'= .ok (if h:us.toArray.size=1 then us.toArray[0] else .tuple us.toArray) w':=by
    have hm:(fn.results.mapM (lh a'.tmps)).run P w'= .ok us.toArray w':=by rw [adz];simp [q3]
    have UF:results fn a'.tmps=(do let vs<-fn.results.mapM (lh a'.tmps);pure (if h:vs.size=1 then vs[0] else .tuple vs)):=by unfold results;congr 1
    rw [UF];simp [hm]
   have PS: ∃φ',Trans Z φ w φ' w'/\Co φ' w'/\ng c Z φ' w' (c.key f) (if h:us.toArray.size=1 then us.toArray[0] else .tuple us.toArray) m:=⟨φ2,t'.trans p1,p2,p4⟩
   match n,hle with
   |0,_=>exact ⟨h'.defers.1,_,z6,_,rfl,PS.imp λφ' h=>⟨h.1,h.2.1,.plain h.2.2⟩⟩
   |1,_=>exact ⟨h'.defers.1,_,z6,_,rfl,PS.imp λφ' h=>⟨h.1,h.2.1,.plain h.2.2⟩⟩
   |n+2,hle=>simp [acF] at hle
end
end Dn
/-
  What arguments read as: values of their types. Conditions: none.
-/
namespace Dn
open Go Go.WideShapes
def Fe (W:World):Ph:=λb o=>W.cell? ⟨b,o,none⟩
theorem ZP (W:World):Co (Fe W) W:=λb o v h=>h
def NC (P:Program):List Field->Nat->Nat->Bool
 |[],o,n=>AT o n
 |f::fs,o,n=>AT f.offset o&&NC P fs (o+P.cellsOf f.type) n
def okT (P:Program):Nat->TypeId->Bool
 |0,_=>false
 |d+1,t=>match P.underlying t with
  |some .bool=>true
  |some (.int _)=>true
  |some .string=>true
  |some (.slice e)=>okT P d e&&acF 1 (P.cellsOf e)
  |some (.struct fs)=>NC P fs.toList 0 (P.cellsOf t)&&fs.toList.all λf=>okT P d f.type
  |some (.array n e)=>AT n 32&&(match P.underlying e with|some (.int .u8)=>true|_=>false)&&AT (P.cellsOf e) 1&&AT (P.cellsOf t) 32
  |_=>false
def ME (P:Program)(F:TypeId->List MV->Prop)(e:TypeId)(x:MV):Prop:=match P.underlying e with
 |some (.struct _)=> ∃cs,x= .agg cs/\F e cs
 |_=>F e [x]
def FT (F:TypeId->List MV->Prop):List TypeId->List MV->Prop
 |[],ms=>ms=[]
 |t::ts,ms=> ∃a b,ms=a++b/\F t a/\FT F ts b
def MT (P:Program):Nat->TypeId->List MV->Prop
 |0,_,_=>False
 |d+1,t,ms=>match P.underlying t with
  |some .bool=> ∃b,ms=[.b b]
  |some (.int k)=> ∃n,ms=[.i k n]/\(Lit.int k n).wf=true
  |some .string=> ∃l:List UInt8,ms=[.s l]/\l.length<=maxLen
  |some (.slice e)=> ∃xs,ms=[.list xs]/\xs.length<=maxLen/\ ∀x∈xs,ME P (MT P d) e x
  |some (.struct fs)=>FT (MT P d) (fs.toList.map (·.type)) ms
  |some (.array _ _)=> ∃h,ms=[.h h]
  |_=>False
section
variable {H:Type}{enc:TypeId×Value->H}{P:Program}{W:World}{base:Nat}{sp:Nat->Bool}{held:Bool}{key:Nat->Nat}
theorem jj.append {key:Nat->Nat} {φ:Ph}{ms ns:List MV}: ∀{vs us:List Value},jj key φ vs ms->jj key φ us ns->jj key φ (vs++us) (ms++ns):=by
 induction ms with
 |nil=>intro vs us h h';cases h;simpa using h'
 |cons m ms ih=>
  intro vs us h h';cases h with
  |cons v _ vs _ h1 h2=>rw [aeG];exact .cons v m _ _ h1 (ih h2 h')
theorem jj.ZQ {key:Nat->Nat} {φ:Ph}{v:Value}{m:MV}(h:nn key φ [v] m):jj key φ [v] [m]:=by have:=jj.cons [v] m [] [] h .nil;simpa using this
theorem jj.single {key:Nat->Nat} {φ:Ph}{vs:List Value}{m:MV}(h:jj key φ vs [m]):nn key φ vs m:=by
 cases h with
 |cons v _ vs _ h1 h2=>cases h2;simpa using h1
theorem Ff {a:Addr}{n:Nat}{cs:List Value}(h:W.cells? base a n=some cs):cs.length=n/\ ∀j,j<n->W.cell? (a.add j)=cs[j]? :=by
 unfold World.cells? at h;split at h
 ·have hl:=mapM_some_length h;refine ⟨by simpa using hl,λj hj=> ?_⟩;exact mapM_some_get h j j (by simp [hj])
 ·cases h
theorem PT {F:TypeId->List MV->Prop}{fuel:Nat}{cs:List Value}: ∀(fs:List Field)(o n:Nat)(xs:List (DataW H×List MemPlace)),NC P fs o n=true->cs.length=n-> (∀(i:Nat)(f:Field),fs[i]? =some f->DataW.trod enc P W base sp held fuel f.type ((cs.drop f.offset).take (P.cellsOf f.type))=xs[i]?)->xs.length=fs.length-> (∀f∈fs,∀gK x,DataW.trod enc P W base sp held fuel f.type gK=some x-> ∃ms,jj key (Fe W) gK ms/\F f.type ms)-> ∃ms,jj key (Fe W) (cs.drop o) ms/\FT F (fs.map (·.type)) ms:=by
 intro fs;induction fs with
 |nil=>intro o n xs hc hl _ _ _;have:o=n:=c8 hc;subst this;refine ⟨[],?_,rfl⟩;rw [<-hl,List.drop_length];exact .nil
 |cons f fs ih=>
  intro o n xs hc hl hx hxl hF;simp only [NC,sh] at hc;have ho:=c8 hc.1;cases xs with
  |nil=>simp at hxl
  |cons x xs=>have h0:=hx 0 f rfl;rw [ho] at h0;obtain ⟨m1,r1,t1⟩:=hF f (by simp) _ x (by simpa using h0);obtain ⟨m2,r2,t2⟩:=ih (o+P.cellsOf f.type) n xs hc.2 hl (λi g hg=>by have:=hx (i+1) g (by simpa using hg);simpa using this) (by simpa using hxl) (λg hg=>hF g (by simp [hg]));refine ⟨m1++m2,?_,m1,m2,rfl,t1,t2⟩;have:=r1.append r2;rw [<-aaX,aaG] at this;exact this
theorem ZR: ∀(fuel D:Nat)(t:TypeId)(cs:List Value)(x:DataW H×List MemPlace),okT P D t=true->DataW.trod enc P W base sp held fuel t cs=some x-> ∃ms,jj key (Fe W) cs ms/\MT P fuel t ms:=by
 intro fuel;induction fuel with
 |zero=>intro D t cs x _ h;simp [DataW.trod] at h
 |succ fuel ih=>
  intro D t cs x hD h;cases D with
  |zero=>simp [okT] at hD
  |succ D=>
   unfold okT at hD;cases hu:P.underlying t with
   |none=>simp [hu] at hD
   |some d=>
    cases d<;>simp only [hu] at hD<;>try (cases hD;done)
    case bool=>obtain ⟨b,rfl,_⟩:=DataW.trod_bool hu h;exact ⟨[.b b],.ZQ (.b b),by simp only [MT,hu];exact ⟨b,rfl⟩⟩
    case int k=>obtain ⟨n,rfl,_,hw⟩:=DataW.trod_int hu h;exact ⟨[.i k n],.ZQ (.i k n),by simp only [MT,hu];exact ⟨n,rfl,hw⟩⟩
    case string=>obtain ⟨s,rfl,_,hw⟩:=DataW.trod_string hu h;exact ⟨[.s s.data.toList],.ZQ (.s s),by simp only [MT,hu];exact ⟨_,rfl,by simpa using hw⟩⟩
    case struct fs=>
     obtain ⟨xs,n,hn,_,hl,hxl,hx⟩:=DataW.trod_struct hu h;have hn:n=fuel:=by omega
     subst hn;simp only [sh] at hD;obtain ⟨ms,r1,t1⟩:=PT (F:=MT P n) (key:=key) fs.toList 0 (P.cellsOf t) xs hD.1 hl (λi f hf=>hx i f (by simpa using hf)) (by simpa using hxl) (λf hf gK x' h'=>ih D f.type gK x' (aa5.1 hD.2 f hf) h');exact ⟨ms,by simpa using r1,by simp only [MT,hu];exact t1⟩
    case slice e=>
     simp only [sh] at hD;have fg:1<=P.cellsOf e:=aaL hD.2;rcases DataW.trod_slice hu h with ⟨rfl,_⟩|⟨a,len,cap,elems,rest,n,hn,rfl,_,_,hlc,Hi,hel,hx,_⟩
     ·refine ⟨[.list []],.ZQ (.list none 0 [] 0 0 0 (λ_=>[]) (by simp) (by simp) (by simp) (by simp) (by simp)),?_⟩;simp only [MT,hu];exact ⟨[],rfl,Nat.zero_le _,by simp⟩
     ·have hn:n=fuel:=by omega
      subst hn;have jO: ∀i,i<len-> ∃gK m,W.cells? base (a.add (i *P.cellsOf e)) (P.cellsOf e)=some gK/\nn key (Fe W) gK m/\ME P (MT P n) e m:=by
       intro i hi;have h1:=hx i hi;cases hc:W.cells? base (a.add (i *P.cellsOf e)) (P.cellsOf e) with
       |none=>
        rw [hc] at h1;have:elems[i]? =none:=by simpa using h1.symm
        rw [List.getElem?_eq_none_iff] at this;omega
       |some gK=>
        rw [hc] at h1;have dK:i<elems.length:=by omega
        rw [aaa dK] at h1;obtain ⟨ms,r1,t1⟩:=ih D e gK _ hD.1 (by simpa using h1);have kJ:=hD.1;by_cases hs: ∃fs,P.underlying e=some (.struct fs)
        ·obtain ⟨fs,hs⟩:=hs;exact ⟨gK,.agg ms,rfl,.agg gK ms r1,by simp only [ME,hs];exact ⟨ms,rfl,t1⟩⟩
        ·have h1m: ∃m,ms=[m]:=by
          cases n with
          |zero=>exact t1.elim
          |succ n=>
           simp only [MT] at t1;cases hue:P.underlying e with
           |none=>simp [hue] at t1
           |some de=>
            cases de<;>simp only [hue] at t1<;>first
             |exact t1.elim
             |(obtain ⟨y,hy,_⟩:=t1;exact ⟨_,hy⟩)
             |(obtain ⟨y,hy⟩:=t1;exact ⟨_,hy⟩)
             |exact absurd ⟨_,hue⟩ hs
         obtain ⟨m,rfl⟩:=h1m;refine ⟨gK,m,rfl,r1.single,?_⟩;unfold ME;cases hue:P.underlying e with
         |none=>exact t1
         |some de=>cases de<;>first|exact t1|exact absurd ⟨_,hue⟩ hs
      let f:Nat->List Value:=λi=>(W.cells? base (a.add (i *P.cellsOf e)) (P.cellsOf e)).getD [];let g:Nat->MV:=λi=>if hi:i<len then adP (aaK (jO i hi)) else default
      have O3: ∀i,i<len->W.cells? base (a.add (i *P.cellsOf e)) (P.cellsOf e)=some (f i)/\nn key (Fe W) (f i) (g i)/\ME P (MT P n) e (g i):=by
       intro i hi;have hsp:=aaK (aaK (jO i hi));have hf:f i=adP (jO i hi):=by show (W.cells? base (a.add (i *P.cellsOf e)) (P.cellsOf e)).getD []=_;exact congrArg (λo=>o.getD []) hsp.1
       have hg:g i=adP (aaK (jO i hi)):=by show (if hi:i<len then _ else _)=_;rw [dif_pos hi]
       rw [hf,hg];exact hsp
      have af3:0<len->a=⟨a.block,a.off,none⟩:=by
       intro h0;obtain ⟨h1,_,_⟩:=O3 0 h0;obtain ⟨r8,hcg⟩:=Ff h1;have:=hcg 0 (by omega);rw [Nat.zero_mul] at this;have hz:(a.add 0).add 0=a:=rfl;rw [hz] at this;have dK:0<(f 0).length:=by omega
       rw [aaa dK] at this;unfold World.cell? at this;split at this
       ·cases hsp:a.spot with
        |none=>cases a;simp at hsp;subst hsp;rfl
        |some s=>simp [hsp] at this
       ·cases this
      have akO: ∀i j,i<len->j<P.cellsOf e->Fe W a.block (a.off+i *P.cellsOf e+j)=(f i)[j]? :=by intro i j hi hj;obtain ⟨h1,_,_⟩:=O3 i hi;obtain ⟨r8,hcg⟩:=Ff h1;have:=hcg j hj;rw [<-this];unfold Fe;congr 1;have ha:=af3 (by omega);rw [ha];rw [agd,agd]
      refine ⟨[.list ((aeF len).map g)],.ZQ ?_,?_⟩
      ·have hlen:((aeF len).map g).length=len:=by simp
       have:=nn.list (key:=key) (φ:=Fe W) (some a) cap ((aeF len).map g) a.block a.off (P.cellsOf e) f (by rw [hlen];exact hlc) (λh0=>by rw [hlen] at h0;exact congrArg some (af3 h0)) (λi hi=>by rw [hlen] at hi;exact (Ff (O3 i hi).1).1) (λi j hi hj=>akO i j (by rw [hlen] at hi;exact hi) hj) (λi hi=>by simp at hi;simpa using (O3 i hi).2.1);rw [hlen] at this;exact this
      ·simp only [MT,hu];refine ⟨_,rfl,by simp;omega,λy hy=> ?_⟩;obtain ⟨i,hi,rfl⟩:=aa6.1 hy;exact (O3 i (by simpa using hi)).2.2
    case array n e=>
     simp only [sh] at hD;obtain ⟨⟨⟨h1,h2⟩,h3⟩,h4⟩:=hD;have h1:=c8 h1;have h3:=c8 h3;have h4:=c8 h4;subst h1;obtain ⟨xs,m,hm,_,hl,hxl,hx⟩:=DataW.trod_array hu h;rw [h4] at hl;split at h2
     ·rename_i hue;have uQ: ∀i (hi:i<cs.length),∃b:UInt8,cs[i]= .int .u8 (b.toNat:Int):=by
       intro i hi;have Sy:i<32:=by omega
       have:=hx i Sy;rw [h3,Nat.mul_one] at this;have R4:(cs.drop i).take 1=[cs[i]]:=by rw [List.take_one,List.head?_drop,aaa hi];rfl
       rw [R4,aaa (by omega)] at this;obtain ⟨k,hk,_,hw⟩:=DataW.trod_int hue this;simp only [aaj,and_true] at hk;refine ⟨adC k.toNat,?_⟩;rw [hk];simp only [Lit.wf,sh,decide_eq_true_eq] at hw;have Y4:IntKind.u8.min=0:=by decide
       have ao0:IntKind.u8.max=255:=by decide
       rw [Y4,ao0] at hw;congr 1;have:(adC k.toNat).toNat=k.toNat:=by rw [UInt8.toNat_ofNat'];omega
       rw [this];omega
      have: ∃l:List UInt8,cs=l.map λb=>aeA .u8 (b.toNat:Int):=by
       clear hx hl h;induction cs with
       |nil=>exact ⟨[],rfl⟩
       |cons c cs ihc=>obtain ⟨b,hb⟩:=uQ 0 (by simp);obtain ⟨l,hl⟩:=ihc (λi hi=>by have:=uQ (i+1) (by simpa using hi);simpa using this);exact ⟨b::l,by simp at hb;rw [hb,hl];rfl⟩
      obtain ⟨l,rfl⟩:=this;have ahM:l.length=32:=by simpa using hl
      refine ⟨[.h ⟨l,ahM⟩],?_,by simp only [MT,hu];exact ⟨_,rfl⟩⟩;have:=jj.cons (key:=key) (φ:=Fe W) _ (.h ⟨l,ahM⟩) [] [] (.h ⟨l,ahM⟩) .nil;simpa using this
     ·cases h2
theorem ZS {r:Reach}{b0 D:Nat}{t:TypeId}{v:Value}{d:DataW H}{ps:List MemPlace}(hD:okT P D t=true)(hv:ac4 P W r b0 t v)(h:DataW.Trod enc P W base sp held t v d ps): ∃m n,gh key (Fe W) v m/\ME P (MT P n) t m:=by
 obtain ⟨fuel,hf⟩:=h;obtain ⟨ms,r1,t1⟩:=ZR (key:=key) fuel D t _ _ hD hf;cases fuel with
 |zero=>exact t1.elim
 |succ fuel=>
  have t2:=t1;simp only [MT] at t1;cases hu:P.underlying t with
  |none=>simp [hu] at t1
  |some k=>
   simp only [hu] at t1;cases k<;>simp only at t1<;>try (exact t1.elim)
   case bool=>obtain ⟨b,rfl⟩:=t1;obtain ⟨b',rfl⟩:=okWide_bool hu hv;refine ⟨.b b,fuel+1,⟨rfl,r1.single⟩,by unfold ME;simp only [hu];exact t2⟩
   case int k=>obtain ⟨n,rfl,_⟩:=t1;obtain ⟨n',rfl⟩:=okWide_int hu hv;refine ⟨.i k n,fuel+1,⟨rfl,r1.single⟩,by unfold ME;simp only [hu];exact t2⟩
   case string=>obtain ⟨l,rfl,_⟩:=t1;obtain ⟨s',rfl⟩:=okWide_string hu hv;refine ⟨.s l,fuel+1,⟨rfl,r1.single⟩,by unfold ME;simp only [hu];exact t2⟩
   case slice e=>
    obtain ⟨xs,rfl,_⟩:=t1;have hvc:v.cells.toList=[v]:=by simp only [ac4,hu,Cell.okWide] at hv;cases v<;>simp_all [Cell.ok,afI]
    rw [hvc] at r1;refine ⟨.list xs,fuel+1,⟨rfl,r1.single⟩,by unfold ME;simp only [hu];exact t2⟩
   case struct fs=>obtain ⟨arr,rfl,_⟩:=okWide_struct hu hv;refine ⟨.agg ms,fuel+1,⟨arr,rfl,by simpa [afI] using r1⟩,by unfold ME;simp only [hu];exact ⟨ms,rfl,t2⟩⟩
   case array n e=>
    obtain ⟨h,rfl⟩:=t1;have: ∃arr,v= .agg arr:=by simp only [ac4,hu] at hv;obtain ⟨arr,rfl,_⟩:=hv;exact ⟨arr,rfl⟩
    obtain ⟨arr,rfl⟩:=this;refine ⟨.h h,fuel+1,?_,by unfold ME;simp only [hu];exact t2⟩;have hr:=r1.single;simp only [afI] at hr;generalize Cj:arr.toList=vs at hr;cases hr;show Value.agg arr= .agg _;rw [<-Cj]
end
end Dn
/-
  A law of plain data, out of its function's contract. Conditions: none.
-/
namespace Dn
open Go Go.WideShapes Go.ChangeShapes Go.RowKit
section
variable {H:Type}{enc:TypeId×Value->H}{P:Program} {W W':World}{c:Ctx}
theorem Cs (hl:laidOutB P=true)(hb:Below W.heap.size W W'): ∀{ts:List TypeId}{vs:List Value}{ds:List (DataW H)}{ps:List MemPlace},(∀t∈ts,P.readableRec t=true/\t<P.types.size)-> DataW.TrodAll enc P W 0 (λ_=>true) true ts vs ds ps->(∀x∈ps,x.block<W.heap.size)->DataW.TrodAll enc P W' 0 (λb=>decide (b<W.heap.size)) true ts vs ds ps
 |[],[],[],_,_,h,_=>h
 |t::ts,v::vs,d::ds,_,ht,⟨p,q,h1,h2,e⟩,hs=>⟨p,q,Below.trod hl (ht t (by simp)).1 (ht t (by simp)).2 h1 hb (λx hx=>hs x (by rw [e];exact IS _ hx)),Cs hl hb (λu hu=>ht u (by simp [hu])) h2 (λx hx=>hs x (by rw [e];exact No _ hx)),e⟩
def DD (P:Program):List TypeId->List MV->Prop
 |[],ms=>ms=[]
 |t::ts,ms=> ∃m r,ms=m::r/\(∃n,ME P (MT P n) t m)/\DD P ts r
theorem LV {base:Nat}{sp:Nat->Bool}{held:Bool}{key:Nat->Nat}{r:Reach}{b0:Nat}: ∀{ts:List TypeId}{vs:List Value}{ds:List (DataW H)}{ps:List MemPlace},(∀t∈ts,∃D,okT P D t=true)-> (∀(j:Nat) t v,ts[j]? =some t->vs[j]? =some v->ac4 P W r b0 t v)->DataW.TrodAll enc P W base sp held ts vs ds ps-> ∃ms,cN key (Fe W) vs ms/\DD P ts ms/\ds.length=ts.length
 |[],[],[],_,_,_,_=>⟨[],rfl,rfl,rfl⟩
 |t::ts,v::vs,d::ds,_,ht,hv,⟨p,q,h1,h2,e⟩=>by obtain ⟨D,hD⟩:=ht t (by simp);obtain ⟨m,n,r1,t1⟩:=ZS (key:=key) hD (hv 0 t v rfl rfl) h1;obtain ⟨ms,r2,t2,hl⟩:=LV (key:=key) (λu hu=>ht u (by simp [hu])) (λj u x hu hx=>hv (j+1) u x (by simpa using hu) (by simpa using hx)) h2;exact ⟨m::ms,⟨v,vs,rfl,r1,r2⟩,⟨m,ms,rfl,⟨n,t1⟩,t2⟩,by simp [hl]⟩
theorem WA {fn:Func}{f:FuncId}{s:ChangeSpec}{args:Array Value}{ds gs:List (DataW H)}{before:List MemPlace}{tb:TypeId}{base:Nat}(hf:P.funcs[f]? =some fn)(qT:fn.body.isSome=true)(DC:(fn.name== "runtime.NumGoroutine")=false)
 (hl:laidOutB P=true) (S0: ∀t∈fn.params.toList,(∃D,okT P D t=true)/\P.readableRec t=true/\t<P.types.size) (z6:fn.resultTypes= #[tb]) (Zy:P.underlying tb=some .bool) (hv:s.vars=[])
 (hfn: ∀ds:List (DataW H),ds.length=fn.params.toList.length->s.fn H ds={results:=[.lit (.bool true)],args:=ds})
 (SS: ∀(j:Nat) t v,fn.params[j]? =some t->args[j]? =some v->ac4 P W .any base t v)
 (hW:DataW.Whole enc P fn.params.toList s.vars false W args.toList ds gs before) (hg:c.fe (c.key f)=false)
 (zb: ∀ms,DD P fn.params.toList ms->lY P c f ms (.b true)):
 Calls P f args W λe W'=> ∃v,e= .returned v/\s.post enc P fn false true false false W args v W':=by
 have hW':=hW;obtain ⟨p,q,hA,hV,rfl,hfz,hnd⟩:=hW;rw [hv] at hV;obtain ⟨rfl,rfl⟩:=trodVars_none hV;have dK: ∀x∈p,x.block<W.heap.size:=λx hx=>by simpa using hW'.lt x (by simp [hx])
 obtain ⟨ms,r1,t1,LW⟩:=LV (key:=c.key) (λt ht=>(S0 t ht).1) (λj t v h1 h2=>SS j t v (by simpa using h1) (by simpa using h2)) hA;have hc:=zb ms t1 (Fe W) W (λb=>W.heap.size<=b) args.toList (λb hb=>hb) (by simp only [fU,hg,aaH,if_false];exact r1) (ZP W);have cC:(callFunc f args).run P W= .ok (.enter f args) W:=by
  have GM: ¬fn.name= "runtime.NumGoroutine" :=by simpa using DC
  cases hb:fn.body with
  |none=>rw [hb] at qT;cases qT
  |some b=>simp [callFunc,hf,GM,hb]
 unfold ia at hc;rw [abT,cC] at hc;refine hc.mono ?_;rintro x W' ⟨v,rfl,φ',ht,kb,hr⟩;have hvb:v= .bool true:=by obtain ⟨_,hr⟩:=hr;generalize Cj:[v]=vs at hr;cases hr;simpa using Cj
 subst hvb;have ZT:Below W.heap.size W W':=⟨ht.rest.1,ht.rest.2.1,ht.rest.2.2.1,ht.size,λk hk=>ht.heap k (by omega) hk⟩
 have ahN:=hfn (ds++[]) (by simpa using LW);refine ⟨_,rfl,ds,[],_,[],p,[],hW',?_,?_,?_,ZT.frame _,λh=>by cases h⟩
 ·rw [ahN,z6];exact trodAll_mk1 (shut_bool Zy _)
 ·rw [ahN];simpa using Cs hl ZT (λt ht=>(S0 t ht).2) hA dK
 ·rw [ahN,hv];rfl
end
theorem DE {α:Type}{f:α->MV}{Q:α->Prop}{R:MV->Prop}{xs:List MV}(h: ∀x,R x-> ∃y,x=f y/\Q y)(hx: ∀x∈xs,R x): ∃L:List α,xs=L.map f/\ ∀y∈L,Q y:=by
 induction xs with
 |nil=>exact ⟨[],rfl,by simp⟩
 |cons x xs ih=>obtain ⟨y,rfl,hq⟩:=h x (hx x (by simp));obtain ⟨L,rfl,hL⟩:=ih λz hz=>hx z (by simp [hz]);exact ⟨y::L,rfl,by simp only [AS];rintro z (rfl|hz);exact hq;exact hL z hz⟩
end Dn
/-
  A program's type table, looked through. Conditions: none.
-/
namespace Dn
open Go
theorem ZU {a b:Kd}(h:kdB a b=true):a=b:=by cases a<;>cases b<;>simp [kdB,kB] at h<;>first|rfl|(subst h;rfl)
def ma:List Kd->Kd->Bool
 |[k],k'=>kdB k k'
 |_,_=>false
theorem eU {l:List Kd}{k:Kd}(h:ma l k=true):l=[k]:=by
 cases l with
 |nil=>simp [ma] at h
 |cons a l=>cases l with
  |nil=>simp only [ma] at h;rw [ZU h]
  |cons=>simp [ma] at h
def Ge:List Nat->List Nat->Bool
 |[],[]=>true
 |a::l,b::m=>AT a b&&Ge l m
 |_,_=>false
theorem Iw {l m:List Nat}(h:Ge l m=true):l=m:=by
 induction l generalizing m with
 |nil=>cases m<;>simp [Ge] at h;rfl
 |cons a l ih=>
  cases m with
  |nil=>simp [Ge] at h
  |cons b m=>simp only [Ge,sh] at h;rw [c8 h.1,ih h.2]
def xU {α:Type}:List α->Bool
 |[]=>true
 |_=>false
theorem qB {α:Type}{l:List α}(h:xU l=true):l=[]:=by cases l<;>simp [xU] at h;rfl
def ND (ti:Nat->Option TI)(t:Nat):Bool:=match ti t with|some J=>xU J.du&&acF 1 J.size|none=>false
theorem LX {ti:Nat->Option TI}{t:Nat}(h:ND ti t=true): ∃J,ti t=some J/\J.du=[]/\0<J.size:=by
 unfold ND at h;cases hJ:ti t with
 |none=>simp [hJ] at h
 |some J=>simp only [hJ,sh] at h;exact ⟨J,rfl,qB h.1,aaL h.2⟩
def Ix:List Value->Nat->Bool
 |[],n=>AT n 0
 | .int .u8 k::r,n+1=>decide (k=0)&&Ix r n
 |_,_=>false
theorem PU {l:List Value}{n:Nat}(h:Ix l n=true):l=adj n (.int .u8 0):=by
 induction l generalizing n with
 |nil=>have:=c8 h;subst this;rfl
 |cons v l ih=>
  cases n with
  |zero=>cases v<;>simp [Ix] at h
  |succ n=>
   unfold Ix at h;split at h
   ·rename_i h1;simp at h1
   ·rename_i k _ _ h1 h2;simp only [aaj] at h1;obtain ⟨rfl,rfl⟩:=h1;cases h2;simp only [sh,decide_eq_true_eq] at h;rw [h.1,ih h.2];rfl
   ·cases h
def Fg:List aS->aS->Bool
 |[.nil],.nil=>true
 |[.p (.b false)],.p (.b false)=>true
 |[.p (.i k n)],.p (.i k' m)=>kB k k'&&decide (n=m)
 |[.p (.s [])],.p (.s [])=>true
 |_,_=>false
theorem Bm {l:List aS}{x:aS}(h:Fg l x=true):l=[x]:=by
 unfold Fg at h;split at h<;>first|rfl|skip
 ·simp [kB] at h;rw [h.1,h.2]
 ·cases h
def ZV:List aS->Bool
 |[.hs x]=>decide (x=lQ.zero)
 |_=>false
theorem ZW {l:List aS}(h:ZV l=true):l=[.hs lQ.zero]:=by
 unfold ZV at h;split at h
 ·rw [of_decide_eq_true h]
 ·cases h
def ZX (ti:Nat->Option TI)(P:Program)(I:TI)(z:Option Value):TypeDesc->Bool
 | .struct fs=>I.st&&xU I.du&&acF 1 I.size&&AT (GL I.lay) I.size&&Ge (fs.toList.map (·.offset)) I.xC&&Ge (fs.toList.map (·.type)) I.V2&& (fs.toList.all λf=>ND ti f.type)&&(match z with|some (.agg cs)=>uO I.zero cs.toList&&AT cs.size I.size|_=>false)
 | .tuple ts=>Ge I.du ts.toList&&!xU I.du&&xU I.lay&&!I.st
 | .slice el=>!I.st&&xU I.du&&AT I.size 1&&AT I.elem el&&ND ti el&&(match z with|some (.slice none 0 0)=>true|_=>false)&&Fg I.zero .nil&&ma I.lay .l
 | .array n el=>!I.st&&xU I.du&&AT I.size 32&&AT n 32&&AT I.elem el&&(match P.underlying el with|some (.int .u8)=>true|_=>false)&&(match P.info? el with|some i=>AT i.size 1|none=>false)&& ma I.lay .h&&ZV I.zero&&(match z with|some (.agg cs)=>Ix cs.toList 32|_=>false)
 | .bool=>!I.st&&xU I.du&&AT I.size 1&&ma I.lay .b&&Fg I.zero (.p (.b false))&&(match z with|some (.bool false)=>true|_=>false)
 | .int k=>!I.st&&xU I.du&&AT I.size 1&&ma I.lay (.i k)&&Fg I.zero (.p (.i k 0))&&(match z with|some (.int k' n)=>kB k' k&&decide (n=0)|_=>false)
 | .string=>!I.st&&xU I.du&&AT I.size 1&&ma I.lay .s&&Fg I.zero (.p (.s []))&&(match z with|some (.string b)=>xU b.data.toList|_=>false)
 |_=>!I.st&&xU I.du&&AT I.size 1&&ma I.lay .raw&&(match z with|some v=>v.oneCell'&&uO I.zero [v]|none=>false)
theorem ZY {ti:Nat->Option TI}{P:Program}{I:TI}{z:Option Value}{d:TypeDesc}(h:ZX ti P I z d=true):uB ti P I z d:=by
 cases d<;>simp only [ZX,sh,IN] at h<;>simp only [uB];case struct fs=>
  obtain ⟨⟨⟨⟨⟨⟨⟨h1,h2⟩,h3⟩,h4⟩,h5⟩,h6⟩,h7⟩,h8⟩:=h;refine ⟨h1,qB h2,⟨aaL h3,c8 h4⟩,Iw h5,Iw h6,λk f hk=> ?_,?_⟩
  ·exact LX (aa5.1 h7 f (by
    have:fs.toList[k]? =some f:=by simpa using hk
    exact List.mem_of_getElem? this))
  ·split at h8
   ·rename_i cs;simp only [sh] at h8;exact ⟨cs,rfl,h8.1,c8 h8.2⟩
   ·cases h8
 case tuple ts=>obtain ⟨⟨⟨h1,h2⟩,h3⟩,h4⟩:=h;exact ⟨Iw h1,λhe=>(by rw [he] at h2;simp [xU] at h2),qB h3,h4⟩
 case slice el=>
  obtain ⟨⟨⟨⟨⟨⟨⟨h1,h2⟩,h3⟩,h4⟩,h5⟩,h6⟩,h7⟩,h8⟩:=h;refine ⟨h1,qB h2,c8 h3,c8 h4,LX h5,?_,Bm h7,.l,eU h8,rfl⟩;split at h6
  ·rfl
  ·cases h6
 case array n el=>
  obtain ⟨⟨⟨⟨⟨⟨⟨⟨⟨h1,h2⟩,h3⟩,h4⟩,h5⟩,h6⟩,h7⟩,h8⟩,h9⟩,UZ⟩:=h;refine ⟨h1,qB h2,c8 h3,c8 h4,c8 h5,?_,eU h8,ZW h9,?_⟩
  ·split at h6
   ·rename_i hu;split at h7
    ·rename_i i hi;exact ⟨i,hu,hi,c8 h7⟩
    ·cases h7
   ·cases h6
  ·split at UZ
   ·rename_i cs;have:=PU UZ;congr 1;congr 1;apply acL.1;rw [this];rfl
   ·cases UZ
 case bool=>
  obtain ⟨⟨⟨⟨⟨h1,h2⟩,h3⟩,h4⟩,h5⟩,h6⟩:=h;refine ⟨h1,qB h2,c8 h3,eU h4,Bm h5,?_⟩;split at h6
  ·rfl
  ·cases h6
 case int k=>
  obtain ⟨⟨⟨⟨⟨h1,h2⟩,h3⟩,h4⟩,h5⟩,h6⟩:=h;refine ⟨h1,qB h2,c8 h3,eU h4,Bm h5,?_⟩;split at h6
  ·simp only [kB,sh,decide_eq_true_eq] at h6;rw [h6.1,h6.2]
  ·cases h6
 case string=>
  obtain ⟨⟨⟨⟨⟨h1,h2⟩,h3⟩,h4⟩,h5⟩,h6⟩:=h;refine ⟨h1,qB h2,c8 h3,eU h4,Bm h5,?_⟩;split at h6
  ·rename_i b;exact ⟨b,rfl,qB h6⟩
  ·cases h6
 all_goals
  obtain ⟨⟨⟨⟨h1,h2⟩,h3⟩,h4⟩,h5⟩:=h;refine ⟨h1,qB h2,c8 h3,eU h4,?_⟩;split at h5
  ·rename_i v;simp only [sh] at h5;exact ⟨v,rfl,h5.1,h5.2⟩
  ·cases h5
def ahO (ti:Nat->Option TI)(P:Program)(t:Nat)(I:TI):Bool:=match P.underlying t,P.info? t with
 |some d,some i=>(!xU I.du||(AT i.size I.size&&AT i.bytes I.bytes))&&ZX ti P I i.zero d
 |_,_=>false
theorem adD {ti:Nat->Option TI}{P:Program}{t:Nat}{I:TI}(h:ahO ti P t I=true):oq ti P t I:=by
 unfold ahO at h;split at h
 ·rename_i d i hu hi;simp only [sh,Bool.or_eq_true,IN] at h;refine ⟨d,i,hu,hi,λhc=> ?_,ZY h.2⟩;rcases h.1 with h1|h1
  ·rw [hc] at h1;simp [xU] at h1
  ·exact ⟨c8 h1.1,c8 h1.2⟩
 ·cases h
def zf:List (Nat×TI)->Nat->Option TI
 |[],_=>none
 |(k,s)::r,t=>bif AT k t then some s else zf r t
def ao1 (P:Program)(tab:List (Nat×TI)):Bool:=tab.all λp=>ahO (zf tab) P p.1 p.2
theorem LY {l:List (Nat×TI)}{t:Nat}{I:TI}(h:zf l t=some I):(t,I)∈l:=by
 induction l with
 |nil=>simp [zf] at h
 |cons p l ih=>
  obtain ⟨k,s⟩:=p;simp only [zf,gj] at h;by_cases hk:k=t
  ·subst hk;simp at h;subst h;simp
  ·simp only [hk,decide_false,cond_false] at h;exact IT _ (ih h)
theorem adE {P:Program}{tab:List (Nat×TI)}(h:ao1 P tab=true):lV P (zf tab):=λt I hI=>adD (aa5.1 h (t,I) (LY hI))
end Dn
/-
  Comparing values of plain types. Conditions: none.
-/
namespace Dn
open Go
def cks:List Kd->List Kd
 |[]=>[]
 | .h::r=>adj 32 (.i .u8)++cks r
 |k::r=>k::cks r
def NE:Kd->Value->Bool
 | .b,.bool _=>true
 | .i k,.int k' _=>decide (k'=k)
 | .s,.string _=>true
 |_,_=>false
def jX:List Kd->List Value->Prop
 |[],vs=>vs=[]
 |k::ks,vs=> ∃v r,vs=v::r/\NE k v=true/\jX ks r
def ZZ:Value->Value->Bool
 | .bool a,.bool b=>decide (a=b)
 | .int _ a,.int _ b=>decide (a=b)
 | .string a,.string b=>decide (a.data.toList=b.data.toList)
 |_,_=>false
def li:List Value->List Value->Bool
 |[],[]=>true
 |x::xs,y::ys=>ZZ x y&&li xs ys
 |_,_=>false
theorem u5 {xs ys us vs:List Value}(h:xs.length=ys.length):li (xs++us) (ys++vs)=(li xs ys&&li us vs):=by
 induction xs generalizing ys with
 |nil=>cases ys with|nil=>simp [li]|cons=>simp at h
 |cons x xs ih=>cases ys with|nil=>simp at h|cons y ys=>simp only [OF,li,ih (by simpa using h),Bool.and_assoc]
theorem jX.length {ks:List Kd}: ∀{vs:List Value},jX ks vs->vs.length=ks.length:=by
 induction ks with
 |nil=>intro vs h;cases h;rfl
 |cons k ks ih=>intro vs h;obtain ⟨v,r,rfl,_,h2⟩:=h;simp [ih h2]
theorem jX.append {ks js:List Kd}: ∀{vs us:List Value},jX ks vs->jX js us->jX (ks++js) (vs++us):=by
 induction ks with
 |nil=>intro vs us h h';cases h;simpa using h'
 |cons k ks ih=>intro vs us h h';obtain ⟨v,r,rfl,h1,h2⟩:=h;exact ⟨v,r++us,rfl,h1,ih h2 h'⟩
theorem jX.split {ks js:List Kd}: ∀{vs:List Value},jX (ks++js) vs->jX ks (vs.take ks.length)/\jX js (vs.drop ks.length):=by
 induction ks with
 |nil=>intro vs h;exact ⟨by simp [jX],by simpa using h⟩
 |cons k ks ih=>intro vs h;obtain ⟨v,r,rfl,h1,h2⟩:=h;obtain ⟨h3,h4⟩:=ih h2;exact ⟨⟨v,_,rfl,h1,h3⟩,by simpa using h4⟩
theorem Iy (x:lQ):jX (adj 32 (.i .u8)) (bT x):=by
 have: ∀(l:List UInt8),jX (adj l.length (.i .u8)) (l.map λb=>aeA .u8 (b.toNat:Int)):=by
  intro l;induction l with
  |nil=>rfl
  |cons b l ih=>exact ⟨_,_,rfl,by simp [NE],ih⟩
 have h:=this x.l;rw [x.h] at h;exact h
theorem LZ (x y:lQ):li (bT x) (bT y)=decide (x=y):=by
 have: ∀(l m:List UInt8),l.length=m.length->li (l.map λb=>aeA .u8 (b.toNat:Int)) (m.map λb=>aeA .u8 (b.toNat:Int))=decide (l=m):=by
  intro l;induction l with
  |nil=>intro m h;cases m with|nil=>rfl|cons=>simp at h
  |cons b l ih=>
   intro m h;cases m with
   |nil=>simp at h
   |cons b' m=>
    simp only [acB,li,ZZ,ih m (by simpa using h),aaj];have:((b.toNat:Int)=(b'.toNat:Int))↔b=b':=by
     constructor
     ·intro he;apply UInt8.toNat_inj.1;omega
     ·intro he;rw [he]
    simp [this]
 rw [bT,bT,this x.l y.l (by rw [x.h,y.h])];by_cases h:x=y
 ·subst h;simp
 ·have:x.l≠y.l:=λhe=>h (lQ.ext' he);simp [h,this]
section
variable {e:Env}
theorem L0 {lay:List Kd}: ∀{ls:List aS}{vs:List Value},aJ e vs ls->jV lay ls=true->jX (cks lay) vs:=by
 induction lay with
 |nil=>
  intro ls vs h hf;cases ls with
  |nil=>cases h;rfl
  |cons=>simp [jV] at hf
 |cons k lay ih=>
  intro ls vs h hf;cases ls with
  |nil=>simp [jV] at hf
  |cons l ls=>
   simp only [jV] at hf;cases h1:vC k l with
   |false=>simp [h1] at hf
   |true=>
    simp only [h1,cond_true] at hf;obtain ⟨v,u,rfl,g1,g2⟩:=h;have hr:=ih g2 hf;have one: ∀m:MV,∀kd:Kd,l= .p m->(∀w:List Value,nn e.key e.φ w m-> ∃x,w=[x]/\NE kd x=true)->jX (kd::cks lay) (v++u):=by intro m kd hl hm;subst hl;obtain ⟨x,rfl,hx⟩:=hm v g1.2;exact ⟨x,u,rfl,hx,hr⟩
    cases k<;>cases l<;>simp only [vC] at h1<;>try (cases h1;done)
    ·rename_i m;cases m<;>simp only [vC] at h1<;>try (cases h1;done)
     exact one _ _ rfl (λw hw=>by cases hw;exact ⟨_,rfl,rfl⟩)
    ·rename_i k m;cases m<;>simp only [vC] at h1<;>try (cases h1;done)
     exact one _ _ rfl (λw hw=>by cases hw;exact ⟨_,rfl,h1⟩)
    ·rename_i m;cases m<;>simp only [vC] at h1<;>try (cases h1;done)
     exact one _ _ rfl (λw hw=>by cases hw;exact ⟨_,rfl,rfl⟩)
    ·rename_i x;have g1:v=bT x:=g1;subst g1;exact (Iy x).append hr
theorem KN {l l':aS} {v v':List Value}{b:Bool}(h:bp e v l) (h':bp e v' l')(hb:EW l l'=some b):li v v'=b/\v.length=v'.length:=by
 unfold EW at hb;split at hb
 ·obtain ⟨_,h⟩:=h;obtain ⟨_,h'⟩:=h';cases h;cases h';simp at hb;exact ⟨by simp [li,ZZ,<-hb],rfl⟩
 ·obtain ⟨_,h⟩:=h;obtain ⟨_,h'⟩:=h';cases h;cases h';rename_i k x k' y _ _;cases hk:decide (k=k') with
  |false=>simp [hk] at hb
  |true=>simp [hk] at hb;exact ⟨by simp [li,ZZ,<-hb],rfl⟩
 ·obtain ⟨_,h⟩:=h;obtain ⟨_,h'⟩:=h';cases h;cases h';simp at hb;exact ⟨by simp [li,ZZ,<-hb],rfl⟩
 ·rename_i x y;have h:v=bT x:=h;have h':v'=bT y:=h';subst h;subst h';simp at hb;exact ⟨by rw [LZ,<-hb],by rw [dJ,dJ]⟩
 ·cases hb
theorem Z3 {ls:List aS}: ∀{ze:List aS}{vs Sx:List Value}{b:Bool},aJ e vs ls->aJ e Sx ze->jU ls ze=some b->li vs Sx=b:=by
 induction ls with
 |nil=>
  intro ze vs Sx b h h' hb;cases ze with
  |nil=>cases h;cases h';simp [jU] at hb;subst hb;rfl
  |cons l' ze=>simp [jU] at hb
 |cons l ls ih=>
  intro ze vs Sx b h h' hb;cases ze with
  |nil=>simp [jU] at hb
  |cons l' ze=>
   obtain ⟨v,u,rfl,h1,h2⟩:=h;obtain ⟨v',u',rfl,Ky,Pu⟩:=h';have two: ∀x y,EW l l'=some x->jU ls ze=some y->b=(x&&y)->li (v++u) (v'++u')=b:=by intro x y hx hy Yj;obtain ⟨g1,g2⟩:=KN h1 Ky hx;rw [u5 g2,g1,ih h2 Pu hy,Yj]
   cases ls with
   |nil=>
    cases ze with
    |nil=>have hb:EW l l'=some b:=hb;exact two b true hb rfl (by simp)
    |cons p q=>
     simp only [jU] at hb;split at hb
     ·rename_i x y hx hy;exact two x y hx hy (by simpa using hb.symm)
     ·cases hb
   |cons p q=>
    simp only [jU] at hb;split at hb
    ·rename_i x y hx hy;exact two x y hx hy (by simpa using hb.symm)
    ·cases hb
end
def vL (F:TypeId->Option (List Kd))(P:Program):List Field->Nat->Nat->Option (List Kd)
 |[],o,n=>bif AT o n then some [] else none
 |f::fs,o,n=>match F f.type with
  |some ks=>bif AT f.offset o&&AT ks.length (P.cellsOf f.type)&&!(f.name== "_") then (match vL F P fs (o+ks.length) n with|some r=>some (ks++r)|none=>none) else none
  |none=>none
def PW:Nat->List Kd->List Kd
 |0,_=>[]
 |n+1,ks=>ks++PW n ks
def nN (P:Program):Nat->TypeId->Option (List Kd)
 |0,_=>none
 |d+1,t=>match P.underlying t with
  |some .bool=>some [.b]
  |some (.int k)=>some [.i k]
  |some .string=>some [.s]
  |some (.array n e)=>match nN P d e with
   |some ks=>bif AT ks.length (P.cellsOf e)&&(match P.info? e with|some _=>true|none=>false) then some (PW n ks) else none
   |none=>none
  |some (.struct fs)=>bif P.stoodInHeld t then none else vL (nN P d) P fs.toList 0 (P.cellsOf t)
  |_=>none
def KO:TypeDesc->Bool
 | .struct _=>true
 | .array _ _=>true
 |_=>false
theorem Iz {F:TypeId->Option (List Kd)}{P:Program}: ∀(fs:List Field)(o n:Nat)(ks:List Kd),vL F P fs o n=some ks->o+ks.length=n:=by
 intro fs;induction fs with
 |nil=>
  intro o n ks hk;simp only [vL] at hk;cases hb:AT o n with
  |false=>simp [hb] at hk
  |true=>simp [hb] at hk;subst hk;simpa using c8 hb
 |cons f fs ihf=>
  intro o n ks hk;simp only [vL] at hk;cases hf:F f.type with
  |none=>simp [hf] at hk
  |some js=>
   simp only [hf] at hk
   cases hc:AT f.offset o&&AT js.length (P.cellsOf f.type)&&!(f.name== "_") with
   |false=>simp [hc] at hk
   |true=>
    simp only [hc,cond_true] at hk;cases hr:vL F P fs (o+js.length) n with
    |none=>simp [hr] at hk
    |some rs=>simp only [hr,AI] at hk;subst hk;have:=ihf _ _ _ hr;simp only [adq];omega
def uD (P:Program)(t:TypeId)(v:Value)(cs:List Value):Prop:=match P.underlying t with
 |some (.struct _)|some (.array _ _)=>v= .agg cs.toArray
 |_=>cs=[v]
theorem PX (n:Nat)(ks:List Kd):(PW n ks).length=n *ks.length:=by
 induction n with
 |zero=>simp [PW]
 |succ n ih=>simp only [PW,adq,ih,age];omega
section
variable {P:Program}{w:World}
theorem Bn {t:TypeId}{xs:Array Value}{off:Nat}{n:Nat}{d:TypeDesc}(hu:P.underlying t=some d)(hn:P.cellsOf t=n)(jO:KO d=false->n=1)(hl:off+n<=xs.size): ∃v,(afO t xs off).run P w= .ok v w/\uD P t v ((xs.toList.drop off).take n):=by
 obtain ⟨i,hi⟩:=info_of_underlying hu;have wu:i.size=n:=by rw [<-hn];simp [Program.cellsOf,hi]
 cases hd:KO d with
 |true=>
  refine ⟨.agg (xs.extract off (off+n)),?_,?_⟩
  ·cases d<;>simp [KO] at hd<;>simp [afO,isAgg,run_underlying hu,Go.sizeOf,typeInfo,hi,wu]
  ·have he:(xs.extract off (off+n))=((xs.toList.drop off).take n).toArray:=by apply acL.1;rw [Array.toList_extract];simp [List.extract]
   unfold uD;cases d<;>simp [KO] at hd<;>simp only [hu]<;>rw [he]
 |false=>
  have KH:=jO hd;subst KH;have dK:off<xs.size:=by omega
  refine ⟨xs[off],?_,?_⟩
  ·cases d<;>simp [KO] at hd<;>simp [afO,isAgg,run_underlying hu,dK]
  ·have he:(xs.toList.drop off).take 1=[xs[off]]:=by rw [List.take_one,List.head?_drop];simp [dK]
   unfold uD;cases d<;>simp [KO] at hd<;>simp only [hu]<;>exact he
theorem WB {F:TypeId->Option (List Kd)}{dd:Nat}{xs ys:Array Value}: ∀(fs:List Field)(o n:Nat)(ks:List Kd),vL F P fs o n=some ks->xs.size=n->ys.size=n->jX ks (xs.toList.drop o)->jX ks (ys.toList.drop o)-> (∀f∈fs,∀js,F f.type=some js->(∃d,P.underlying f.type=some d/\(KO d=false->js.length=1))/\ ∀(x y:Value)(us vs:List Value),uD P f.type x us->uD P f.type y vs->jX js us->jX js vs->(afU dd f.type x y).run P w= .ok (li us vs) w)-> (Op.eqFields dd xs ys fs).run P w= .ok (li (xs.toList.drop o) (ys.toList.drop o)) w:=by
 intro fs;induction fs with
 |nil=>
  intro o n ks hk hx hy _ _ _;simp only [vL] at hk;cases hb:AT o n with
  |false=>simp [hb] at hk
  |true=>have hb:=c8 hb;have h1:xs.toList.drop o=[]:=abc (by simp [hx,hb]);have h2:ys.toList.drop o=[]:=abc (by simp [hy,hb]);rw [h1,h2];simp [Op.eqFields,li]
 |cons f fs ih=>
  intro o n ks hk hx hy fx fy hF;simp only [vL] at hk;cases hf:F f.type with
  |none=>simp [hf] at hk
  |some js=>
   simp only [hf] at hk
   cases hc:AT f.offset o&&AT js.length (P.cellsOf f.type)&&!(f.name== "_") with
   |false=>simp [hc] at hk
   |true=>
    simp only [hc,cond_true] at hk;simp only [sh,IN] at hc;obtain ⟨⟨h1,h2⟩,h3⟩:=hc;have h1:=c8 h1;have h2:=c8 h2
    have h3:f.name≠ "_" :=by intro he;rw [he] at h3;simp at h3
    cases hr:vL F P fs (o+js.length) n with
    |none=>simp [hr] at hk
    |some rs=>
     simp only [hr,AI] at hk;subst hk;obtain ⟨fx1,fx2⟩:=fx.split;obtain ⟨fy1,fy2⟩:=fy.split;rw [aaX] at fx2 fy2;have lx:=fx.length;have ly:=fy.length;simp only [afq,adq,Array.length_toList] at lx ly;obtain ⟨⟨d,hu,jO⟩,oM⟩:=hF f (by simp) js hf;by_cases hz:o+js.length<=xs.size/\o+js.length<=ys.size
     ·obtain ⟨x,px,wx⟩:=Bn (w:=w) (xs:=xs) (off:=f.offset) hu h2.symm jO (by rw [h1];exact hz.1);obtain ⟨y,py,wy⟩:=Bn (w:=w) (xs:=ys) (off:=f.offset) hu h2.symm jO (by rw [h1];exact hz.2);rw [h1] at wx wy;have he:=oM x y _ _ wx wy fx1 fy1;have Ct:=ih (o+js.length) n rs hr hx hy fx2 fy2 (λg hg=>hF g (by simp [hg]));simp only [Op.eqFields,h3,ne_eq,not_false_eq_true,if_true,acG,px,py,he,abR];have Io:li (xs.toList.drop o) (ys.toList.drop o)=(li ((xs.toList.drop o).take js.length) ((ys.toList.drop o).take js.length)&&li (xs.toList.drop (o+js.length)) (ys.toList.drop (o+js.length))):=by rw [<-aaX,<-aaX,<-u5 (by rw [fx1.length,fy1.length]),aaG,aaG]
      rw [Io];cases li ((xs.toList.drop o).take js.length) ((ys.toList.drop o).take js.length)
      ·simp
      ·simpa using Ct
     ·exfalso;have:=Iz _ _ _ _ hr;omega
theorem Z4 {e:TypeId}{dd:Nat}{xs ys:Array Value}{js:List Kd}(KA:js.length=P.cellsOf e)(hd: ∃d,P.underlying e=some d/\(KO d=false->js.length=1))(oM: ∀(x y:Value)(us vs:List Value),uD P e x us->uD P e y vs->jX js us->jX js vs->(afU dd e x y).run P w= .ok (li us vs) w): ∀(m i:Nat),xs.size=(i+m) *js.length->ys.size=(i+m) *js.length->jX (PW m js) (xs.toList.drop (i *js.length))->jX (PW m js) (ys.toList.drop (i *js.length))-> (Op.eqItems dd e (P.cellsOf e) xs ys (acD i m)).run P w= .ok (li (xs.toList.drop (i *js.length)) (ys.toList.drop (i *js.length))) w:=by
 intro m;induction m with
 |zero=>intro i hx hy _ _;have h1:xs.toList.drop (i *js.length)=[]:=abc (by simp [hx]);have h2:ys.toList.drop (i *js.length)=[]:=abc (by simp [hy]);rw [h1,h2];simp [Op.eqItems,li]
 |succ m ih=>
  intro i hx hy fx fy;simp only [PW] at fx fy;obtain ⟨fx1,fx2⟩:=fx.split;obtain ⟨fy1,fy2⟩:=fy.split;have hmul:i *js.length+js.length=(i+1) *js.length:=by rw [age]
  rw [aaX,hmul] at fx2 fy2;obtain ⟨d,hu,jO⟩:=hd;have hle:(i+1) *js.length<=(i+(m+1)) *js.length:=Nat.mul_le_mul_right _ (by omega);obtain ⟨x,px,wx⟩:=Bn (w:=w) (xs:=xs) (off:=i *js.length) hu KA.symm jO (by omega);obtain ⟨y,py,wy⟩:=Bn (w:=w) (xs:=ys) (off:=i *js.length) hu KA.symm jO (by omega);have he:=oM x y _ _ wx wy fx1 fy1;have Ct:=ih (i+1) (by rw [hx];congr 1;omega) (by rw [hy];congr 1;omega) fx2 fy2;rw [adK];simp only [Op.eqItems,acG,<-KA,px,py,he,abR];have Io:li (xs.toList.drop (i *js.length)) (ys.toList.drop (i *js.length))=(li ((xs.toList.drop (i *js.length)).take js.length) ((ys.toList.drop (i *js.length)).take js.length)&&li (xs.toList.drop ((i+1) *js.length)) (ys.toList.drop ((i+1) *js.length))):=by rw [<-hmul,<-aaX,<-aaX,<-u5 (by rw [fx1.length,fy1.length]),aaG,aaG]
  rw [Io];cases li ((xs.toList.drop (i *js.length)).take js.length) ((ys.toList.drop (i *js.length)).take js.length)
  ·simp
  ·rw [<-KA] at Ct;simpa using Ct
theorem L7: ∀(d:Nat)(t:TypeId)(ks:List Kd),nN P d t=some ks-> ∃k,P.underlying t=some k/\(KO k=false->ks.length=1):=by
 intro d t ks h;cases d with
 |zero=>simp [nN] at h
 |succ d=>
  simp only [nN] at h;cases hu:P.underlying t with
  |none=>simp [hu] at h
  |some k=>
   refine ⟨k,rfl,λha=> ?_⟩;cases k<;>simp only [hu] at h<;>first
    |(simp only [AI] at h;subst h;rfl)
    |(cases h;done)
    |(simp [KO] at ha;done)
theorem Gf: ∀(d:Nat)(t:TypeId)(ks:List Kd),nN P d t=some ks-> ∀(m:Nat)(x y:Value)(us vs:List Value),uD P t x us->uD P t y vs->jX ks us->jX ks vs-> (afU (m+d) t x y).run P w= .ok (li us vs) w:=by
 intro d;induction d with
 |zero=>intro t ks h;simp [nN] at h
 |succ d ih=>
  intro t ks h m x y us vs hx hy fx fy;simp only [nN] at h;have hmd:m+(d+1)=(m+d)+1:=rfl;rw [hmd];cases hu:P.underlying t with
  |none=>simp [hu] at h
  |some k=>
   cases k<;>simp only [hu] at h<;>try (cases h;done)
   case bool=>simp only [AI] at h;subst h;simp only [uD,hu] at hx hy;subst hx;subst hy;obtain ⟨v,r,h1,h2,h3⟩:=fx;obtain ⟨v',r',Ky,Pu,h3'⟩:=fy;simp at h1 Ky;obtain ⟨rfl,_⟩:=h1;obtain ⟨rfl,_⟩:=Ky;cases x<;>simp [NE] at h2;cases y<;>simp [NE] at Pu;rename_i a b;rw [run_equalIn_bool' w _ t a b hu];simp [li,ZZ];cases a<;>cases b<;>rfl
   case int k=>simp only [AI] at h;subst h;simp only [uD,hu] at hx hy;subst hx;subst hy;obtain ⟨v,r,h1,h2,h3⟩:=fx;obtain ⟨v',r',Ky,Pu,h3'⟩:=fy;simp at h1 Ky;obtain ⟨rfl,_⟩:=h1;obtain ⟨rfl,_⟩:=Ky;cases x<;>simp [NE] at h2;cases y<;>simp [NE] at Pu;subst h2;subst Pu;rw [run_equalIn_int w _ t _ _ _ _ hu];simp only [li,ZZ,acP];congr 1
   case string=>simp only [AI] at h;subst h;simp only [uD,hu] at hx hy;subst hx;subst hy;obtain ⟨v,r,h1,h2,h3⟩:=fx;obtain ⟨v',r',Ky,Pu,h3'⟩:=fy;simp at h1 Ky;obtain ⟨rfl,_⟩:=h1;obtain ⟨rfl,_⟩:=Ky;cases x<;>simp [NE] at h2;cases y<;>simp [NE] at Pu;rw [run_equalIn_string w _ t _ _ hu];simp only [li,ZZ,acP,toList_data];congr 1;exact Bool.beq_eq_decide_eq _ _
   case array n e=>
    cases hke:nN P d e with
    |none=>simp [hke] at h
    |some js=>
     simp only [hke] at h;cases hc:AT js.length (P.cellsOf e)&&(match P.info? e with|some _=>true|none=>false) with
     |false=>simp [hc] at h
     |true=>
      simp only [hc,cond_true,AI] at h;subst h;simp only [sh] at hc;have KA:=c8 hc.1;obtain ⟨i,hi⟩: ∃i,P.info? e=some i:=by
       cases hi:P.info? e with
       |none=>rw [hi] at hc;simp at hc
       |some i=>exact ⟨i,rfl⟩
      simp only [uD,hu] at hx hy;subst hx;subst hy;rw [run_equalIn_array w (m+d) us.toArray vs.toArray hu hi,List.range_eq_range'];have l1:=fx.length;have l2:=fy.length;rw [PX] at l1 l2;have:=Z4 (w:=w) (xs:=us.toArray) (ys:=vs.toArray) (js:=js) (dd:=m+d) KA (L7 d e js hke) (λx y us vs a b c d'=>ih e js hke m x y us vs a b c d') n 0 (by simpa using l1) (by simpa using l2) (by simpa using fx) (by simpa using fy);simpa using this
   case struct fs=>
    cases eR:P.stoodInHeld t with
    |true=>simp [eR] at h
    |false=>
     simp only [eR,cond_false] at h;simp only [uD,hu] at hx hy;subst hx;subst hy;have ZC:P.fieldsOf t=fs:=by simp [Program.fieldsOf,hu]
     rw [run_equalIn_struct w (m+d) t us.toArray vs.toArray (by rw [ZC];exact hu) eR,ZC];have hl:=Iz _ _ _ _ h;have:=WB (w:=w) (dd:=m+d) (xs:=us.toArray) (ys:=vs.toArray) fs.toList 0 (P.cellsOf t) ks h (by simp [fx.length];omega) (by simp [fy.length];omega) (by simpa using fx) (by simpa using fy) (λf hf js hjs=>⟨L7 d f.type js hjs,λx y us vs a b c d'=>ih f.type js hjs m x y us vs a b c d'⟩);simpa using this
end
theorem U0 {l m:List Kd}(h:GJ l m=true):l=m:=by
 induction l generalizing m with
 |nil=>cases m<;>simp [GJ] at h;rfl
 |cons a l ih=>
  cases m with
  |nil=>simp [GJ] at h
  |cons b m=>simp only [GJ,sh] at h;rw [ZU h.1,ih h.2]
def S1:List Kd->Bool
 |[]=>true
 | .l::_=>false
 | .raw::_=>false
 |_::r=>S1 r
def eqB (P:Program)(t:Nat)(I:TI):Bool:=!S1 I.lay||!xU I.du||((match nN P 20 t with|some ks=>GJ ks (cks I.lay)|none=>false)&&!P.eqGuardType P.depth t&& (match P.underlying t with|some (.struct _)=>I.st|some (.array _ _)=>!I.st&&ma I.lay .h|some .bool=>!I.st&&ma I.lay .b|some (.int k)=>!I.st&&ma I.lay (.i k)|some .string=>!I.st&&ma I.lay .s|_=>false))
def ahP (P:Program)(tab:List (Nat×TI)):Bool:=tab.all λp=>eqB P p.1 p.2
theorem WC {lay:List Kd}: ∀{ls:List aS},jV lay ls=true->S1 lay=true:=by
 induction lay with
 |nil=>intro ls _;rfl
 |cons k lay ih=>
  intro ls h;cases ls with
  |nil=>simp [jV] at h
  |cons l ls=>
   simp only [jV] at h;cases h1:vC k l with
   |false=>simp [h1] at h
   |true=>simp only [h1,cond_true] at h;have:=ih h;cases k<;>first|exact this|(cases l<;>simp [vC] at h1)
theorem WD {t:TypeId}{x y:Value}(h:(∃b,x= .bool b)\/ ∃cs,x= .agg cs)(op:BinOp): (op= .eql->binOp op t x y=(do pure (.bool (<-afQ t x y))))/\(op= .neq->binOp op t x y=(do pure (.bool (!(<-afQ t x y))))):=by rcases h with ⟨b,rfl⟩|⟨cs,rfl⟩<;>refine ⟨?_,?_⟩<;>rintro rfl<;>cases y<;>rfl
theorem WE {P:Program}{tab:List (Nat×TI)}(h:ahP P tab=true):Sw P (zf tab):=by
 intro t I hI hc e w vx vy sx sy b rx ry fx fy shx shy hb n1 n2;have hr:=aa5.1 h (t,I) (LY hI);simp only [eqB,WC fx,acM,af2] at hr;rw [hc] at hr;simp only [xU,acM,af2,sh,IN] at hr;obtain ⟨⟨hk,hg⟩,hd⟩:=hr;cases hks:nN P 20 t with
 |none=>simp [hks] at hk
 |some ks=>
  simp only [hks] at hk;have hk:=U0 hk;subst hk;have cells: ∀(v:Value) (s:Slot),ah e v s->jV I.lay (bm s)=true->vD I.st s=true->(∃us,uD P t v us/\aJ e us (bm s))/\((∃b,v= .bool b)\/(∃cs,v= .agg cs)\/(∃k n,s= .sc (.p (.i k n)))\/ ∃l,s= .sc (.p (.s l))):=by
   intro v s hv hf hs;cases s<;>simp only [vD] at hs<;>try (cases hs;done)
   ·rename_i l;have eR:I.st=false:=by simpa using hs
    cases hu:P.underlying t with
    |none=>simp [hu] at hd
    |some d=>
     simp only [hu] at hd;cases d<;>simp only [eR,afR,acO] at hd<;>try (cases hd;done)
     ·have hl:=eU hd;rw [hl] at hf;simp only [bm,jV] at hf;cases l<;>simp [vC] at hf;rename_i m;cases m<;>simp [vC] at hf;have:=HZ hv;exact ⟨⟨[v],by simp [uD,hu],[v],[],rfl,hv,rfl⟩,.inl ⟨_,this⟩⟩
     ·have hl:=eU hd;rw [hl] at hf;simp only [bm,jV] at hf;cases l<;>simp [vC] at hf;rename_i m;cases m<;>simp [vC] at hf;exact ⟨⟨[v],by simp [uD,hu],[v],[],rfl,hv,rfl⟩,.inr (.inr (.inl ⟨_,_,rfl⟩))⟩
     ·have hl:=eU hd;rw [hl] at hf;simp only [bm,jV] at hf;cases l<;>simp [vC] at hf;rename_i m;cases m<;>simp [vC] at hf;exact ⟨⟨[v],by simp [uD,hu],[v],[],rfl,hv,rfl⟩,.inr (.inr (.inr ⟨_,rfl⟩))⟩
     ·have hl:=eU hd;rw [hl] at hf;simp only [bm,jV] at hf;cases l<;>simp [vC] at hf;rename_i x;have hv:v= .agg (bT x).toArray:=hv;exact ⟨⟨bT x,by simp [uD,hu,hv],bT x,[],by simp,rfl,rfl⟩,.inr (.inl ⟨_,hv⟩)⟩
   ·rename_i cs;cases hu:P.underlying t with
    |none=>simp [hu] at hd
    |some d=>
     simp only [hu] at hd;cases d<;>simp only [hs,acM,Bool.false_and] at hd<;>try (cases hd;done)
     obtain ⟨arr,hv,rO⟩:=hv;exact ⟨⟨arr.toList,by simp [uD,hu,hv],rO⟩,.inr (.inl ⟨_,hv⟩)⟩
  obtain ⟨⟨us,wx,lx⟩,kx⟩:=cells vx sx rx fx shx;obtain ⟨⟨vs,wy,ly⟩,ky⟩:=cells vy sy ry fy shy;have oM:(afQ t vx vy).run P w= .ok b w:=by have:=Gf (P:=P) (w:=w) 20 t _ hks 9980 vx vy us vs wx wy (L0 lx fx) (L0 ly fy);rw [Z3 lx ly hb] at this;exact this
  refine ⟨oM,λx y op=> ?_⟩;have hxk:(∃b,vx= .bool b)\/ ∃cs,vx= .agg cs:=by
   rcases kx with h1|h1|⟨k,n,h1⟩|⟨l,h1⟩
   ·exact .inl h1
   ·exact .inr h1
   ·exfalso;subst h1;cases hu:P.underlying t with
    |none=>simp [hu] at hd
    |some d=>
     simp only [bm] at fx fy hb;cases Z5:I.lay with
     |nil=>rw [Z5] at fx;simp [jV] at fx
     |cons k0 r0=>
      rw [Z5] at fx fy;simp only [jV] at fx;cases k0<;>simp [vC] at fx;obtain ⟨WG,hr0⟩:=fx;have hr0:r0=[]:=by cases r0<;>simp [jV] at hr0;rfl
      subst hr0;cases sy<;>simp only [vD] at shx shy<;>try (cases shy;done)
      ·rename_i l;simp only [bm,jV] at fy;cases l<;>simp [vC] at fy;rename_i m;cases m<;>simp [vC] at fy;exact n1 _ _ _ _ rfl rfl
      ·rw [shy] at shx;cases shx
   ·exfalso;subst h1;simp only [bm] at fx fy hb;cases Z5:I.lay with
    |nil=>rw [Z5] at fx;simp [jV] at fx
    |cons k0 r0=>
     rw [Z5] at fx fy;simp only [jV] at fx;cases k0<;>simp [vC] at fx;have hr0:r0=[]:=by cases r0<;>simp [jV] at fx;rfl
     subst hr0;cases sy<;>simp only [vD] at shx shy<;>try (cases shy;done)
     ·rename_i l;simp only [bm,jV] at fy;cases l<;>simp [vC] at fy;rename_i m;cases m<;>simp [vC] at fy;exact n2 _ _ rfl rfl
     ·rw [shy] at shx;cases shx
  refine ⟨?_,WD hxk op⟩;have hg':P.eqGuardType P.depth t=false:=hg;rcases hxk with ⟨bb,rfl⟩|⟨cs,rfl⟩
  ·cases op<;>rfl
  ·cases vy<;>cases op<;>first|rfl|(simp [eqGuard,hg'])
end Dn
/-
  A program's types of maps, looked through. Conditions: none.
-/
namespace Dn
open Go
theorem NF {lay:List Kd}: ∀{ks:List MV},lU lay ks=true->jX (cks lay) (ks.flatMap R2):=by
 induction lay with
 |nil=>intro ks h;cases ks with|nil=>rfl|cons=>simp [lU] at h
 |cons k lay ih=>
  intro ks h;cases ks with
  |nil=>simp [lU] at h
  |cons m ks=>
   simp only [lU,sh] at h;have h2:=ih h.2;have h1:=h.1;cases k<;>cases m<;>simp only [HY] at h1<;>try (cases h1;done)
   ·exact ⟨_,_,rfl,rfl,h2⟩
   ·exact ⟨_,_,rfl,h1,h2⟩
   ·exact ⟨_,_,rfl,rfl,h2⟩
   ·exact (Iy _).append h2
theorem adG {lay:List Kd}: ∀{a b:List MV},lU lay a=true->lU lay b=true->li (a.flatMap R2) (b.flatMap R2)=zP b a:=by
 induction lay with
 |nil=>intro a b ha hb;cases a<;>cases b<;>simp [lU] at ha hb;rfl
 |cons k lay ih=>
  intro a b ha hb;cases a with
  |nil=>simp [lU] at ha
  |cons x a=>
   cases b with
   |nil=>simp [lU] at hb
   |cons y b=>
    simp only [lU,sh] at ha hb;have ih:=ih ha.2 hb.2;have h1:=ha.1;have h2:=hb.1;cases k<;>cases x<;>simp only [HY] at h1<;>try (cases h1;done)
    all_goals cases y<;>simp only [HY] at h2<;>try (cases h2;done)
    ·rename_i p q;simp only [acH,R2,OF,adX,li,ZZ,zP,Pc,ih];congr 1;rw [decide_eq_decide];exact eq_comm
    ·rename_i k1 p k2 q;have e1:=of_decide_eq_true h1;have e2:=of_decide_eq_true h2;subst e1;subst e2;simp only [acH,R2,OF,adX,li,ZZ,zP,Pc,ih,decide_true,acO];congr 1;rw [decide_eq_decide];exact eq_comm
    ·rename_i p q;simp only [acH,R2,OF,adX,li,ZZ,zP,Pc,ih];congr 1;rw [decide_eq_decide];simp [eq_comm]
    ·rename_i p q;simp only [acH,R2,zP,Pc];rw [u5 (by rw [dJ,dJ]),LZ,ih];congr 1;rw [decide_eq_decide];exact eq_comm
def Fh:TypeDesc->Bool
 | .bool| .int _| .string=>true
 |_=>false
def akT (P:Program)(n:Nat)(fs:List Field):Bool:=fs.all λf=>(match P.underlying f.type with|some d=>Fh d|none=>false)&&acF (f.offset+1) n
def af4 (P:Program)(kt:Nat)(I:TI):Bool:=match P.underlying kt with
 |some .bool=>!I.st&&ma I.lay .b
 |some (.int k)=>!I.st&&ma I.lay (.i k)
 |some .string=>!I.st&&ma I.lay .s
 |some (.struct fs)=>I.st&&(match nN P 20 kt with|some ks=>GJ ks (cks I.lay)|none=>false)&&akT P (cks I.lay).length fs.toList
 |_=>false
def af5 (b:Bool):Option Value->Bool
 |some (.bool false)=>b
 |some (.int .i64 n)=>!b&&decide (n=0)
 |_=>false
def akU (P:Program)(ti:Nat->Option TI)(t kt:Nat)(b:Bool):Bool:=match P.underlying t with
 |some (.map kt' el)=>AT kt' kt&&(match P.info? el with|some i=>af5 b i.zero|none=>false)&&(match ti kt with|some I=>xU I.du&&af4 P kt I|none=>false)
 |_=>false
def IA:List (Nat×(Nat×Bool))->Nat->Option (Nat×Bool)
 |[],_=>none
 |(k,s)::r,t=>bif AT k t then some s else IA r t
theorem WH {l:List (Nat×(Nat×Bool))}{t:Nat}{I:Nat×Bool}(h:IA l t=some I):(t,I)∈l:=by
 induction l with
 |nil=>simp [IA] at h
 |cons p l ih=>
  obtain ⟨k,s⟩:=p;simp only [IA,gj] at h;by_cases hk:k=t
  ·subst hk;simp at h;subst h;simp
  ·simp only [hk,decide_false,cond_false] at h;exact IT _ (ih h)
def adH (P:Program)(ti:Nat->Option TI)(l:List (Nat×(Nat×Bool))):Bool:=l.all λp=>akU P ti p.1 p.2.1 p.2.2
theorem Bo {k:Kd}{ks:List MV}(h:lU [k] ks=true): ∃m,ks=[m]/\HY k m=true:=by
 cases ks with
 |nil=>simp [lU] at h
 |cons m r=>
  cases r with
  |cons=>simp [lU] at h
  |nil=>exact ⟨m,rfl,by simpa [lU] using h⟩
theorem kn {P:Program}{t:TypeId}{d:TypeDesc}(hu:P.underlying t=some d)(hd:Fh d=true)(em:Bool)(n:Nat)(v:Value)(w:World):(ac6 em (n+1) t v).run P w= .ok () w:=by rw [ac6];simp only [acG,run_underlying hu,ab1];cases d<;>simp [Fh] at hd<;>cases v<;>rfl
theorem IB {P:Program}{t:TypeId}{d:TypeDesc}(hu:P.underlying t=some d)(hd:Fh d=true){xs:Array Value}{off:Nat}(h:off<xs.size)(w:World):(afO t xs off).run P w= .ok xs[off] w:=by cases d<;>simp [Fh] at hd<;>simp [afO,isAgg,run_underlying hu,h]
theorem S2 {P:Program}{c:Ctx}{l:List (Nat×(Nat×Bool))}(h:adH P c.ti l=true)(hm: ∀t p,c.mt t=some p->IA l t=some p):Fb P c:=by
 intro t s hs;unfold V5 at hs;cases UW:c.mt t with
 |none=>simp [UW] at hs
 |some p=>
  obtain ⟨kt,b⟩:=p;simp only [UW] at hs;cases hI:c.tv kt with
  |none=>simp [hI] at hs
  |some I=>
   simp only [hI] at hs;cases hit:Sc ⟨I.st,I.lay,b⟩ with
   |true=>simp [hit] at hs
   |false=>
   simp only [hit,cond_false,AI] at hs;subst hs;obtain ⟨O1,R3⟩:=cc hI;have hb:=aa5.1 h _ (WH (hm t _ UW));simp only [akU] at hb;split at hb
   ·rename_i kt' el hu;simp only [sh] at hb;obtain ⟨⟨wj,vH⟩,hb3⟩:=hb;have wj:=c8 wj;subst wj;split at vH
    ·rename_i inf ao2;rw [O1] at hb3;simp only [sh] at hb3;have hk:=hb3.2;have hz: ∀w:World,(zeroValue el).run P w= .ok (YR b (Uy b)) w:=by
      intro w;have:inf.zero=some (YR b (Uy b)):=by
       generalize inf.zero=z at vH;unfold af5 at vH;split at vH
       ·subst vH;rfl
       ·simp only [sh,IN] at vH;obtain ⟨h1,h2⟩:=vH;subst h1;rw [of_decide_eq_true h2];rfl
       ·cases vH
      simp [zeroValue,typeInfo,ao2,this]
     unfold af4 at hk;refine ⟨kt',el,hu,hz,?_⟩;split at hk
     ·rename_i hd;simp only [sh,IN] at hk;have hl:=eU hk.2;refine ⟨λem ks w hf=>kn hd rfl em 9999 _ w,_,hd,.inl λa b' ha E0=> ?_⟩;rw [hl] at ha E0;obtain ⟨x,rfl,hx⟩:=Bo ha;obtain ⟨y,rfl,hy⟩:=Bo E0;cases x<;>simp [HY] at hx;cases y<;>simp [HY] at hy;rename_i p q;simp only [hk.1,Dp,acN,zP,Pc,acP];congr 1;rw [adY];simp only [beq_iff_eq,decide_eq_true_eq];exact eq_comm
     ·rename_i k hd;simp only [sh,IN] at hk;have hl:=eU hk.2;refine ⟨λem ks w hf=>kn hd rfl em 9999 _ w,_,hd,.inl λa b' ha E0=> ?_⟩;rw [hl] at ha E0;obtain ⟨x,rfl,hx⟩:=Bo ha;obtain ⟨y,rfl,hy⟩:=Bo E0;cases x<;>simp [HY] at hx;cases y<;>simp [HY] at hy;subst hx;subst hy;rename_i p q;simp only [hk.1,Dp,acN,zP,Pc,acP,if_true,decide_true,acO];congr 1;rw [adY];simp only [beq_iff_eq,decide_eq_true_eq];exact eq_comm
     ·rename_i hd;simp only [sh,IN] at hk;have hl:=eU hk.2;refine ⟨λem ks w hf=>kn hd rfl em 9999 _ w,_,hd,.inl λa b' ha E0=> ?_⟩;rw [hl] at ha E0;obtain ⟨x,rfl,hx⟩:=Bo ha;obtain ⟨y,rfl,hy⟩:=Bo E0;cases x<;>simp [HY] at hx;cases y<;>simp [HY] at hy;rename_i p q;simp only [hk.1,Dp,acN,zP,Pc,acP];congr 1;rw [beq_toListBytes,aeC,aeC,adY];simp only [beq_iff_eq,decide_eq_true_eq,List.toList_toArray];exact eq_comm
     ·rename_i fs hd;simp only [sh] at hk;obtain ⟨⟨eR,hkk⟩,ZC⟩:=hk;split at hkk
      ·rename_i ks hks;have hkk:=U0 hkk;subst hkk;have hkv: ∀q,Dp true q= .agg (q.flatMap R2).toArray:=by intro q;rfl
       refine ⟨λem q w hf=> ?_,_,hd,.inr λx y hx hy=>⟨?_,λw=> ?_⟩⟩
       ·have hlen:(q.flatMap R2).length=(cks I.lay).length:=(NF hf).length;rw [eR,hkv,show (10000:Nat)=9999+1 from rfl,ac6];simp only [acG,run_underlying hd,abR];rw [<-Array.forIn_toList];have each: ∀f∈fs.toList,(∃d,P.underlying f.type=some d/\Fh d=true)/\f.offset<(q.flatMap R2).toArray.size:=by
         intro f hf;have:=aa5.1 ZC f hf;simp only [sh] at this;obtain ⟨h1,h2⟩:=this;split at h1
         ·rename_i d hd;exact ⟨⟨d,hd,h1⟩,by have:=aaL h2;simp only [abM];omega⟩
         ·cases h1
        clear ZC;generalize fs.toList=L at each;generalize (q.flatMap R2).toArray=xs at each;induction L with
        |nil=>simp
        |cons f L ih=>
         obtain ⟨⟨d,h1,h2⟩,h3⟩:=each f (by simp);have wj:=kn h1 h2 em 9998 xs[f.offset] w;have vH:=IB (P:=P) h1 h2 h3 w
         by_cases hn:f.name= "_"
         ·simp only [List.forIn_cons,acG,hn,ne_eq,not_true_eq_false,if_false,abR,Sem.run_pure];exact ih (λy hy=>each y (by simp [hy]))
         ·simp only [List.forIn_cons,acG,hn,ne_eq,not_false_eq_true,if_true,abR,wj,vH,Sem.run_pure];exact ih (λy hy=>each y (by simp [hy]))
       ·rw [eR,hkv,hkv];rfl
       ·rw [eR,hkv,hkv];have:=Gf (P:=P) (w:=w) 20 kt' _ hks 9980 (.agg (x.flatMap R2).toArray) (.agg (y.flatMap R2).toArray) (x.flatMap R2) (y.flatMap R2) (by simp [uD,hd]) (by simp [uD,hd]) (NF hx) (NF hy);rw [adG hx hy] at this;exact this
      ·cases hkk
     ·cases hk
    ·cases vH
   ·cases hb
end Dn
/-
  Functions that are handed a variable do what their abstract run says. Conditions: none.
-/
namespace Dn
open Go
section
variable {P:Program}{c:Ctx}{Z:cb} {e e':Env}{st cO:St} {a a':Act} {w w':World}{R:Type}{r:R}
theorem WI {rs:List ResultVar}(hT:lV P c.ti): ∀{e:Env}{st:St}{K:List MV->St->Option R},cG c Z e st a w->V8 c st rs K=some r-> ∃e' cO ms vs,cG c Z e' cO a w/\Ext Z.In e e'/\(rs.mapM (lh a.tmps)).run P w= .ok vs w/\cN e'.key e'.φ vs ms/\K ms cO=some r:=by
 induction rs with
 |nil=>intro e st K h hK;exact ⟨e,st,[],[],h,.refl _ _,by simp,rfl,hK⟩
 |cons x rs ih=>
  intro e st K h hK;have go: ∀(s:Slot) (v:Value),ah e v s->(lh a.tmps x).run P w= .ok v w->(na st s λm st=>V8 c st rs λms st=>K (m::ms) st)=some r-> ∃e' cO ms vs,cG c Z e' cO a w/\Ext Z.In e e'/\((x::rs).mapM (lh a.tmps)).run P w= .ok vs w/\cN e'.key e'.φ vs ms/\K ms cO=some r:=by
   intro s v hs cC hK;obtain ⟨e1,dA,m,h1,h2,h3,h4,hK⟩:=ot h hs hK;obtain ⟨e2,ei,ms,vs,q1,q2,q3,q4,hK⟩:=ih h1 hK;refine ⟨e2,ei,m::ms,v::vs,q1,h2.trans q2,?_,⟨v,vs,rfl,?_,q4⟩,hK⟩
   ·simp [aeh,cC,q3]
   ·have:=h4.mono q2.on.φ;rw [<-q2.on.key] at this;exact this
  simp only [V8] at hK;cases x with
  |tmp t=>
   simp only at hK;have hs:=h.slot t;by_cases hb: ∃cs,av st.fr t= .box cs
   ·obtain ⟨cs,hb⟩:=hb;rw [hb] at hK;simp [na] at hK
   ·refine go (av st.fr t) (a.tmps.getD t undef) ?_ rfl hK;generalize av st.fr t=s at hs hb;cases s<;>first|exact hs|exact absurd ⟨_,rfl⟩ hb
  |cell b t=>
   simp only at hK;have hs:=h.slot b;split at hK
   ·rename_i I cs hI hb;obtain ⟨O1,R3⟩:=cc hI;rw [hb] at hs;obtain ⟨hv,Fa⟩:=hs;cases CQ:fT cs||BX b with
    |true=>simp [CQ] at hK
    |false=>
    obtain ⟨Ds,hpb⟩:=By.1 CQ;simp only [CQ,cond_false] at hK;have hv:=hv.1 hpb;rw [vE Ds] at hv;obtain ⟨arr,T,dx,rO⟩:=Fa.cells Ds;have hm:w.rangeAt (e.B b) 0 arr.toList:=by intro j v hj;rw [ac1,cell_of dx];simpa using hj
    obtain ⟨v,s,h1,h2,h3,h4⟩:=kl (P:=P) (st:=st) (s:= .skip) (hT t I O1) R3 rO hm hK;refine go s v h2 ?_ h4;simpa [lh,hv,asAddr,aeH,aew] using h1 w hm
   ·simp at hK
theorem IC {key:Nat->Nat} {φ:Ph}{v:Value}{m:MV}(h:gh key φ v (.cell m)):False:=by have:=h.1;simp [MV.one] at this
theorem akW (off pos:Nat):BX (1000000+off *1000+pos)=true:=acI (by omega)
theorem Z6 {f pos:Nat}{ks:List LK}{fn:Func}{cE:List (List Kd)}{ms:List MV}{m:MV}(hG:Good P c)(hD:UX P c)(hf:P.funcs[f]? =some fn)(DC:(fn.name== "runtime.NumGoroutine")=false)
 (hn:c.n=fn.ntmps) (hnp:fn.ntmps<=1000000) (wu:fn.params.size+cE.length<=fn.ntmps) (hg:c.fe (c.key f)=true) (B3:c.sig (c.key f)=some (pos,ks)) (hb:Lx c cE pos ks fn ms=some m):lY P c f ms m:=by
 intro φ w Z vs hz gn kb;unfold Lx at hb;cases qT:fn.body with
 |none=>simp [qT] at hb
 |some b=>
 simp only [qT] at hb;split at hb;rotate_left
 ·simp at hb
 rename_i b' off ls E0 CQ;cases E0;cases mW:!je c ks||!acF pos 999 with
 |true=>simp [mW] at hb
 |false=>
 simp only [mW,cond_false] at hb;simp only [By,aaJ] at mW;obtain ⟨kI,fg⟩:=mW;have fg:=aaL fg;simp only [fU,hg,if_true] at gn;have hC:afV c Z φ w (c.key f) vs ms:=by
  rcases gn with ⟨v0,v1,v2,xs,m1,ys,_,rfl,_,h4,_⟩|⟨v0,v1,v2,xs,m1,m2,_,rfl,_,_,h4,h5⟩|h
  ·exfalso;rcases pos with _|_|_|pos<;>simp at CQ;subst CQ;exact IC h4
  ·exfalso;rcases pos with _|_|_|pos<;>simp at CQ
   ·subst CQ;exact IC h4
   ·subst CQ;exact IC h5
  ·exact h
 obtain ⟨pos',ks',V7,ze,bB,Bi,hvp,ahT,wF,uQ⟩:=hC;rw [B3] at Bi;simp only [AI,aaf] at Bi;obtain ⟨rfl,rfl⟩:=Bi;rw [CQ] at ahT;simp only [AI,MV.cell.injEq,MV.func.injEq] at ahT;obtain ⟨rfl,rfl⟩:=ahT;obtain ⟨cs,mm,E,arr,T,z1,dx,hzb,r9,rO,iN,fK⟩:=uQ;let e:Env:=⟨c.key,φ,E,λ_=>bB,mm⟩
 have cC:(callFunc f vs.toArray).run P w= .ok (.enter f vs.toArray) w:=by
  have GM: ¬fn.name= "runtime.NumGoroutine" :=by simpa using DC
  simp [callFunc,hf,GM,qT]
 unfold ia;rw [cC];refine calls_of_wp hf qT ?_;have wF:cN e.key e.φ vs (ms.set pos (.rp [])):=wF;obtain ⟨fr,rest,iM,oO,hb,rfl,l1,a2,k1,s1⟩:=Gd wF hb;obtain ⟨qd,hb,l2,k2,s2⟩:=LU a2 hb;simp only [xH] at hb;obtain ⟨gK,akX,Bc,g1,hb⟩:=kf hb;cases akX with
 |cons=>simp [gN] at hb
 |nil=>
 simp only [gN] at hb;have oM:cs=gK/\mm=Bc.bk:=by unfold UO at z1;rw [g1] at z1;simp only [gN,AI,aaf] at z1;exact ⟨z1.1.symm,z1.2.symm⟩
 obtain ⟨rfl,hmm⟩:=oM;rw [<-hmm] at hb;have htn:(iM++oO).toArray.size=fn.params.size+cE.length:=by simp [l1,l2]
 let a:Act:={tmps:=(iM++oO).toArray++abH (fn.ntmps-(iM++oO).toArray.size) undef,defers:=[]}
 have Df: ∀(t:Nat) (v:Value),(iM++oO)[t]? =some v->a.tmps.getD t undef=v:=by intro t v ht;have dK:t<(iM++oO).length:=(aai.1 ht).1;rw [aaI];show (((iM++oO).toArray++abH _ undef)[t]?).getD undef=v;rw [ade (by simpa using dK)];simp only [aec];rw [ht];rfl
 have Iv: ∀t,dW (av (fr++qd) t)=false/\(∀cs,av (fr++qd) t≠ .box cs)/\ah e (a.tmps.getD t undef) (av (fr++qd) t):=by
  intro t;rw [zS];by_cases h1:t∈bg fr
  ·simp only [h1,if_true];obtain ⟨g1,g2,v,g3,g4⟩:=s1 _ (DB h1);refine ⟨g1,?_,?_⟩
   ·intro cs hc;simp only [hc,dv] at g2;cases g2
   ·rw [Df t v ?_];exact g4;have dK:t<iM.length:=(aai.1 g3).1;rw [adv dK];exact g3
  ·simp only [h1,if_false];by_cases h2:t∈bg qd
   ·obtain ⟨g1,g2,v,g3,g4⟩:=s2 _ (DB h2);refine ⟨g1,g2,?_⟩;rw [Df t v ?_];exact g4;have hk:=h2;rw [k2,acC] at hk;obtain ⟨i,hi,he⟩:=hk;have Du:fn.params.size=iM.length:=by rw [l1];simp
    rw [acw (by omega),<-Du];exact g3
   ·rw [sU _ _ h2];exact ⟨rfl,λcs hc=>(by cases hc),by simp [ah]⟩
 obtain ⟨q,hq⟩: ∃q,q=1000000+off *1000+pos:=⟨_,rfl⟩
 have SU:BX q=true:=by rw [hq];exact akW off pos
 have hpo:posOf q=pos:=by rw [hq];unfold posOf;omega
 have hof:O8 q=off:=by rw [hq];unfold O8;omega
 rw [<-hq] at hb;let Zc:cb:={cb.plain Z with df:=[pos],T:=λ_=> .pointer (some ⟨bB,off,none⟩)}
 have akY:a.tmps.getD pos undef= .pointer (some ⟨bB,off,none⟩):=Df pos _ hvp;have Ny: ∀t,av ((q,Slot.box cs)::(fr++qd)) t=if t=q then .box cs else av (fr++qd) t:=by
  intro t;simp only [av,gj];by_cases WJ:t=q
  ·subst WJ;simp
  ·have: ¬q=t:=λh=>WJ h.symm;simp [WJ,this]
 have U1:bg (fr++qd)=acD 0 (fn.params.toList.length+cE.length):=by
  have:bg (fr++qd)=bg fr++bg qd:=by simp [bg]
  rw [this,k1,k2];have:=aez (s:=0) (m:=fn.params.toList.length) (n:=cE.length);simpa using this
 have af6: ∀t ds,av ((q,Slot.box cs)::(fr++qd)) t= .box ds->t=q:=by
  intro t ds ht;rw [Ny] at ht;by_cases WJ:t=q
  ·exact WJ
  ·rw [if_neg WJ] at ht;exact absurd ht ((Iv t).2.1 ds)
 have tg:cG c Zc e ⟨[pos],[],(q,.box cs)::(fr++qd),mm⟩ a w:=by
  refine ⟨⟨rfl,rfl,rfl,λt ht=> ?_⟩,?_,rfl,rfl,?_,?_,?_,λf o ho=> ?_,λt t' cs gK h1 h2 dG=> ?_,λt ds f o h1 ho=> ?_,λf f' o o' k h1 h2 h3 h4=>fK f f' o o' k h1 h2 h3 h4,kb,hz⟩
  ·have:t=pos:=by simpa [Zc] using ht
   rw [this];exact akY
  ·show ((iM++oO).toArray++abH (fn.ntmps-(iM++oO).toArray.size) undef).size=c.n;rw [aeI,aey,htn,hn];omega
  ·show (bg ((q,Slot.box cs)::(fr++qd))).Nodup;show (q::bg (fr++qd)).Nodup;rw [U1];refine afJ.2 ⟨λhm=> ?_,List.nodup_range'⟩;rw [acC] at hm;obtain ⟨i,hi,he⟩:=hm;have:fn.params.toList.length=fn.params.size:=by simp
   omega
  ·intro t;show cz Zc e w t _ (av ((q,Slot.box cs)::(fr++qd)) t);rw [Ny];by_cases WJ:t=q
   ·rw [if_pos WJ,WJ];exact ⟨⟨λhp=>(by rw [SU] at hp;cases hp),λ_=>⟨by rw [hpo];simp [Zc],by rw [hof]⟩⟩,⟨.inr hzb,⟨_,dx,rfl,rO⟩,r9⟩⟩
   ·rw [if_neg WJ];obtain ⟨g1,g2,g3⟩:=Iv t;generalize av (fr++qd) t=s at g1 g2 g3;cases s<;>first|exact g3|exact absurd rfl (g2 _)
  ·intro t;show cZ _ (av ((q,Slot.box cs)::(fr++qd)) t);rw [Ny];by_cases WJ:t=q
   ·rw [if_pos WJ];trivial
   ·rw [if_neg WJ];exact wE (Iv t).1
  ·obtain ⟨I,cells,q1,q2,q3,q4,q5⟩:=(iN f o ho).1.row;exact ⟨I,cells,q1,q2,q3,q4,λb hb=>⟨.inr (q5 b hb).1,(q5 b hb).2.1,λhc=>by simp [Zc,cb.fz,cb.plain] at hc⟩⟩
  ·exact absurd ((af6 t _ h1).trans (af6 t' _ h2).symm) dG
  ·exact (iN f o ho).2
 refine UY hG hD b tg hb ?_;intro n e' cO a' w' h' t' hK;cases hle:acF n 1 with
 |false=>simp [hle] at hK
 |true=>
  simp only [hle,cond_true] at hK;obtain ⟨e2,ei,ns,us,q1,q2,q3,q4,hK⟩:=WI (P:=P) hG.ti h' hK;split at hK;rotate_left
  ·simp at hK
  rename_i lu Cn;cases UF:fT lu with
  |true=>simp [UF] at hK
  |false=>
  simp only [UF,cond_false] at hK;obtain ⟨outs,ps,ht,hK⟩:=CP hK;simp only [AI] at hK;have z6:(results fn a'.tmps).run P w'= .ok (if h:us.toArray.size=1 then us.toArray[0] else .tuple us.toArray) w':=by
   have hm:(fn.results.mapM (lh a'.tmps)).run P w'= .ok us.toArray w':=by rw [adz];simp [q3]
   have UF:results fn a'.tmps=(do let vs<-fn.results.mapM (lh a'.tmps);pure (if h:vs.size=1 then vs[0] else .tuple vs)):=by unfold results;congr 1
   rw [UF];simp [hm]
  have akZ:=q1.slot q;rw [Cn] at akZ;obtain ⟨_,hT⟩:=akZ.1.2 SU;have hB:e2.B q=bB:=by have hT:Value.pointer (some ⟨bB,off,none⟩)= .pointer (some ⟨e2.B q,O8 q,none⟩):=hT;simp only [aeB,AI,Addr.mk.injEq] at hT;exact hT.1.symm
  have ak0:bX ei.df q=false:=by
   rw [q1.defers.2.1];cases hh:bX Zc.df q with
   |false=>rfl
   |true=>
    have:=(b8 _ _).1 hh;have:q=pos:=by simpa [Zc] using this
    omega
  have hco:=(Ic q1 Cn UF kI ht).wide (DA q1 Cn ak0 ht);have CM:e2.key=c.key:=q1.key;have PS: ∃φ',Trans Z φ w φ' w'/\Co φ' w'/\Cp c Z φ' w' (c.key f) (iM++oO) (if h:us.toArray.size=1 then us.toArray[0] else .tuple us.toArray) m:=by
   refine ⟨e2.φ,t'.trans q2.tr,q1.qe,?_⟩;rw [CM] at q4;subst hK;refine ⟨?_,pos,ks,bB,off,B3,hvp,by rw [<-hB];exact hco⟩;by_cases hns: ∃m',ns=[m']
   ·obtain ⟨m',rfl⟩:=hns;obtain ⟨v,u,rfl,g1,g2⟩:=q4;have g2:u=[]:=g2;subst g2;simp only [abM,acJ,dite_true];cases m'<;>first|exact g1|exact absurd g1.1 (by simp [MV.one])
   ·have hm:ajW ns= .cj ns:=by
     cases ns with
     |nil=>rfl
     |cons x l=>
      cases l with
      |nil=>exact absurd ⟨x,rfl⟩ hns
      |cons=>rfl
    have dG:us.toArray.size≠1:=by intro h1;have:=q4.length;rw [abM] at h1;rw [h1] at this;obtain ⟨m1,h2⟩:=List.length_eq_one_iff.1 this.symm;exact hns ⟨m1,h2⟩
    rw [hm,dif_neg dG];exact ⟨us.toArray,rfl,by simpa using q4⟩
  match n,hle with
  |0,_=>exact ⟨h'.defers.1,_,z6,_,rfl,PS⟩
  |1,_=>exact ⟨h'.defers.1,_,z6,_,rfl,PS⟩
  |n+2,hle=>simp [acF] at hle
end
end Dn
