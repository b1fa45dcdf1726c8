import Derived.Test.YtoppfdchohkgaaaGreatDoorDnA
import Derived.MapKept
import Derived.Carry
import Derived.Laws.StructEq
import Derived.Laws.RangeAny
import Derived.Laws.BytesArg
import Derived.Laws.MakeOwn
import Derived.Laws.IdiomStrings
import Derived.LoopN
import Derived.Laws.Sem
import Derived.ProofKit
import Derived.OpenShut
/- What Go functions come to, on plain values. Conditions: none. -/
open Nat renaming eq_of_beq_eq_true→bo,beq→AI,zero_add→aea,le_of_ble_eq_true→aed,le_refl→aeP,ble→ae8,le_trans→ahe,ble_eq_true_of_le→ahp,lt_of_lt_of_le→ahI,succ_mul→ahJ
open Bool renaming and_eq_true→sh,or_eq_false_iff→IT,false_eq_true→ad4,not_eq_true'→ad8,not_true→aer,not_eq_false'→afh,true_and→afA,not_false→ahU,and_true→aih,false_or→aii
open Go.Value renaming ownBlock→AS,slice→aeF,cells→aeU,okWide→afa,int→ain
open List renaming mem_cons→AT,replicate→IN,getElem?_eq_getElem→aa0,mem_cons_of_mem→ab3,mem_append_left→adZ,take_append_drop→ad0,mem_append_right→ad5,getElem?_eq_some_iff→ad6,drop_drop→ad9,getElem?_map→aef,getElem?_append_left→aeo,all_eq_true→aex,length_map→aeY,mem_map→ae9,getElem?_append_right→afj,getD_eq_getElem?_getD→afn,cons_append→afR,length_cons→afS,range'_succ→agt,getElem?_toArray→ahq,range'→ahs,flatten_append→ahw,ext_getElem?→ahK,append_nil→ahT,map_cons→aic,range→aiU
open Go.Result renaming andThen→BY,andThen_ok→ahO
open Option.some renaming injEq→No
open Go.MapKept renaming run_getObj_map→OF,run_setObj_map→ad1,heap_set→aga
open Array renaming getD_eq_getD_getElem?→ad2,toList_inj→ad3,toArray_toList→ad7,getElem?_modify→aec,getElem?_append_left→aeh,toList_map→aei,replicate→ae1,mapM_eq_mapM_toList→afu,length_toList→ahA,ext_getElem?→ahG
open Go.Instr renaming sameNow→aeb,sameBits→aeg,findNow→aez,sureAddr→afo,findKey→afw,loadAt→ahn,mapUpdate→ahR,lookup→aiS
open Classical renaming choose_spec→aee,choose→agv
open Go.Deferred renaming ofValue→aen
open List.cons renaming injEq→aev
open Prod.mk renaming injEq→aey
open Go.Sem renaming run_bind→ae3
open Go.Op renaming equal→afK,equalIn→ah7
open Go.World renaming block_lt_of_cell?→agc
open Go.Oper renaming wp_mono→ahl,upon_value→aho,wp→aiR
open Go.Code renaming region→ahr
open False renaming elim→ahF
open Go.Utf8 renaming decode→ahP
open UInt8 renaming ofNat→ahQ
open Option renaming map_some→ahS
open Go.Region renaming wanted→aia
open Go.Addr renaming add_mid→aiT
set_option linter.all false
namespace Dn
open Go
noncomputable section
section
variable {P:Program}{c:Ctx}{Z:bn}{Z':Nat->Prop}{e e':Env}{st:St}{a:Act}{w w':World}{R:Type}{K:St->Option R}{r:R}{Q:Exit->Act->World->Prop}{o:Oper}{Zi:bn}{bG:St}
theorem sR (h:bC c Z e st a w){t:Nat}{cs:List ax}(ht:ap st.fr t= .box cs):e.B t<w.heap.size:=by have hs:=h.slot t;rw [ht] at hs;have ⟨o2,h1,_⟩:=hs.2.obj;grind
def Jl {base:Nat}{ty:TypeId}{size n:Nat}{v:Value}{xs:List Value}(h:w.ownsRow base ty size v n xs){b:Nat}(hb:v.ownBlock=some b):b<w.heap.size:=by rcases h.2 with ⟨h1,_⟩|⟨g,cap,cD,h1,_,h2,_⟩;all_goals grind [AS,No,a8]
theorem sS (h:bC c Z e st a w){f:Nat}{o:n8}(hf:aB st.aF f=some o){b:Nat}(hb:(e.E f).ownBlock=some b):b<w.heap.size:=by have ⟨I,cells,_,_,h3,_⟩:=(h.fJ f o hf).row;exact Jl h3 hb
structure Handed (c:Ctx) (Z:bn) (Z':Nat->Prop) (e:Env) (st:St) (a:Act) (w:World) (k:Nat) (vs:List Value) (ms:List MV):Prop where
 sU:bC c Z e st a w
 new: ∀b,w.heap.size<=b->Z' b
 sub: ∀b,Z' b->Z.In b
 box: ∀t cs,ap st.fr t= .box cs-> ¬Z' (e.B t)
 fJ: ∀f o b,aB st.aF f=some o->(e.E f).ownBlock=some b-> ¬Z' b
 args:cv c Z' e.φ w k vs ms
 grow:c.bK k=false-> ∀b,Z' b->w.heap.size<=b
structure arb (c:Ctx) (Z:bn) (e e':Env) (st bG:St) (a:Act) (w:World) (k:Nat) (v:Value) (xs:List MV):Prop where
 sU:bC c Z e' bG a w
 φ:e'.φ=e.φ
 row:bU c (bn.plain λb=>v.ownBlock=some b) (mT c.key e.φ) w v ⟨c.lq k,false,xs⟩
 In: ∀b,v.ownBlock=some b->Z.In b
 box: ∀t cs,ap bG.fr t= .box cs->v.ownBlock≠some (e'.B t)
 fJ: ∀f o b,aB bG.aF f=some o->(e'.E f).ownBlock=some b->v.ownBlock≠some b
 keep: ∀(u:Value) (s:Slot) (g:Nat),s= .sc (.own g)->af e u s->(∃o,aB bG.aF g=some o/\o.fH=false)->af e' u s
 boxes: ∀t cs,ap bG.fr t= .box cs-> ∃HG,ap st.fr t= .box HG/\e'.B t=e.B t
 aF: ∀f o b,aB bG.aF f=some o->(e'.E f).ownBlock=some b-> ∃o0,aB st.aF f=some o0/\(e.E f).ownBlock=some b
theorem sV {k:Nat}{s:Slot}{v:Value} {K':MV->St->Option R}(h:bC c Z e st a w)(hs:af e v s)(hK:DL c k st s K'=some r): ∃e' bG xs,arb c Z e e' st bG a w k v xs/\K' (.fresh xs) bG=some r:=by
 unfold DL at hK;split at hK
 .rename_i f;cases hf:aB st.aF f with
  |none=>grind
  |some o=>
   simp only [hf] at hK;have ⟨hz,hK⟩:=oz hK;simp only [IT,afh] at hz;have ll:=bo hz.2;have hv:v=e.E f:=(rW h hs hf).1;have fQ:=h.fJ f o hf;have aeJ:bU c Z.nc e w (.slice none 0 0) ⟨o.ty,true,[]⟩:=by obtain ⟨I,cells,g1,g2,_⟩:=fQ.row;exact ⟨I,[],g1,g2,⟨aaS,.inl ⟨rfl,rfl⟩⟩,rfl,(by grind [AS])⟩
   have Cc:=h.npf hK;have h5:=h.OP (f:=f) Cc aeJ (by grind [AS]);refine ⟨_,_,o.xs,⟨h5,rfl,?_,?_,?_,?_,?_,?_,?_⟩,nS hK⟩
   .have ⟨I,cells,g1,g2,g3,g4,g5⟩:=fQ.row;rw [<-ll];refine ⟨I,cells,g1,g2,by grind,by show aU c.key e.φ _ _ _;grind [h.key],λaQ hb=>⟨hb,λoff u hu=> ?_,λhc=>ahF hc⟩⟩;have:=((g5 aQ (by grind)).2.1 off u hu).1;grind
   .intro b hb;have ⟨I,cells,_,_,_,_,g5⟩:=fQ.row;exact QD (g5 b (by grind)).1 Cc
   .intro t cs ht hb;have ht:ap (lB f st.fr) t= .box cs:=ht;rw [gu] at ht;have ⟨d1,g1,_⟩:=uU ht;exact h.bf t d1 f o g1 hf (by rw [<-hv];exact hb)
   .intro f2 o2 b cV hb hvb;have cV:aB (ct st.aF f ⟨o.ty,true,[]⟩) f2=some o2:=cV;have hb:(if f2=f then aeF none 0 0 else e.E f2).ownBlock=some b:=hb;rw [aW] at cV;by_cases jt:f2=f
    .simp_all [if_pos,AS]
    .rw [if_neg jt] at hb cV;exact jt (h.ff f2 f o2 o b cV hf hb (by grind))
   .rintro u s g rfl nA ⟨o2,cV,hz2⟩;have cV:aB (ct st.aF f ⟨o.ty,true,[]⟩) g=some o2:=cV;rw [aW] at cV;by_cases ZN:g=f
    .grind
    .have ⟨x,hx,GU,SZ⟩:=nA;refine ⟨x,hx,GU,λo3 VJ=> ?_⟩;show x=if g=f then aeF none 0 0 else e.E g
     simp_all [if_neg,h.m]
   .intro t cs ht;have ht:ap (lB f st.fr) t= .box cs:=ht;rw [gu] at ht;have ⟨d1,g1,_⟩:=uU ht;exact ⟨d1,g1,rfl⟩
   .intro f2 o2 b cV hb;have cV:aB (ct st.aF f ⟨o.ty,true,[]⟩) f2=some o2:=cV;have hb:(if f2=f then aeF none 0 0 else e.E f2).ownBlock=some b:=hb;rw [aW] at cV;by_cases jt:f2=f;all_goals simp_all [if_pos,AS,if_neg]
 .cases hI:c.tv (c.lq k) with
  |none=>grind
  |some I=>simp only [hI] at hK;have ⟨OI,Qk⟩:=aM hI;simp only [af,aP,aev,and_true] at hs;subst hs;refine ⟨e,st,[],⟨h,rfl,⟨I,[],OI,Qk,⟨aaS,.inl ⟨rfl,rfl⟩⟩,rfl,(by grind [AS])⟩,(by grind [AS]),(by grind [AS]),(by grind [AS]),λu s g _ hs _=>hs,(by grind),(by grind)⟩,hK⟩
 .simp at hK
def GY {k:Nat}{s:Slot} {K':MV->St->Option R}(hK:DL c k st s K'=some r):(∃g o,s= .sc (.own g)/\aB st.aF g=some o/\o.fH=false)\/s= .sc .nil:=by unfold DL at hK;grind
theorem TH {k:Nat}{ss:List Slot}{vs:List Value} {K':List MV->St->Option R}(h:bC c Z e st a w)(hlen:vs.length=ss.length)(eu: ∀(i:Nat)(v:Value)(s:Slot),vs[i]? =some v->ss[i]? =some s->af e v s)(hK:VC c k st ss K'=some r): ∃e' bG ms,∃Z':Nat->Prop,Handed c Z Z' e' bG a w k vs ms/\Trans Z e.φ w e'.φ w/\K' ms bG=some r:=by
 unfold VC at hK;cases hg:c.bK k with
 |false=>
  simp only [hg,cond_false] at hK;have ⟨e1,cz,ms,h1,h2,h3,h4,hK⟩:=om h ⟨λ_=>vs,rfl,hlen,eu⟩ hK;refine ⟨e1,cz,ms,λb=>w.heap.size<=b,⟨h1,λb hb=>hb,h1.bI,?_,?_,?_,λ_ b hb=>hb⟩,h2.tr,hK⟩
  .intro t cs ht hz;have:=sR h1 ht;omega
  .intro f o b ho hb hz;have:=sS h1 ho hb;omega
  simp_all [cv,ad4,if_false,h1.key]
 |true=>
  simp only [hg,cond_true] at hK;split at hK
  .rename_i s0 s1 s2;match vs,hlen with
   |[v0,v1,v2],at3=>
    split at hK
    .rename_i m2;have ⟨e1,cz,m1,h1,x1,DX,r1,qH⟩:=lE h (eu 1 v1 s1 rfl rfl) hK;have ⟨e2,cj,xs,G1,rq⟩:=sV h1 ((eu 0 v0 s0 rfl rfl).on x1.on (cZ s0)) qH;have Il:m2.one=true/\il e.key e.φ [v2] m2:=eu 2 v2 (.sc (.p m2)) rfl rfl;have ha2:cG e.key e.φ v2 m2:=by obtain ⟨g1,g2⟩:=Il;cases m2<;>simp [MV.one] at g1<;>exact ⟨rfl,g2⟩
     have arc:cG c.key e1.φ v2 m2:=by rw [<-h.key];exact ha2.mono x1.on.φ
     have wide: ∀{v:Value} {zs:List MV} (Z1:Nat->Prop),(∀b,v.ownBlock=some b->Z1 b)->bU c (bn.plain λb=>v.ownBlock=some b) (mT c.key e1.φ) w v ⟨c.lq k,false,zs⟩->bU c (bn.plain Z1) (mT c.key e1.φ) w v ⟨c.lq k,false,zs⟩:=by intro v zs Z1 hz hf;obtain ⟨I,cells,g1,g2,g3,g4,g5⟩:=hf.row;exact ⟨I,cells,g1,g2,g3,g4,λaQ hb=>⟨hz aQ hb,(g5 aQ hb).2⟩⟩
     refine ⟨e2,cj,[.fresh xs,m1,m2],λb=>w.heap.size<=b\/v0.ownBlock=some b,⟨G1.sU,λb hb=> .inl hb,?_,?_,?_,?_,(by grind)⟩,by grind [G1.φ,x1.tr],rq⟩
     .intro b hb;rcases hb with hb|hb
      .exact h1.bI b hb
      .exact G1.In b hb
     .intro t cs ht hb;rcases hb with hb|hb
      .have:=sR G1.sU ht;grind
      .exact G1.box t cs ht hb
     .intro f o b ho hb hz;rcases hz with hz|hz
      .have:=sS G1.sU ho hb;omega
      .exact G1.fJ f o b ho hb hz
     .simp only [cv,hg,if_true];rw [G1.φ];exact .inr (.inl ⟨v0,v1,v2,xs,m1,m2,rfl,rfl,Il.1,(by grind [G1.row]),by grind [h1.key],arc⟩)
    .have ⟨e1,cz,m1,h1,x1,DX,r1,qH⟩:=lE h (eu 1 v1 s1 rfl rfl) hK;have ⟨e2,cj,xs,G1,rq⟩:=sV h1 ((eu 0 v0 s0 rfl rfl).on x1.on (cZ s0)) qH;have Il:=(eu 2 v2 s2 rfl rfl).on x1.on (cZ s2);have ajb:af e2 v2 s2:=by
      rcases GY rq with ⟨g,o,h5,h6,h7⟩|h5
      .exact G1.keep v2 s2 g h5 Il ⟨o,h6,h7⟩
      .rw [h5] at Il⊢;exact Il
     have ⟨e3,jQ,ys,G2,DJ⟩:=sV G1.sU ajb rq;have ahy:bU c (bn.plain λb=>v2.ownBlock=some b) (mT c.key e1.φ) w v2 ⟨c.lq k,false,ys⟩:=by have:=G2.row;rw [G1.φ] at this;exact this
     have wo: ∀b,v0.ownBlock=some b->v2.ownBlock≠some b:=by
      intro b h0 Cf;rcases GY rq with ⟨g,o,h5,h6,h7⟩|h5
      .rw [h5] at ajb;have Xs:v2=e2.E g:=(rW G1.sU ajb h6).1;exact G1.fJ g o b h6 (by grind) h0
      .simp_all [af,aP,aev,and_true,AS]
     have wide: ∀{v:Value} {zs:List MV} (Z1:Nat->Prop),(∀b,v.ownBlock=some b->Z1 b)->bU c (bn.plain λb=>v.ownBlock=some b) (mT c.key e1.φ) w v ⟨c.lq k,false,zs⟩->bU c (bn.plain Z1) (mT c.key e1.φ) w v ⟨c.lq k,false,zs⟩:=by intro v zs Z1 hz hf;obtain ⟨I,cells,g1,g2,g3,g4,g5⟩:=hf.row;exact ⟨I,cells,g1,g2,g3,g4,λaQ hb=>⟨hz aQ hb,(g5 aQ hb).2⟩⟩
     have h3φ:e3.φ=e1.φ:=G2.φ.trans G1.φ;refine ⟨e3,jQ,[.fresh xs,m1,.fresh ys],λb=>w.heap.size<=b\/v0.ownBlock=some b\/v2.ownBlock=some b,⟨G2.sU,λb hb=> .inl hb,?_,?_,?_,?_,(by grind)⟩,by grind [x1.tr],DJ⟩
     .intro b hb;rcases hb with hb|hb|hb
      .exact h1.bI b hb
      .exact G1.In b hb
      .exact G2.In b hb
     .intro t cs ht hb;rcases hb with hb|hb|hb
      .have:=sR G2.sU ht;grind
      .have ⟨HG,k1,k2⟩:=G2.boxes t cs ht;rw [k2] at hb;exact G1.box t HG k1 hb
      .exact G2.box t cs ht hb
     .intro f o b ho hb hz;rcases hz with hz|hz|hz
      .have:=sS G2.sU ho hb;omega
      .have ⟨o0,k1,k2⟩:=G2.aF f o b ho hb;exact G1.fJ f o0 b k1 k2 hz
      .exact G2.fJ f o b ho hb hz
     .simp only [cv,hg,if_true];exact .inl ⟨v0,v1,v2,xs,m1,ys,rfl,rfl,(by grind [G1.row]),by grind [h1.key],(by grind),wo⟩
  .simp at hK
def aL.map {os:List Operand}(h:bC c Z e st a w): ∀(i:Nat) (v:Value) (s:Slot),(os.map a.eval)[i]? =some v->(jh c st os)[i]? =some s->af e v s:=by
 intro i v s h1 h2;rw [gz,aef] at h2;cases ho:os[i]? with
 |none=>grind
 |some x=>simp [ho] at h1 h2;rw [<-h1,<-h2];exact (h.eval x).1
def sW {f:Nat}{args:Array Value}{Rp:Value->World->Prop}(bF:(execOp a.eval o).run P w=(callFunc f args).run P w)(hc:da P f args w Rp){Nx:Act->World->Prop}(Cg: ∀v w',Rp v w'->Nx (a.put o.dst v) w'):o.wp P a w Nx Q:=by
 unfold aiR;rw [bF];unfold da at hc;generalize (callFunc f args).run P w=res at hc;cases res with
 |halt=>exact hc.elim
 |ok n w1=>
  cases n<;>simp only at hc<;>try exact hc.elim
  .exact Cg _ _ hc
  .refine hc.mono ?_;grind
theorem aaY {R':Type}{d k:Nat}{ts:List Nat}{x:MV}{outs:List MV} {K':Slot->St->Option R'}:IZ c d st k (.im x outs) ts K'=none:=by
 cases ts with
 |nil=>rfl
 |cons t ts=>
  simp only [IZ];cases c.tv t with
  |none=>rfl
  |some I=>cases hq:AI I.elem (c.lq k)<;>simp [hq,gT]
theorem aaZ {Z':Nat->Prop}{k d:Nat}{ms:List MV}{x:MV}{v:Value} {φ':Ph}{I:TI}{vs:List Value}(hh:Handed c Z Z' e st a w k vs ms)(hd:o.dst.getD 0=d)(ht:Trans Z' e.φ w φ' w')(hi:ni φ' w')(hr:fA c Z' φ' w' k v x)(hK:(bif c.fresh k then bif AI (c.lq k) 0 then gCl x λxs=>aR c st o.dst (.sc (.p (.clip xs))) K else bif aek I.bR then IZ c d st k x I.bR λs st=>aR c st o.dst s K else gF x λxs=>bif !AI I.elem (c.lq k) then none else ir st d ⟨I.elem,false,xs⟩ λst=>(bif bB c.bs d then kI st (.own d) λm st=>aR c st o.dst (.sc (.p m)) K else aR c st o.dst (.sc (.own d)) K) else kS c I x λs=>aR c st o.dst s K)=some r): Out c Z K r e.φ w (a.put o.dst v) w':=by
 have hs:=hh.sU.called hh.sub hh.box hh.fJ ht hi;have xj:Trans Z e.φ w φ' w':=⟨ht.ph,λb hb=>ht.heap b (λhz=>hb (hh.sub b hz)),λb o hb=>ht.free b o (λhz=>hb (hh.sub b hz)),ht.size,ht.rest⟩
 cases hf:c.fresh k with
 |true=>
  simp only [hf,cond_true] at hK;cases h0:AI (c.lq k) 0 with
  |true=>
   simp only [h0,cond_true] at hK;unfold gCl at hK;split at hK
   .rename_i xs;have QG:af {e with φ:=φ'} v (.sc (.p (.clip xs))):=by have hr:(MV.clip xs).one=true/\il c.key φ' [v] (.clip xs):=hr;simp only [af,aP];rw [hh.sU.key];exact hr
    have ⟨e2,cj,q1,q2,q3⟩:=bV hs (.of QG trivial) hK;exact ⟨e2,cj,q1,by grind,q2⟩
   .simp at hK
  |false=>
  simp only [h0,cond_false] at hK;cases hC:aek I.bR with
  |true=>
   simp only [hC,cond_true] at hK;unfold IZ at hK;split at hK
   .cases hK
   .rename_i t0 ts _;cases hI0:c.tv t0 with
    |none=>grind
    |some I0=>
     simp only [hI0] at hK;cases ll:AI I0.elem (c.lq k) with
     |false=>grind
     |true=>
      simp only [ll,aer,cond_false] at hK;have ll:=bo ll;rw [ll] at hK;unfold gT at hK;split at hK
      .rename_i vs;cases vs with
       |nil=>grind [gC]
       |cons m ms=>
        simp only [gC] at hK;unfold gF at hK;split at hK
        .rename_i xs;obtain ⟨v0,us,rfl,hr,di⟩: ∃v0 us,v= .tuple (v0::us).toArray/\bU c (bn.plain Z') (mT c.key φ') w' v0 ⟨c.lq k,false,xs⟩/\aL c.key φ' us ms:=hr;obtain ⟨ls,LW,ard,hK⟩:=QY (e:={e with φ:=φ'}) (by show aL e.key φ' us ms;grind [hh.sU.key]) hK;have QG:bU c Z.nc {e with φ:=φ'} w' v0 ⟨c.lq k,false,xs⟩:=by obtain ⟨I,cells,g1,g2,g3,g4,g5⟩:=hr.row;exact ⟨I,cells,g1,g2,g3,by rw [hh.sU.key];exact g4,λaQ hb=>⟨hh.sub _ (g5 aQ hb).1,(g5 aQ hb).2.1,λhc=>ahF hc⟩⟩
         have h6:=hs.OP (f:=d) (hh.sU.npf hK) QG (by intro b hb;have ⟨I,cells,g1,g2,g3,g4,g5⟩:=hr.row;have hz:=(g5 b hb).1;exact ⟨λt cs h1 h2=>hh.box t cs h1 (by rw [h2];exact hz),λg o h1 h2=>hh.fJ g o b h1 h2 hz⟩);have h1:v0.oneCell'=true:=by obtain ⟨I,cells,g1,g2,g3,_⟩:=hr.row;exact wm g3
         have sB:jT (λ_=>False) (λ_=>True) {e with φ:=φ'} (Env.vR {e with φ:=φ'} d v0 ⟨c.lq k,false,xs⟩):=⟨rfl,.refl _,λ_ _=>rfl,λ_ _ _ hf=>hf.elim⟩
         have LW:=LW.on sB (xq ard);have dI:aP (Env.vR {e with φ:=φ'} d v0 ⟨c.lq k,false,xs⟩) [v0] (.own d):=⟨v0,rfl,h1,(by grind [Env.vR])⟩
         have hK:=nS hK;cases QU:bB c.bs d with
         |true=>
          simp only [QU,cond_true] at hK;have ⟨e3,jQ,m,k1,k2,_,k4,hK,_,k7,k8⟩:=jV (l:= .own d) h6 (vs:=[v0]) dI hK;have hm:m.one=true:=(by grind)
          obtain ⟨e2,cj,q1,q2,q3⟩:=bV k1 (.of (s:= .tg (.p m::ls)) (by exact ⟨_,rfl,[v0],us,rfl,⟨hm,k4⟩,LW.on k2.on (λl hl f hf=>trivial)⟩) trivial) hK;exact ⟨e2,cj,q1,by rw [q3];exact xj.trans k2.tr,q2⟩
         |false=>simp only [QU,cond_false] at hK;obtain ⟨e2,cj,q1,q2,q3⟩:=bV h6 (.of (s:= .tg (.own d::ls)) (by exact ⟨_,rfl,[v0],us,rfl,dI,LW⟩) trivial) hK;exact ⟨e2,cj,q1,by rw [q3];exact xj,q2⟩
        .simp at hK
      .simp at hK
  |false=>
  simp only [hC,cond_false] at hK;unfold gF at hK;split at hK
  .rename_i xs;cases ll:AI I.elem (c.lq k) with
   |false=>grind
   |true=>
    simp only [ll,aer,cond_false] at hK;have ll:=bo ll;rw [ll] at hK;have QG:bU c Z.nc {e with φ:=φ'} w' v ⟨c.lq k,false,xs⟩:=by obtain ⟨I,cells,g1,g2,g3,g4,g5⟩:=hr.row;exact ⟨I,cells,g1,g2,g3,by rw [hh.sU.key];exact g4,λaQ hb=>⟨hh.sub _ (g5 aQ hb).1,(g5 aQ hb).2.1,λhc=>ahF hc⟩⟩
    have h6:=hs.OP (f:=d) (hh.sU.npf hK) QG (by intro b hb;have ⟨I,cells,g1,g2,g3,g4,g5⟩:=hr.row;have hz:=(g5 b hb).1;exact ⟨λt cs h1 h2=>hh.box t cs h1 (by rw [h2];exact hz),λg o h1 h2=>hh.fJ g o b h1 h2 hz⟩);have h1:v.oneCell'=true:=by obtain ⟨I,cells,g1,g2,g3,_⟩:=hr.row;exact wm g3
    have hK:=nS hK;cases QU:bB c.bs d with
    |true=>
     simp only [QU,cond_true] at hK;have ⟨e3,jQ,m,k1,k2,_,k4,hK,_,k7,k8⟩:=jV (l:= .own d) h6 (vs:=[v]) ⟨v,rfl,h1,(by grind [Env.vR])⟩ hK;have hm:m.one=true:=(by grind)
     obtain ⟨e2,cj,q1,q2,q3⟩:=bV k1 (.of (s:= .sc (.p m)) (by exact ⟨hm,k4⟩) trivial) hK;exact ⟨e2,cj,q1,by rw [q3];exact xj.trans k2.tr,q2⟩
    |false=>simp only [QU,cond_false] at hK;have ⟨e2,cj,q1,q2,q3⟩:=bV h6 (.of (qI h1) trivial) hK;exact ⟨e2,cj,q1,by rw [q3];exact xj,q2⟩
  .simp at hK
 |false=>simp only [hf,cond_false] at hK;have ⟨s,g1,g2,hK⟩:=rX (e:={e with φ:=φ'}) (st:=st) hh.sU.key hr hK;have ⟨e2,cj,q1,q2,q3⟩:=bV hs (.of g1 g2) hK;exact ⟨e2,cj,q1,by grind,q2⟩
theorem Out.trans {φ0:Ph}{w0:World} {a':Act}(h:Trans Z φ0 w0 e.φ w) (h':Out c Z K r e.φ w a' w'):Out c Z K r φ0 w0 a' w':=by have ⟨e2,cj,h1,h2,h3⟩:=h';exact ⟨e2,cj,h1,h.trans h2,h3⟩
theorem XF {R':Type}{I:TI}{x:MV}{outs:List MV} {K':Slot->Option R'}:kS c I (.im x outs) K'=none:=by
 unfold kS;split
 .unfold uM;cases I.st
  .split
   .rename_i k _;cases k<;>rfl
   .rfl
  .rfl
 .rfl
theorem zZ {R':Type} {r':R'}{I:TI}{x:MV} {K':Slot->Option R'}(h:kS c I x K'=some r'):isW x=false:=by cases x<;>first|rfl|grind [XF]
def aeK {cl:Call}{f:Nat}{I:TI}(hS:Sound P c)(ho:o.op= .call cl)(BP:cl.callee= .value (.func f))(h:bC c Z e st a w)(hK:VC c (c.key f) st (jh c st cl.args.toList) (λms st=>ahf c (o.dst.getD 0) st (c.key f) ms I λs st=>aR c st o.dst s K)=some r): o.wp P a w (λa' w'=>(c.bK (c.key f)=false->cq w w')/\Out c Z K r e.φ w a' w') Q:=by
 have ⟨e1,cz,ms,Z',hh,ht,hK⟩:=TH (vs:=cl.args.toList.map a.eval) h (by simp [gz]) (aL.map h) hK;have ⟨x,hx,hK⟩:=ng hK;have uW:=hS f ms x hx e1.φ w Z' _ hh.new hh.args hh.sU.jU;refine sW ?_ uW ?_
 .have Iq:(cl.args.toList.map a.eval).toArray=cl.args.map a.eval:=by rw [<-aei,ad7]
  simp_all [execOp,resolve,Act.eval,aen,invoke]
 .rintro v w' ⟨φ',t1,t2,t3⟩;have hw:isW x=false:=by
   cases zT:c.fresh (c.key f) with
   |true=>rw [zT] at hK;cases h0:AI (c.lq (c.key f)) 0<;>cases hC:aek I.bR<;>rw [h0] at hK<;>(try rw [hC] at hK)<;>cases x<;>first|rfl|(simp [gF,gCl] at hK;done)|grind [aaY]
   |false=>grind [zZ]
  exact ⟨λZN=>⟨t1.size,λb hb=>t1.heap b (λhz=>by have:=hh.grow ZN b hz;omega) hb,t1.rest⟩,(aaZ hh rfl t1 t2 (t3.of hw) hK).trans ht⟩
theorem fq.one {ms:List MV}: ∀{vs:List Value},fq e.key e.φ vs ms->(∀m∈ms,m.one=true)->aL e.key e.φ vs ms:=by
 induction ms with
 |nil=>intro vs h _;cases h;rfl
 |cons m ms ih=>
  intro vs h h1;cases h with
  |cons v _ vs _ g1 g2=>obtain ⟨u,rfl,_⟩:=g1.one (h1 m aaS);have hm:=h1 m aaS;exact ⟨u,vs,rfl,by cases m<;>simp [MV.one] at hm<;>exact ⟨rfl,g1⟩,(by grind)⟩
def ajc {cl:Call}{x:Operand}{I:TI}(hS:Sound P c)(ho:o.op= .call cl)(BP:cl.callee= .value x)(h:bC c Z e st a w)(hK:Ow c st I (az c st x) (jh c st cl.args.toList) (λs st=>aR c st o.dst s K)=some r): o.wp P a w (λa' w'=>cq w w'/\Out c Z K r e.φ w a' w') Q:=by
 have ⟨hx,_⟩:=h.eval x;generalize az c st x=s at hx hK;unfold Ow at hK;split at hK
 .unfold SR at hK;split at hK
  .rename_i f aJ;have ⟨hg,hK⟩:=cN hK;have ⟨f',cap,hv,Fs,CL,j0⟩: ∃(f':Nat) (cap:Array Value),a.eval x= .func (.func f') #[] cap/\e.key f'=f/\fq e.key e.φ cap.toList aJ/\ ∀m∈aJ,m.one=true:=by have ⟨_,hx⟩:=hx;generalize DH:[a.eval x]=vs at hx;cases hx;grind
   have ⟨e1,cz,ms,h1,h2,h3,h4,rq⟩:=om h ⟨λ_=>cl.args.toList.map a.eval,rfl,by simp [gz],aL.map h⟩ hK;have ⟨x',hx',DJ⟩:=ng rq;have ahz:c.key f'=f:=by rw [<-h.key];exact Fs
   have amy:aL e1.key e1.φ cap.toList aJ:=by have:=(fq.one CL j0).mono h2.on.φ;rw [<-h2.on.key] at this;exact this
   have di:cv c (λb=>w.heap.size<=b) e1.φ w (c.key f') (cl.args.toList.map a.eval++cap.toList) (ms++aJ):=by
    have hg':c.bK (c.key f')=false:=by rw [ahz];simpa using hg
    simp only [cv,hg',ad4,if_false];rw [<-h1.key];exact h4.append amy
   have uW:=hS f' (ms++aJ) x' (by grind) e1.φ w (λb=>w.heap.size<=b) _ (λb hb=>hb) di h1.jU;refine sW ?_ uW ?_
   .have Iq:(cl.args.toList.map a.eval++cap.toList).toArray=cl.args.map a.eval++cap:=by rw [<-aei,<-Array.toList_append,ad7]
    grind [execOp,resolve,aen,invoke]
   .rintro v w' ⟨φ',t1,t2,t3⟩;have hh:Handed c Z (λb=>w.heap.size<=b) e1 cz a w (c.key f') (cl.args.toList.map a.eval++cap.toList) (ms++aJ):=by
     refine ⟨h1,λb hb=>hb,h1.bI,?_,?_,di,λ_ b hb=>hb⟩
     .intro t cs ht hz;have:=sR h1 ht;omega
     .intro f o b ho hb hz;have:=sS h1 ho hb;omega
    have hs:=hh.sU.called hh.sub hh.box hh.fJ t1 t2;have xj:Trans Z e1.φ w φ' w':=⟨t1.ph,λb hb=>t1.heap b (λhz=>hb (hh.sub b hz)),λb o hb=>t1.free b o (λhz=>hb (hh.sub b hz)),t1.size,t1.rest⟩
    have ⟨s,g1,g2,S1⟩:=rX (e:={e1 with φ:=φ'}) (st:=cz) h1.key (t3.of (zZ DJ)) DJ;have ⟨e2,cj,q1,q2,q3⟩:=bV hs (.of g1 g2) S1;exact ⟨⟨t1.size,λb hb=>t1.heap b (by grind) hb,t1.rest⟩,e2,cj,q1,by rw [q3];exact h2.tr.trans xj,q2⟩
  .simp at hK
 .simp at hK
def TJ {R':Type} {r':R'}{I:TI}{x:MV} {K':Slot->Option R'}(h:Ov I=true)(hK:kS c I x K'=some r'):(∃b,x= .b b)\/(∃k n,x= .i k n)\/ ∃l,x= .s l:=by
 unfold Ov at h;split at h
 .rename_i h1 h2 h3;simp only [kS,h2,uM,h1,cond_false,h3,iq] at hK;cases x<;>simp [gB] at hK;exact .inl ⟨_,rfl⟩
 .rename_i h1 h2 h3;simp only [kS,h2,uM,h1,cond_false,h3,iq] at hK;cases x<;>simp [gI] at hK;exact .inr (.inl ⟨_,_,rfl⟩)
 .rename_i h1 h2 h3;simp only [kS,h2,uM,h1,cond_false,h3,iq] at hK;cases x<;>simp [gS] at hK;exact .inr (.inr ⟨_,rfl⟩)
 .cases h
def aa1 {cl:Call}{f:Nat}{I:TI}(hS:Sound P c)(ho:o.op= .call cl)(BP:cl.callee= .value (.func f))(h:bC c Z e st a w)(hK:aaa c (o.dst.getD 0) st (c.key f) (jh c st cl.args.toList) I (λs st=>aR c st o.dst s K)=some r): o.wp P a w (λa' w'=>(c.bK (c.key f)=false->cq w w')/\Out c Z K r e.φ w a' w') Q:=by
 unfold aaa at hK;cases hc:Ov I&&(!c.bK (c.key f)&&!c.fresh (c.key f)) with
 |false=>rw [hc,cond_false] at hK;exact aeK hS ho BP h hK
 |true=>
  rw [hc,cond_true] at hK;simp only [sh,ad8] at hc;have ⟨zT,hgv,hfs⟩:=hc;have ⟨e1,cz,ms,h1,h2,h3,h4,rq⟩:=om h ⟨λ_=>cl.args.toList.map a.eval,rfl,by simp [gz],aL.map h⟩ hK;have ⟨x,hx,DJ⟩:=ng rq;have di:cv c (λb=>w.heap.size<=b) e1.φ w (c.key f) (cl.args.toList.map a.eval) ms:=by simp only [cv,hgv,ad4,if_false];rw [<-h1.key];exact h4
  have uW:=hS f ms x hx e1.φ w (λb=>w.heap.size<=b) _ (λb hb=>hb) di h1.jU;refine sW ?_ uW ?_
  .have Iq:(cl.args.toList.map a.eval).toArray=cl.args.map a.eval:=by rw [<-aei,ad7]
   simp_all [execOp,resolve,Act.eval,aen,invoke]
  .rintro v w' ⟨φ',t1,t2,t3⟩;have t1':Trans (λb=>w.heap.size<=b) e.φ w e.φ w':=⟨.refl _,t1.heap,λ_ _ _=>rfl,t1.size,t1.rest⟩
   have t2':ni e.φ w':=λb o u hu=>t2 b o u (t1.ph _ _ _ (h2.on.φ _ _ _ hu));have hs:=h.called (Z':=λb=>w.heap.size<=b) (λb hb=>h.bI b hb) (λt cs ht hz=>by have:=sR h ht;omega) (λf o b ho hb hz=>by have:=sS h ho hb;omega) t1' t2';have hr:fA c (λb=>w.heap.size<=b) e.φ w' (c.key f) v x:=by
    have hr:=t3.of (zZ DJ);rcases TJ zT DJ with ⟨b,rfl⟩|⟨k,n,rfl⟩|⟨l,rfl⟩
    .have ⟨q1,q2⟩:_/\il c.key φ' [v] _:=hr;refine ⟨q1,?_⟩;generalize [v]=vs at q2;cases q2;exact .b _
    .have ⟨q1,q2⟩:_/\il c.key φ' [v] _:=hr;refine ⟨q1,?_⟩;generalize [v]=vs at q2;cases q2;exact .i _ _
    .have ⟨q1,q2⟩:_/\il c.key φ' [v] _:=hr;refine ⟨q1,?_⟩;generalize [v]=vs at q2;cases q2;exact .s _
   have ⟨s,g1,g2,S1⟩:=rX (e:={e with φ:=e.φ}) (st:=st) h.key hr DJ;have ⟨e2,cj,q1,q2,q3⟩:=bV hs (.of g1 g2) S1;refine ⟨λ_=>⟨t1.size,λb hb=>t1.heap b (by grind) hb,t1.rest⟩,e2,cj,q1,?_,q2⟩;rw [q3];exact ⟨.refl _,λb hb=>t1.heap b (λhz=>hb (h.bI b hz)),λ_ _ _=>rfl,t1.size,t1.rest⟩
theorem bC.sub (h:bC c Z e st a w)(hpp: ∀t∈Z.ca,t∈Zi.ca)(hm:bG.ca=Zi.ca/\bG.ch=Zi.ch/\ ∀t∈Zi.ca,a.tmps.getD t undef=Zi.T t)(hn:(aG bG.fr).Nodup)(hs: ∀t,ap bG.fr t= .sc .un\/(df (ap st.fr t)=false/\(ap bG.fr t=ap st.fr t\/ ∃qs,ap bG.fr t=Mc qs (ap st.fr t))))(hf: ∀f o,aB bG.aF f=some o-> ∃o0,aB st.aF f=some o0/\o0.ty=o.ty/\o0.xs=o.xs/\(o0.fH=true->o.fH=true))(hbz: ∀t cs,ap bG.fr t= .box cs->(t∈Zi.ca/\Zi.Pr (e.B t))\/Zi.In (e.B t))(hfz: ∀f o b,aB bG.aF f=some o->(e.E f).ownBlock=some b->(f∈Zi.ch/\Zi.Pr b)\/Zi.In b)(amA: ∀f o I cells b,aB bG.aF f=some o->f∈Zi.ch->o.fH=true->c.ti o.ty=some I->w.ownsRow 0 o.ty I.size (e.E f) o.xs.length cells->(e.E f).ownBlock=some b-> ∀j,j<cells.length->e.φ b j=cells[j]?)(hz: ∀b,w.heap.size<=b->Zi.In b):bC c Zi {e with m:=bG.aF} bG a w:=by
 have sB:jT (λ_=>True) (λ_=>True) e {e with m:=bG.aF}:=by refine ⟨rfl,.refl _,λ_ _=>rfl,λf o ho _=> ?_⟩;obtain ⟨o0,h1,h2,h3,h4⟩:=hf f o ho;exact ⟨o0,by grind [h.m],rfl,h3.symm⟩
 have tie: ∀{t:Nat} {v:Value} {cs:List ax} {b:Nat},tied Z t v cs b->tied Zi t v cs b:=λht=>⟨ht.1,λhp=>by have ⟨k1,k2⟩:=ht.2 hp;have k3:=hpp _ k1;exact ⟨k3,by rw [<-hm.2.2 _ k3,h.defers.2.2.2 _ k1,k2]⟩⟩
 have aa2: ∀t cs,ap bG.fr t= .box cs-> ∃HG,ap st.fr t= .box HG/\(cs=HG\/ ∃qs,cs=HG.map (SS qs)):=by
  intro t cs ht;rcases hs t with h1|⟨_,h1|⟨qs,h1⟩⟩
  .grind
  .grind
  .rw [h1] at ht;generalize ap st.fr t=s at ht;cases s<;>simp only [Mc] at ht<;>first|(cases ht;done)|skip
   simp at ht;exact ⟨_,rfl,.inr ⟨qs,ht.symm⟩⟩
 refine ⟨⟨h.defers.1,hm⟩,h.size,rfl,h.key,hn,?_,?_,?_,?_,?_,?_,h.jU,hz⟩
 .intro t;have nA:=h.slot t;have eh:=hs t;have hb0:=hbz t;generalize ap bG.fr t=s' at eh hb0;generalize ap st.fr t=s at nA eh;rcases eh with rfl|⟨_,rfl|⟨qs,rfl⟩⟩
  .simp [dy,af]
  .cases s'<;>simp only [dy] at nA⊢ <;>try exact nA.on sB (cZ _)
   have ⟨o2,h1,h2⟩:=nA.2.obj;exact ⟨tie nA.1,hb0 _ rfl,⟨o2,h1,h2.on sB (λl _ f _=>trivial)⟩,nA.2.free⟩
  .by_cases S0: ∃cs,s= .box cs
   .obtain ⟨cs,rfl⟩:=S0;have ⟨o2,h1,h2⟩:=nA.2.obj;exact ⟨(tie nA.1).lk (aiQ qs _),hb0 _ rfl,⟨o2,h1,(h2.map (by grind [aP.QC]) (λ_ _=>rfl)).on sB (λl _ f _=>trivial)⟩,nA.2.free⟩
   .have zf:af e (a.tmps.getD t undef) s:=by cases s<;>simp only [dy] at nA<;>first|exact nA|grind
    have h2:=(zf.QC qs).on sB (cZ _);generalize hks:Mc qs s=s2 at h2;cases s2<;>first|exact h2|grind [af]
 .intro t;have eh:=hs t;generalize ap bG.fr t=s' at eh;generalize ap st.fr t=s at eh;rcases eh with rfl|⟨hp,rfl|⟨qs,rfl⟩⟩
  .trivial
  .cases s'<;>simp [df] at hp<;>trivial
  .cases s<;>simp [df] at hp<;>trivial
 .intro f o ho;have ⟨o0,h1,h2,h3,h4⟩:=hf f o ho;have ⟨I,cells,g1,g2,g3,g4,g5⟩:=(h.fJ f o0 h1).row;rw [h2] at g1 g3;rw [h3] at g3 g4 g5;refine ⟨I,cells,g1,g2,g3,g4,λaQ hb=>⟨hfz f o aQ ho hb,λoff u hu=> ?_,λk1 k2 j hj=>amA f o I cells aQ ho k1 k2 g1 g3 hb j hj⟩⟩;grind
 .intro t t' c1 c2 h1 h2 dt;have ⟨d1,g1,_⟩:=aa2 t c1 h1;have ⟨d2,g2,_⟩:=aa2 t' c2 h2;exact h.bb t t' d1 d2 g1 g2 dt
 .intro t c1 f o h1 h2;have ⟨d1,g1,_⟩:=aa2 t c1 h1;have ⟨o0,g2,_⟩:=hf f o h2;exact h.bf t d1 f o0 g1 g2
 .intro f f' o1 o2 k h1 h2 h3 h4;have ⟨p1,g1,_⟩:=hf f o1 h1;have ⟨p2,g2,_⟩:=hf f' o2 h2;exact h.ff f f' p1 p2 k g1 g2 h3 h4
theorem bC.drop {ds:List Nat}(h:bC c Z e st a w):bC c Z e {st with fr:=dk ds st.fr} a w:=by
 have hg:=Jc ds st.fr h.nodup;have:=h.sub (Zi:=Z) (bG:={st with fr:=dk ds st.fr}) (λ_ h=>h) ⟨h.defers.2.1,h.defers.2.2.1,h.defers.2.2.2⟩ ((DQ ds st.fr).nodup h.nodup) (by grind) (by grind) (by
   intro t cs ht;rw [hg] at ht;split at ht
   .cases ht
   .have hs:=h.slot t;rw [ht] at hs;exact hs.2.bI)
  (by intro f o b ho hb;have ⟨I,cells,_,_,_,_,g5⟩:=(h.fJ f o ho).row;exact (g5 b hb).1)
  (by intro f o I cells b ho hp hz hI dI hb j hj;have ⟨I',aje,g1,_,g3,_,g5⟩:=(h.fJ f o ho).row;rw [hI] at g1;cases g1;rw [GS dI g3 hb] at hj⊢;exact (g5 b hb).2.2 hp hz j hj)
  h.bI
 have hm:e.m=st.aF:=h.m;have he:{e with m:=({st with fr:=dk ds st.fr}:St).aF}=e:=by cases e;simp at hm⊢;exact hm.symm
 grind
def bC.aa3 {t root off:Nat}{cs:List ax}(h:bC c Z e st a w)(hb:ap st.fr root= .box cs)(hn:cg (ap st.fr t)=false)(hv:af e (a.tmps.getD t undef) (.ptr root off)): bC c Z e {st with fr:=dM st.fr t (.ptr root off)} a w:=by
 have hg: ∀t',ap (dM st.fr t (.ptr root off)) t'=if t'=t then .ptr root off else ap st.fr t':=(by grind [bA])
 have vP: ∀t' cs,ap (dM st.fr t (.ptr root off)) t'= .box cs->ap st.fr t'= .box cs:=by
  intro t' cs ht;rw [hg] at ht;by_cases wu:t'=t
  .grind
  .grind
 have hk: ∀r,cg (ap st.fr r)=true->cg (ap (dM st.fr t (.ptr root off)) r)=true:=(by grind)
 refine ⟨h.defers,h.size,h.m,h.key,dg h.nodup,?_,?_,h.fJ,?_,?_,h.ff,h.jU,h.bI⟩
 .intro t';rw [hg];by_cases wu:t'=t
  .simp_all;exact hv
  .simp only [wu,if_false];exact h.slot t'
 .intro t';have hr:=h.root t';rw [hg t'];by_cases wu:t'=t
  .simp only [wu,if_true];exact hk root (by rw [hb];rfl)
  .simp only [wu,if_false];generalize ap st.fr t'=s at hr;cases s<;>first|trivial|exact hk _ hr
 .intro t1 t2 c1 c2 h1 h2 dt;exact h.bb t1 t2 c1 c2 (vP t1 c1 h1) (vP t2 c2 h2) dt
 .intro t1 c1 f o h1 h2;exact h.bf t1 c1 f o (vP t1 c1 h1) h2
def A6 {s:Slot}(h:Fg s=true): ∃cs,s= .box cs/\dx cs=false:=by cases s<;>simp [Fg] at h;grind
def QZ {Z1:bn}{e1:Env}{cz:St}{root:Nat}(h:bC c Z e st a w)(h1:bC c Z1 e1 cz a w)(hp:A0 root=false)(hb:Fg (ap st.fr root)=true)(ru:Fg (ap cz.fr root)=true):e1.B root=e.B root:=by have ⟨cs,hf,hm⟩:=A6 hb;have ⟨DG,TD,hm1⟩:=A6 ru;have s1:=h.slot root;have s2:=h1.slot root;rw [hf] at s1;rw [TD] at s2;have g1:=s1.1.1 hp;have g2:=s2.1.1 hp;grind [sN,g2.symm]
theorem Jm {Z0:bn}{e0:Env}{A4:St}{ok:Nat->Bool}(h0:bC c Z0 e0 A4 a w): ∀{l:Fr} {st:St} {R:Type} {r:R} {K:Fr->Option R},(∀t s,(t,s)∈l->ap A4.fr t=s)->bC c Z e st a w->IP ok A4.fr l st.fr K=some r-> ∃fr,bC c Z e {st with fr:=fr} a w/\K fr=some r:=by
 intro l;induction l with
 |nil=>intro st R r K _ h hK;exact ⟨st.fr,h,hK⟩
 |cons p l ih=>
  have ⟨t,s⟩:=p;intro st R r K hl h hK;have uR: ∀t s,(t,s)∈l->ap A4.fr t=s:=(by grind)
  have hs:=hl t s aaS;cases s with
  |ptr root off=>
   simp only [IP] at hK;cases hc:ok t&&(!A0 root&&(Fg (ap A4.fr root)&&(Fg (ap st.fr root)&&!cg (ap st.fr t)))) with
   |false=>grind
   |true=>
    rw [hc] at hK;simp at hc;have ⟨_,hp,hb0,ru,hn⟩:=hc;simp only [cond_true,kU] at hK;have ⟨cs,hf,_⟩:=A6 ru;have hB:=QZ h0 h hp hb0 ru;have hv:af e (a.tmps.getD t undef) (.ptr root off):=by have:=h0.slot t;rw [hs] at this;simp only [dy,af] at this⊢;rw [hB];exact this
    have h2:=h.aa3 hf hn hv;have ⟨fr,g1,g2⟩:=ih (st:={st with fr:=dM st.fr t (.ptr root off)}) uR h2 hK;grind
  |_=>exact ih uR h hK
theorem Q0 {l:Fr}(hn:(aG l).Nodup): ∀t s,(t,s)∈l->ap l t=s:=by
 induction l with
 |nil=>grind
 |cons p l ih=>
  have ⟨k,x⟩:=p;have hn:(k::aG l).Nodup:=hn;intro t s hm;rcases AT.1 hm with hm|hm
  .simp_all [ap]
  .have hk:t∈aG l:=by unfold aG;exact (by grind)
   simp only [ap,eQ];grind
def qJ {ds:List Nat}{R:Type}{r:R}{K:St->Option R}(h:bC c Z e st a w)(hK:CD ds st K=some r): ∃bG,bC c Z e bG a w/\K bG=some r:=by have ⟨p,q,fr,m⟩:=st;simp only [CD,GP] at hK;have ⟨xi,g1,g2⟩:=Jm (st:={ca:=p,ch:=q,fr:=dk ds fr,aF:=m}) h (Q0 h.nodup) h.drop hK;grind
end
theorem VP (b:ByteArray):(b==b)=true:=by rw [beq_toListBytes];grind
theorem ajf {a b:Kd}(h:kdB a b=true):a=b:=by cases a<;>cases b<;>simp [kdB,kB] at h<;>first|rfl|(subst h;rfl)|grind
theorem aeL {l m:List Kd}(h:HC l m=true):l=m:=by
 induction l generalizing m with
 |nil=>grind [HC]
 |cons a l ih=>
  cases m with
  |nil=>grind [HC]
  |cons b m=>simp only [HC,sh] at h;grind [ajf]
def aa4 {s t:MS}(h:msB s t=true):s=t:=by unfold msB at h;cases s;cases t;grind [aeL]
theorem aeM {a b:MV}(h:L4 a b=true):a=b:=by unfold L4 at h;split at h;all_goals simp_all
theorem aa5 {a b:List MV}(h:jS a b=true):a=b:=by
 induction a generalizing b with
 |nil=>grind [jS]
 |cons x xs ih=>
  cases b with
  |nil=>grind [jS]
  |cons y ys=>simp only [jS,sh] at h;grind [aeM]
structure VQ (P:Program) (t:TypeId) (s:MS):Prop where
 row: ∃kt el,P.underlying t=some (.map kt el)/\(∀w:World,(zeroValue el).run P w= .ok (BL s.b (ji s.b)) w)/\ (∀(em:Bool) (ks:List MV) (w:World),cL s.lay ks=true->(Instr.checkKey em 10000 kt (ft s.st ks)).run P w= .ok () w)/\ ∃d,P.underlying kt=some d/\((∀a b,cL s.lay a=true->cL s.lay b=true->aeb d (ft s.st a) (ft s.st b)=some (jS b a))\/ (∀a b,cL s.lay a=true->cL s.lay b=true->aeb d (ft s.st a) (ft s.st b)=none/\ ∀w:World,(afK kt (ft s.st a) (ft s.st b)).run P w= .ok (jS b a) w))
def z1 (P:Program)(c:Ctx):Prop:= ∀t s,wj c t=some s->VQ P t s
theorem aa6 {k:Kd}{e:Env}{l:ax}{vs:List Value}{m:MV}(h:aP e vs l)(hf:pD k l=true)(hm:bw [l]=some [m]):vs=GQ m/\DR k m=true:=by
 cases k<;>cases l<;>simp only [pD] at hf<;>try (cases hf;done)
 .rename_i x;cases x<;>simp only [pD] at hf<;>try (cases hf;done)
  simp [bw] at hm;subst hm;have ⟨_,h⟩:=h;cases h;exact ⟨rfl,rfl⟩
 .rename_i k x;cases x<;>simp only [pD] at hf<;>try (cases hf;done)
  simp [bw] at hm;subst hm;have ⟨_,h⟩:=h;cases h;exact ⟨rfl,hf⟩
 .rename_i x;cases x<;>simp only [pD] at hf<;>try (cases hf;done)
  simp [bw] at hm;subst hm;have ⟨_,h⟩:=h;cases h;exact ⟨by simp [GQ],rfl⟩
 .simp [bw] at hm;subst hm;simp only [sh,decide_eq_true_eq] at hf;have ⟨rfl,hf⟩:=hf;have hf:=bo hf;subst hf;exact ⟨h.1,by simp [DR,h.2]⟩
def yP {l:ax}{ls:List ax}{ms:List MV}(h:bw (l::ls)=some ms): ∃m q,bw [l]=some [m]/\bw ls=some q/\ms=m::q:=by cases l<;>cases hq:bw ls<;>simp [bw,hq] at h⊢;all_goals grind
def aeN {e:Env}{lay:List Kd}: ∀{ls:List ax} {vs:List Value} {ms:List MV},ar e vs ls->gm lay ls=true->bw ls=some ms->vs=ms.flatMap GQ/\cL lay ms=true:=by
 induction lay with
 |nil=>
  intro ls vs ms h hf hm;cases ls with
  |nil=>cases h;simp [bw] at hm;subst hm;exact ⟨rfl,rfl⟩
  |cons=>grind [gm]
 |cons k lay ih=>
  intro ls vs ms h hf hm;cases ls with
  |nil=>grind [gm]
  |cons l ls=>
   simp only [gm] at hf;cases h1:pD k l with
   |false=>grind
   |true=>obtain ⟨m,q,g1,g2,rfl⟩:=yP hm;obtain ⟨v,u,rfl,g3,g4⟩:=h;grind [aa6,cL]
theorem ajg {e:Env}{s:MS}{v:Value}{sl:Slot}{ks:List MV}(h:af e v sl)(hf:gm s.lay (aD sl)=true)(hsh:pE s.st sl=true)(hm:bw (aD sl)=some ks):v=ft s.st ks/\cL s.lay ks=true:=by
 cases sl with
 |sc l=>
  simp only [pE,ad8] at hsh;simp only [aD] at hf hm;cases hl:s.lay with
  |nil=>grind [gm]
  |cons k r=>
   cases r with
   |cons=>grind [gm]
   |nil=>
    have TD:pD k l=true:=by cases hq:pD k l<;>simp_all [gm]
    obtain ⟨m,q,g1,g2,rfl⟩:=yP hm;simp [bw] at g2;subst g2;by_cases hh: ∃k n x,l= .hs k n x
    .obtain ⟨k1,n1,x,rfl⟩:=hh;simp [bw] at g1;subst g1;simp only [af] at h;cases k<;>simp [pD] at TD;exact ⟨by rw [hsh,h.1];rfl,by simp_all [cL,DR]⟩
    .have hlr:aP e [v] l:=by cases l<;>simp only [af] at h<;>first|exact h|grind [pD]|grind
     have ⟨k1,k2⟩:=aa6 hlr TD g1;refine ⟨?_,by simp [cL,k2]⟩;rw [hsh];cases m<;>simp [GQ] at k1<;>first|(rw [k1];rfl)|skip
     cases l<;>simp [bw] at g1
     .have:=hlr.1;grind [MV.one]
     grind
 |ag cs=>simp only [pE] at hsh;obtain ⟨arr,rfl,hl⟩:=h;have ⟨k1,k2⟩:=aeN hl hf hm;refine ⟨?_,k2⟩;rw [hsh];simp only [ft];rw [<-k1]
 |_=>grind [pE]
theorem OR {n:Nat}{m:MV}: ∀x∈GQ m,aeg n x x=true:=by intro x hx;cases m<;>simp [GQ,bE] at hx;all_goals grind [aeg,VP]
theorem OS {n:Nat}{ms:List MV}:aeg (n+1) (.agg (ms.flatMap GQ).toArray) (.agg (ms.flatMap GQ).toArray)=true:=by simp only [aeg,sh,beq_self_eq_true,true_and];rw [aex];rintro ⟨x,y⟩ hxy;have ⟨i,hi,he⟩:=List.mem_iff_getElem.1 hxy;grind [aey,GQ,List.getElem_mem,OR]
def OT {n:Nat}{st:Bool}{lay:List Kd}{ks:List MV}(hf:cL lay ks=true):aeg (n+1) (ft st ks) (ft st ks)=true:=by unfold ft;grind [OS,GQ,aeg,VP]
def Nl {P:Program}{w:World}{st:Bool}{lay:List Kd}{ks:List MV}(hf:cL lay ks=true):(Instr.keyThatStays (ft st ks) (ft st ks)).run P w= .ok (ft st ks) w:=by unfold Instr.keyThatStays;rw [OT (n:=9999) hf];rfl
def kr:List (List MV)->List MV->Nat
 |[],_=>0
 |q::r,ks=>bif jS q ks then 0 else kr r ks+1
def VR (mP:List (List MV))(ks:List MV):kr mP ks<=mP.length:=by
 induction mP with
 |nil=>simp [kr]
 |cons q r ih=>grind [kr,jS]
def aa7 {mP:List (List MV)}{ks:List MV}{q:List MV}(h:mP[kr mP ks]? =some q):q=ks:=by
 induction mP with
 |nil=>simp at h
 |cons p r ih=>grind [kr,jS,aa5]
theorem wv (es:List MV)(ks:List MV):jj es ks=kr (es.map sI) ks:=by
 induction es with
 |nil=>rfl
 |cons e r ih=>grind [jj,kr]
def qK (s:MS):List MapEntry->List (List MV)->Prop
 |[],mP=>mP=[]
 |x::es,mP=> ∃q r,mP=q::r/\cL s.lay q=true/\x.key=ft s.st q/\qK s es r
theorem qK.length {s:MS}: ∀{es:List MapEntry} {mP:List (List MV)},qK s es mP->mP.length=es.length
 |[],_,h=>by cases h;rfl
 |_::es,_,⟨q,r,rfl,_,_,h⟩=>by simp [h.length]
def qK.append {s:MS}: ∀{es ZO:List MapEntry} {mP amB:List (List MV)},qK s es mP->qK s ZO amB->qK s (es++ZO) (mP++amB)
 |[],_,_,_,h,h'=>by cases h;exact h'
 |x::es,_,_,_,⟨q,r,rfl,h1,h2,h⟩,h'=>⟨q,_,rfl,h1,h2,h.append h'⟩
def qK.at {s:MS}: ∀{es:List MapEntry} {mP:List (List MV)} {i:Nat} {x:MapEntry},qK s es mP->es[i]? =some x-> ∃q,mP[i]? =some q/\cL s.lay q=true/\x.key=ft s.st q
 |[],_,_,_,_,h=>by simp at h
 |y::es,_,i,x,⟨q,r,rfl,h1,h2,h⟩,hx=>by
  cases i with
  |zero=>grind
  |succ i=>simpa using h.at (i:=i) (by grind)
def TL {s:MS}{d:TypeDesc}{ks:List MV}(hf:cL s.lay ks=true)(hd: ∀a b,cL s.lay a=true->cL s.lay b=true->aeb d (ft s.st a) (ft s.st b)=some (jS b a)): ∀(es:List MapEntry) (mP:List (List MV)) (n:Nat),qK s es mP->aez d (ft s.st ks) es n=some ((es[kr mP ks]?).map λx=>(n+kr mP ks,x.val)):=by
 intro es;induction es with
 |nil=>intro mP n h;rfl
 |cons x es ih=>rintro mP n ⟨q,r,rfl,h1,h2,h⟩;simp only [aez,h2,hd ks q hf h1,kr];grind
def Mm {P:Program}{s:MS}{kt:TypeId}{ks:List MV}{w:World}(hf:cL s.lay ks=true)(hd: ∀a b,cL s.lay a=true->cL s.lay b=true-> ∀w:World,(afK kt (ft s.st a) (ft s.st b)).run P w= .ok (jS b a) w): ∀(es:List MapEntry) (mP:List (List MV)) (n:Nat),qK s es mP->(Instr.findAsking kt (ft s.st ks) es n).run P w= .ok ((es[kr mP ks]?).map λx=>(n+kr mP ks,x.val)) w:=by
 intro es;induction es with
 |nil=>intro mP n h;rfl
 |cons x es ih=>
  rintro mP n ⟨q,r,rfl,h1,h2,h⟩;simp only [Instr.findAsking,h2,ae3,hd ks q hf h1 w,BY,kr];cases hm:jS q ks with
  |true=>simp
  |false=>grind
theorem Jn {P:Program}{s:MS}{kt:TypeId}{d:TypeDesc}{ks:List MV}{w:World}{es:List MapEntry}{mP:List (List MV)}(hf:cL s.lay ks=true)(hu:P.underlying kt=some d)(hd:(∀a b,cL s.lay a=true->cL s.lay b=true->aeb d (ft s.st a) (ft s.st b)=some (jS b a))\/ (∀a b,cL s.lay a=true->cL s.lay b=true->aeb d (ft s.st a) (ft s.st b)=none/\ ∀w:World,(afK kt (ft s.st a) (ft s.st b)).run P w= .ok (jS b a) w))(h:qK s es mP):(afw kt (ft s.st ks) es).run P w= .ok ((es[kr mP ks]?).map λx=>(kr mP ks,x.val)) w:=by
 rcases hd with hd|hd
 .have:=TL hf hd es mP 0 h;rw [aea] at this;exact MapKept.run_findKey hu this
 .cases es with
  |nil=>simp [afw,run_underlying hu,BY,aez]
  |cons x es=>
   have h0:=Mm (P:=P) (kt:=kt) (w:=w) hf (λa b ha hb=>(hd a b ha hb).2) (x::es) mP 0 h;obtain ⟨q,r,rfl,h1,h2,h3⟩:=h;have hn:aez d (ft s.st ks) (x::es) 0=none:=by simp [aez,h2,(hd ks q hf h1).1]
   simp_all [aea,afw,ae3,run_underlying,BY]
def sM.ks {s:MS}: ∀{es:List MapEntry} {ms:List MV} {n:Nat},es.length=ms.length->(∀(i:Nat) x m,es[i]? =some x->ms[i]? =some m->ahk s x m (n+i))->qK s es (ms.map sI)
 |[],[],_,_,_=>rfl
 |x::es,m::ms,n,hl,h=>by obtain ⟨h1,ks,v,rfl,h2,h3,_⟩:=h 0 x m rfl rfl;refine ⟨ks,ms.map sI,rfl,h2,h3,sM.ks (n:=n+1) (by simpa using hl) λi y q hy hq=> ?_⟩;have:=h (i+1) y q (by simpa using hy) (by simpa using hq);grind
 |[],_::_,_,hl,_=>by simp at hl
 |_::_,[],_,hl,_=>by simp at hl
theorem sM.mP {s:MS}{es:Array MapEntry}{n:Nat}{ms:List MV}(h:sM s es n ms):qK s es.toList (ms.map sI):=sM.ks (n:=0) (by grind [h.size]) (λi x m hx hm=>by rw [aea];exact h.ent i x m (by grind) hm)
structure yQ (s:MS) (w w':World):Prop where
 size:w.heap.size<=w'.heap.size
 qo: ∀(b:Nat) (o:Obj),w.heap[b]? =some o->w'.heap[b]? =some o\/ ∃es n ZO n' new mP,o=Obj.map es n/\w'.heap[b]? =some (Obj.map ZO n')/\ZO.toList=es.toList++new/\qK s new mP/\ ∀x∈new,x.val=BL s.b (ji s.b)
 rest:Rest w w'
theorem cq.m {w w':World}(s:MS)(h:cq w w'):yQ s w w':=⟨h.size,λb o ho=> .inl (by rw [h.qo b (a8 ho)];exact ho),h.rest⟩
theorem yQ.trans {s:MS} {w w' Fo:World}(h:yQ s w w') (h':yQ s w' Fo):yQ s w Fo:=by
 refine ⟨ahe h.size h'.size,λb o ho=> ?_,h.rest.trans h'.rest⟩;rcases h.qo b o ho with h1|⟨es,n,es1,n1,new,mP,rfl,h1,h2,h3,h4⟩
 .exact h'.qo b o h1
 .rcases h'.qo b _ h1 with g1|⟨ZO,n',es2,n2,arh,ari,g0,g1,g2,g3,g4⟩
  .grind
  .refine .inr ⟨es,n,es2,n2,new++arh,mP++ari,rfl,g1,by grind,h3.append g3,λx hx=> ?_⟩;grind
section
variable {P:Program}{c:Ctx}{Z:bn}{e:Env}{st:St}{a:Act}{w w':World}{R:Type}{K:St->Option R}{r:R}{Q:Exit->Act->World->Prop}{o:Oper}{e':Env}
def A7 {s:MS}{sl:Slot}{v:Value} {K':Nat->List MV->Option R}(h:bC c Z e st a w)(hv:af e v sl)(hK:L6 st s sl K'=some r): ∃root es arr n,ap st.fr root= .box [.mp s es]/\v= .map (some (e.B root))/\w.heap[e.B root]? =some (.map arr n)/\sM s arr n es/\(Z.bz root).In (e.B root)/\K' root es=some r:=by
 unfold L6 at hK;split at hK
 .rename_i root;split at hK
  .rename_i s' es xu;cases hm:msB s s'&&!L0 s' with
   |false=>grind
   |true=>
    simp only [hm,cond_true] at hK;simp at hm;have ⟨hm,hit⟩:=hm;have:=aa4 hm;subst this;have nA:=h.slot root;rw [xu] at nA;have ⟨ob,h1,h2⟩:=nA.2.obj;cases ob with
    |cells arr T z=>exact absurd h2.2.zS (by simp [dx])
    |map arr n=>have ⟨s2,ms2,h3,_,h4⟩:=h2;simp at h3;have ⟨rfl,rfl⟩:=h3;exact ⟨root,es,arr,n,xu,by grind [af],h1,h4,nA.2.bI,hK⟩
    |stringIter x n=>have h3:_=[ax.mp MS.it _]:=h2;simp at h3;rw [h3.1] at hit;cases hit
    |_=>exact h2.elim
  .cases hK
 .cases hK
def Ft {s:MS}{sl:Slot}{v:Value} {K':List MV->Option R}(hv:af e v sl)(hK:Qw s sl K'=some r): ∃ks,v=ft s.st ks/\cL s.lay ks=true/\K' ks=some r:=by
 unfold Qw at hK;cases hm:bw (aD sl) with
 |none=>grind
 |some ks=>grind [ajg]
def Q1 {s:MS}{es:List MV}{arr:Array MapEntry}{n:Nat}{ks:List MV}(hm:sM s arr n es): af e ((((arr.toList[kr (es.map sI) ks]?).map λx=>x.val)).getD (BL s.b (ji s.b))) (Fj s es ks):=by
 have aa8: ∀v:MV,Tl s.b v=true->(s.b=true/\v= .b (asB v))\/(s.b=false/\v= .i .i64 (asI v)):=by
  intro v hv;cases hb:s.b<;>rw [hb] at hv<;>cases v<;>simp [Tl] at hv
  .rename_i k x;cases k<;>simp [Tl] at hv;exact .inr ⟨rfl,rfl⟩
  .exact .inl ⟨rfl,rfl⟩
 unfold Fj ahh ahg;rw [wv];cases ha:arr.toList[kr (es.map sI) ks]? with
 |none=>
  have:es[kr (es.map sI) ks]? =none:=by rw [List.getElem?_eq_none_iff] at ha⊢;have:=hm.size;simp at ha;omega
  cases hb:s.b<;>simp [BL,ji,hb];all_goals grind [sO,DW]
 |some x=>
  have dh:kr (es.map sI) ks<es.length:=by have h1:=(ad6.1 ha).1;have:=hm.size;simp at h1;omega
  have ⟨m,hmm⟩: ∃m,es[kr (es.map sI) ks]? =some m:=(by simp_all)
  obtain ⟨_,q,v,rfl,_,_,h5,h6⟩:=hm.ent _ x m (by grind) hmm;simp_all;rcases aa8 v h5 with ⟨h7,h8⟩|⟨h7,h8⟩
  .rw [h7,h8];exact DW _
  .rw [h7,h8];exact sO _ _
def TM {t:TypeId}{s:MS}(ho:o.op= .makeMap t none)(hit:L0 s=false)(h:bC c Z e st a w)(hK:aR c st o.dst (.box [.mp s []]) K=some r):o.wp P a w (Out c Z K r e.φ w) Q:=by
 have bF:(execOp a.eval o).run P w= .ok (.value (.map (some w.heap.size))) (w.alloc (.map #[] 0)):=by simp [execOp,ho,RowKit.run_makeMap,BY]
 have hg:cq w (w.alloc (.map #[] 0)):=by exact ⟨aaS,(by grind [nb]),⟨rfl,rfl,rfl⟩⟩
 refine fin bF (h.grow hg) (hg.trans h.bI _) ?_ hK;exact ⟨w.heap.size,by grind [aaA,lk],⟨h.bI _ (aeP _),⟨_,fL w _,s,[],rfl,hit,⟨rfl,rfl,(by grind)⟩⟩,Jg h⟩,(A5 h).1,(A5 h).2⟩
def XG {t:TypeId}{s:MS}{m k:Operand}(ho:o.op= .lookup t m k false)(ll:VQ P t s)(h:bC c Z e st a w)(hK:L6 st s (az c st m) (λ_ es=>Qw s (az c st k) λks=>aR c st o.dst (Fj s es ks) K)=some r):Rd P c Z K r e a w o (yQ s w):=by
 have ⟨hm,_⟩:=h.eval m;have ⟨hk,_⟩:=h.eval k;have ⟨root,es,arr,n,h1,h2,h3,h4,_,hK⟩:=A7 h hm hK;have ⟨ks,h5,h6,hK⟩:=Ft hk hK;have ⟨kt,el,t1,t2,t3,d,t4,t5⟩:=ll.row;have hks:=h4.mP;refine Ts (v:=(((arr.toList[kr (es.map sI) ks]?).map λx=>x.val)).getD (BL s.b (ji s.b))) (s:=Fj s es ks) (λw' hg=> ?_) h (.refl _ _ _) (.of (Q1 h4) ?_) hK
 .have run: ∀(Mg:Array MapEntry) (n':Nat) (mP:List (List MV)),w'.heap[e.B root]? =some (.map Mg n')->qK s Mg.toList mP-> (execOp a.eval o).run P w'= .ok (.value ((((Mg.toList[kr mP ks]?).map λx=>x.val)).getD (BL s.b (ji s.b)))) w':=by
   intro Mg n' mP g1 g2;have Qj:=Jn (P:=P) (w:=w') h6 t4 t5 g2;cases hx:Mg.toList[kr mP ks]? with
   |none=>rw [hx] at Qj;simp [execOp,ho,h2,h5,aiS,run_underlying t1,BY,OF g1,t3 _ ks _ h6,Qj,t2]
   |some x=>rw [hx] at Qj;simp [execOp,ho,h2,h5,aiS,run_underlying t1,BY,OF g1,t3 _ ks _ h6,Qj]
  rcases hg.qo _ _ h3 with g1|⟨es1,n1,ZO,n',new,mP,g0,g1,g2,g3,g4⟩
  .grind
  .simp at g0;have ⟨rfl,rfl⟩:=g0;have arj:qK s ZO.toList (es.map sI++mP):=by rw [g2];exact hks.append g3
   rw [run ZO n' _ g1 arj];have hl:=hks.length;have key:((ZO.toList[kr (es.map sI++mP) ks]?).map λx=>x.val).getD (BL s.b (ji s.b))=((arr.toList[kr (es.map sI) ks]?).map λx=>x.val).getD (BL s.b (ji s.b)):=by
    have hfa: ∀l:List (List MV),(kr l ks<l.length->kr (l++mP) ks=kr l ks)/\(kr l ks=l.length->kr (l++mP) ks=l.length+kr mP ks):=by
     intro l;induction l with
     |nil=>simp [kr]
     |cons q l ih=>simp only [afR,kr,afS];grind
    rw [g2];rcases Nat.lt_or_ge (kr (es.map sI) ks) (es.map sI).length with dh|hge
    .rw [(hfa _).1 dh,aeo aah]
    .have ol:=Nat.le_antisymm (VR (es.map sI) ks) hge;rw [(hfa _).2 ol,ol,hl,afj aah,show arr.toList.length+kr mP ks-arr.toList.length=kr mP ks by omega,List.getElem?_eq_none (l:=arr.toList) aah];cases hx:new[kr mP ks]? with
     |none=>rfl
     |some x=>simp [g4 x (List.mem_of_getElem? hx)]
   rw [key]
 .unfold Fj;cases s.b<;>trivial
theorem qL {es:List MV}{i:Nat}{v:MV}:L5 es i v=match es[i]? with|some e=>es.set i (.cT [.agg (sI e),v])|none=>es:=rfl
def Nn {b:Bool}{sl:Slot}{v:Value} {K':MV->Option R}(hv:af e v sl)(hK:Xk b sl K'=some r): ∃m,Tl b m=true/\v=BL b m/\K' m=some r:=by
 unfold Xk at hK;split at hK
 .rename_i x;exact ⟨.b x,rfl,by rw [Nc hv];rfl,hK⟩
 .rename_i n;exact ⟨.i .i64 n,rfl,by rw [kq hv];rfl,hK⟩
 .cases hK
def ZG.map {es:Array MapEntry}{n g:Nat}(hh:w.heap[g]? =some (.map es n))(ZO:Array MapEntry) (n':Nat):ZG g w {w with heap:=w.heap.setIfInBounds g (.map ZO n')}:=by exact ⟨aaS,(by grind),⟨rfl,rfl,rfl⟩⟩
def D5 {s:MS}{root:Nat}{es es2:List MV}{arr aeO:Array MapEntry}{n n2:Nat} {K':St->Option R}(h:bC c Z e st a w)(h1:ap st.fr root= .box [.mp s es])(h3:w.heap[e.B root]? =some (.map arr n))(hz:(Z.bz root).In (e.B root))(h4:sM s aeO n2 es2)(hK:I3 st root s es2 K'=some r): ∃w' bG,w'={w with heap:=w.heap.setIfInBounds (e.B root) (.map aeO n2)}/\bC c Z e bG a w'/\Trans Z e.φ w e.φ w'/\K' bG=some r:=by
 have ⟨hn,hK⟩:=oz hK;simp only [force_eq,kU] at hK;have SV:=ZG.map h3 aeO n2;have hit:L0 s=false:=by have nA:=h.slot root;rw [h1] at nA;obtain ⟨ob,k1,k2⟩:=nA.2.obj;rw [h3] at k1;cases k1;obtain ⟨s2,ms2,k3,k4,_⟩:=k2;simp only [aev,ax.mp.injEq,and_true] at k3;rw [k3.1];exact k4
 refine ⟨_,_,rfl,?_,.chg _ SV (QD hz (by rw [<-h.defers.2.1,<-bm,hn];simp)),hK⟩;exact h.setObj h1 SV (aga h3).1 ⟨s,es2,rfl,hit,h4⟩ rfl (by grind [bA]) (dg h.nodup)
def Q2 {s:MS}{arr:Array MapEntry}{n:Nat}{es:List MV}{ks:List MV}(hm:sM s arr n es)(hf:cL s.lay ks=true){v:Value}{m:MV}(hv:Tl s.b m=true)(Xs:v=BL s.b m): (∀x,arr[jj es ks]? =some x->x.key=ft s.st ks/\Fi es ks (ji s.b)=es/\ sM s (arr.modify (jj es ks) λe=>{e with key:=ft s.st ks,val:=v}) n (L5 es (jj es ks) m)/\ sM s (arr.modify (jj es ks) λe=>{e with key:=ft s.st ks}) n es/\x.born=jj es ks)/\ (arr[jj es ks]? =none->jj es ks=es.length/\Fi es ks (ji s.b)=es++[.cT [.agg ks,ji s.b]]/\ sM s (arr.push {key:=ft s.st ks,val:=v,born:=n}) (n+1) (L5 (Fi es ks (ji s.b)) (jj es ks) m)):=by
 have uw:=hm.size;have hle:jj es ks<=es.length:=by rw [wv];have:=VR (es.map sI) ks;simpa using this
 constructor
 .intro x hx;have dh:jj es ks<es.length:=by have h1:=(Array.getElem?_eq_some_iff.1 hx).1;omega
  have ⟨m0,zG⟩: ∃m0,es[jj es ks]? =some m0:=(by simp_all)
  obtain ⟨h1,q,v0,rfl,h2,h3,h4,h5⟩:=hm.ent _ x m0 hx zG;have hq:q=ks:=by refine aa7 (mP:=es.map sI) ?_;rw [<-wv,aef,zG];rfl
  subst hq;have hb:AI (jj es q) es.length=false:=by
   cases hb:AI (jj es q) es.length with
   |false=>rfl
   |true=>simp_all
  refine ⟨h3,by simp [Fi,hb],⟨by grind [qL],by grind [qL,hm.clock],λi y p hy hp=> ?_⟩,⟨by simp [uw],hm.clock,λi y p hy hp=> ?_⟩,h1⟩
  .rw [qL,zG] at hp;simp only [aec] at hy;simp only [List.getElem?_set] at hp;by_cases hi:jj es q=i
   .subst hi;simp [hx] at hy;simp [dh] at hp;subst hy;subst hp;exact ⟨h1,q,m,rfl,h2,rfl,hv,Xs⟩
   .simp only [hi,if_false] at hy hp;exact hm.ent i y p hy hp
  .simp only [aec] at hy;by_cases hi:jj es q=i
   .subst hi;simp [hx] at hy;rw [zG] at hp;cases hp;subst hy;exact ⟨h1,q,v0,rfl,h2,rfl,h4,h5⟩
   .simp only [hi,if_false] at hy;exact hm.ent i y p hy hp
 .intro hx;have hge:jj es ks=es.length:=by
   have h1:arr.size<=jj es ks:=by simpa using hx
   omega
  have hb:AI (jj es ks) es.length=true:=by rw [hge];simp
  have hme:Fi es ks (ji s.b)=es++[.cT [.agg ks,ji s.b]]:=by simp [Fi,hb]
  have OU:L5 (Fi es ks (ji s.b)) (jj es ks) m=es++[.cT [.agg ks,m]]:=by rw [hme,qL,hge];simp [sI]
  refine ⟨hge,hme,?_⟩;rw [OU];refine ⟨by simp [uw],by simp [hm.clock],λi y p hy hp=> ?_⟩;rcases Nat.lt_trichotomy i arr.size with hi|hi|hi
  .rw [aeo aah] at hp;exact hm.ent i y p (by grind) hp
  .subst hi;simp at hy;rw [uw] at hp;simp at hp;subst hy;subst hp;exact ⟨by grind [hm.clock],ks,m,rfl,hf,rfl,hv,Xs⟩
  grind
def VS {s:MS}{arr:Array MapEntry}{n:Nat}{es:List MV}{ks:List MV}{kt:TypeId}{d:TypeDesc}(hm:sM s arr n es)(hf:cL s.lay ks=true)(t4:P.underlying kt=some d)(t5:(∀a b,cL s.lay a=true->cL s.lay b=true->aeb d (ft s.st a) (ft s.st b)=some (jS b a))\/ (∀a b,cL s.lay a=true->cL s.lay b=true->aeb d (ft s.st a) (ft s.st b)=none/\ ∀w:World,(afK kt (ft s.st a) (ft s.st b)).run P w= .ok (jS b a) w)): (afw kt (ft s.st ks) arr.toList).run P w= .ok ((arr[jj es ks]?).map λx=>(jj es ks,x.val)) w:=by grind [Jn,hm.mP,wv]
def OV {t:TypeId}{s:MS}{m k v:Operand}(ho:o.op= .mapUpdate t m k v)(ll:VQ P t s)(h:bC c Z e st a w)(hK:L6 st s (az c st m) (λr es=>Qw s (az c st k) λks=>Xk s.b (az c st v) λv=>I3 st r s (L5 (Fi es ks (ji s.b)) (jj es ks) v) λst=>aR c st o.dst (.sc .un) K)=some r): o.wp P a w (Out c Z K r e.φ w) Q:=by
 have ⟨hm,_⟩:=h.eval m;have ⟨hk,_⟩:=h.eval k;have ⟨hv,_⟩:=h.eval v;have ⟨root,es,arr,n,h1,h2,h3,h4,hz,hK⟩:=A7 h hm hK;have ⟨ks,h5,h6,hK⟩:=Ft hk hK;have ⟨mv,h7,h8,hK⟩:=Nn hv hK;have ⟨kt,el,t1,t2,t3,d,t4,t5⟩:=ll.row;have Qj:=VS (P:=P) (w:=w) h4 h6 t4 t5;have ⟨g1,g2⟩:=Q2 h4 h6 h7 h8;cases hx:arr[jj es ks]? with
 |some x=>have ⟨k1,k2,k3,_,_⟩:=g1 x hx;rw [k2] at hK;obtain ⟨w',bG,rfl,hs,ht,hK⟩:=D5 h h1 h3 hz k3 hK;refine DU ?_ hs ht hK;simp [execOp,ho,h2,h5,ahR,run_underlying t1,OF h3,t3 _ ks _ h6,Qj,hx,k1,Nl h6,ad1 _ h3,BY]
 |none=>have ⟨k1,k2,k3⟩:=g2 hx;obtain ⟨w',bG,rfl,hs,ht,hK⟩:=D5 h h1 h3 hz k3 hK;refine DU ?_ hs ht hK;simp [execOp,ho,h2,h5,ahR,run_underlying t1,OF h3,t3 _ ks _ h6,Qj,hx,ad1 _ h3,BY]
theorem GZ {t:TypeId}{s:MS}{m k:Operand}(ho:o.op= .mapEntry t m k)(ll:VQ P t s)(h:bC c Z e st a w)(hK:L6 st s (az c st m) (λr es=>Qw s (az c st k) λks=>I3 st r s (Fi es ks (ji s.b)) λst=>aR c st o.dst (.cT [Fj s es ks,.sc (.p (.i .i64 (jj es ks)))]) K)=some r): o.wp P a w (λa' w'=>yQ s w w'/\Out c Z K r e.φ w a' w') Q:=by
 have ⟨hm,_⟩:=h.eval m;have ⟨hk,_⟩:=h.eval k;have ⟨root,es,arr,n,h1,h2,h3,h4,hz,hK⟩:=A7 h hm hK;have ⟨ks,h5,h6,hK⟩:=Ft hk hK;have ⟨kt,el,t1,t2,t3,d,t4,t5⟩:=ll.row;have Qj:=VS (P:=P) (w:=w) h4 h6 t4 t5;have ZP:Tl s.b (ji s.b)=true:=by cases s.b<;>rfl
 have ⟨g1,g2⟩:=Q2 h4 h6 ZP rfl;have hgl:=Q1 (e:=e) (ks:=ks) h4;rw [<-wv] at hgl;have aa9:Ca (Fj s es ks)=true:=by unfold Fj;cases s.b<;>rfl
 have amD: ∀(w':World) (bG:St) (u:Value),yQ s w w'->(execOp a.eval o).run P w= .ok (.value (.tuple #[u,goInt (jj es ks)])) w'->bC c Z e bG a w'->Trans Z e.φ w e.φ w'-> af e u (Fj s es ks)->aR c bG o.dst (.cT [Fj s es ks,.sc (.p (.i .i64 (jj es ks)))]) K=some r->o.wp P a w (λa' w'=>yQ s w w'/\Out c Z K r e.φ w a' w') Q:=by
  intro w' bG u hg bF hs ht hu hK;unfold aiR;rw [bF,aho];have ja:rn Z e w' bG (.tuple #[u,goInt (jj es ks)]) (.cT [Fj s es ks,.sc (.p (.i .i64 (jj es ks)))]):=by refine ⟨?_,trivial⟩;simp only [af];exact ⟨_,rfl,u,[goInt (jj es ks)],rfl,hu,aa9,goInt (jj es ks),[],rfl,sO _ _,rfl,rfl⟩
  obtain ⟨e2,cj,k1,k2,k3⟩:=bV hs ja hK;exact ⟨hg,e2,cj,k1,by grind,k2⟩
 cases hx:arr[jj es ks]? with
 |some x=>
  have ⟨k1,k2,_,k4,k5⟩:=g1 x hx;rw [k2] at hK;obtain ⟨w',bG,rfl,hs,ht,hK⟩:=D5 h h1 h3 hz k4 hK;have kW:arr.modify (jj es ks) (λe=>{e with key:=ft s.st ks})=arr:=by
   apply ahG;intro i;rw [aec];by_cases hi:jj es ks=i
   .subst hi;simp only [if_true,hx,ahS];rw [<-k1]
   .simp [hi]
  refine amD _ _ x.val ?_ ?_ hs ht ?_ hK
  .rw [kW];have:w.heap.setIfInBounds (e.B root) (.map arr n)=w.heap:=by
    apply ahG;intro i;rw [Array.getElem?_setIfInBounds];by_cases hi:e.B root=i
    .grind
    .simp [hi]
   rw [this];exact (cq.refl w).m s
  .simp [execOp,ho,h2,h5,Instr.mapEntry,run_underlying t1,OF h3,t3 _ ks _ h6,Qj,hx,k1,Nl h6,ad1 _ h3,BY,k5]
  grind
 |none=>
  have ⟨k1,k2,k3⟩:=g2 hx;have OU:L5 (Fi es ks (ji s.b)) (jj es ks) (ji s.b)=Fi es ks (ji s.b):=by rw [k2,qL,k1];simp [sI]
  rw [OU] at k3;obtain ⟨w',bG,rfl,hs,ht,hK⟩:=D5 h h1 h3 hz k3 hK;refine amD _ _ (BL s.b (ji s.b)) ?_ ?_ hs ht ?_ hK
  .have SV:=ZG.map h3 (arr.push {key:=ft s.st ks,val:=BL s.b (ji s.b),born:=n}) (n+1);refine ⟨by grind,λb ob hb=> ?_,SV.rest⟩;by_cases ZM:b=e.B root
   .subst ZM;rw [h3] at hb;cases hb;exact .inr ⟨arr,n,_,_,[{key:=ft s.st ks,val:=BL s.b (ji s.b),born:=n}],[ks],rfl,(aga h3).1,aaS,⟨ks,[],rfl,h6,rfl,rfl⟩,aaS⟩
   grind
  .rw [hx] at Qj;simp [execOp,ho,h2,h5,Instr.mapEntry,run_underlying t1,OF h3,t3 _ ks _ h6,Qj,ad1 _ h3,BY,t2,k1];rw [h4.clock]
  grind
theorem Mn {t:TypeId}{s:MS}{m i v:Operand}(ho:o.op= .entryStore t m i v)(h:bC c Z e st a w)(hK:L6 st s (az c st m) (λr es=>match az c st i with
  | .sc (.p (.i .i64 n))=>fh (decide (0<=n/\n.toNat<es.length)) (Xk s.b (az c st v) λv=>I3 st r s (L5 es n.toNat v) λst=>aR c st o.dst (.sc .un) K)
  |_=>none)=some r):
 o.wp P a w (Out c Z K r e.φ w) Q:=by
 have ⟨hm,_⟩:=h.eval m;have ⟨hi,_⟩:=h.eval i;have ⟨hv,_⟩:=h.eval v;have ⟨root,es,arr,n,h1,h2,h3,h4,hz,hK⟩:=A7 h hm hK;split at hK
 .rename_i q hq;rw [hq] at hi;have ⟨hc,hK⟩:=cN hK;have ⟨Im,hc2⟩:=of_decide_eq_true hc;have ⟨mv,h7,h8,hK⟩:=Nn hv hK;have uw:=h4.size;have ⟨m0,zG⟩: ∃m0,es[q.toNat]? =some m0:=(by simp_all)
  have dh:q.toNat<arr.size:=aah
  have hx:arr[q.toNat]? =some arr[q.toNat]:=by simp [dh]
  obtain ⟨j1,ks,v0,rfl,j2,j3,j4,j5⟩:=h4.ent _ _ _ hx zG;have pw:sM s (arr.modify q.toNat λe=>{e with val:=a.eval v}) n (L5 es q.toNat mv):=by
   refine ⟨by grind [qL],by grind [qL,h4.clock],λk y p hy hp=> ?_⟩;rw [qL,zG] at hp;simp only [aec] at hy;simp only [List.getElem?_set] at hp;by_cases hi:q.toNat=k
   .subst hi;rw [hx] at hy;simp at hy;simp [hc2] at hp;subst hy;subst hp;exact ⟨j1,ks,mv,rfl,j2,j3,h7,h8⟩
   .simp only [hi,if_false] at hy hp;exact h4.ent k y p hy hp
  have hfi:arr.findIdx? (λe=>(e.born:Int)==q)=some q.toNat:=by
   rw [Array.findIdx?_eq_some_iff_findIdx_eq];refine ⟨dh,?_⟩;rw [Array.findIdx_eq dh];refine ⟨by grind,λk hk=> ?_⟩;have hk':k<arr.size:=aah
   obtain ⟨m1,hm1⟩: ∃m1,es[k]? =some m1:=(by grind)
   obtain ⟨b1,_⟩:=h4.ent k arr[k] m1 (by simp [hk']) hm1;simp [b1];omega
  obtain ⟨w',bG,rfl,hs,ht,hK⟩:=D5 h h1 h3 hz pw hK;refine DU ?_ hs ht hK;have hiv:=kq hi;simp only [execOp,ho,h2,hiv,Instr.entryStore,ae3,OF h3,asInt,asIntOf,Sem.run_pure,BY];grind [ad1,BY]
 .cases hK
def aeQ {x:Operand}(ho:o.op= .assign x)(h:bC c Z e st a w)(hK:Ia c o st x (λs st=>aR c st o.dst s K)=some r):o.wp P a w (λa' w'=>cq w w'/\Out c Z K r e.φ w a' w') Q:=by
 have plain:aR c st o.dst (az c st x) K=some r->o.wp P a w (λa' w'=>cq w w'/\Out c Z K r e.φ w a' w') Q:=by intro hK;obtain ⟨v,h1,h2⟩:=OH (P:=P) (.inr ho) h hK;unfold aiR;rw [h1 w trivial,aho];exact ⟨.refl w,h2⟩
 unfold Ia at hK;split at hK
 .rename_i t _ _;split at hK
  .rename_i cs xu;cases hm:dx cs with
   |false=>grind
   |true=>
    simp only [hm,cond_true] at hK;cases hnp:bB st.ca t||A0 t with
    |true=>grind
    |false=>
     have ⟨hn,hpt⟩:=IT.1 hnp;simp only [hnp,cond_false,GP] at hK;have nA:=h.slot t;rw [xu] at nA;have h1:=h.drop (ds:=[t]);have hg:=Jc [t] st.fr h.nodup;have vP: ∀t' gl,ap (dk [t] st.fr) t'= .box gl->t'≠t/\ap st.fr t'= .box gl:=by
      intro t' gl ht;rw [hg] at ht;split at ht
      .cases ht
      .rename_i dt;refine ⟨λhe=>dt ?_,ht⟩;simp_all [bB]
     have ja:rn Z e w {st with fr:=dk [t] st.fr} (a.eval (.tmp t)) (.box cs):=by refine ⟨e.B t,nA.1.1 hpt,⟨QD nA.2.bI (by rw [<-h.defers.2.1,<-bm,hn];simp),nA.2.obj,nA.2.free⟩,λt' gl ht=> ?_,λf o ho=>h.bf t cs f o xu ho⟩;obtain ⟨g1,g2⟩:=vP t' gl ht;exact h.bb t' t gl cs g2 xu g1
     exact Tq (w':=w) (.refl w) (by simp [execOp,ho]) h1 (.refl _ _ _) ja hK
  grind
 grind
def aeR {t:Nat}{s:MS}(h:wj c t=some s):L0 s=false:=by unfold wj at h;grind
def aba {t:TypeId}{x:Operand}{I:TI}(ho:o.op= .range t x)(hI:c.tv t=some I)(hT:fw P c.ti)(h:bC c Z e st a w)(hK:Te I (az c st x) (λs=>aR c st o.dst s K)=some r):o.wp P a w (Out c Z K r e.φ w) Q:=by
 have ⟨lC,hc⟩:=aM hI;have ⟨hx,_⟩:=h.eval x;generalize az c st x=s' at hx hK;unfold Te at hK;split at hK
 .have ⟨hS,hK⟩:=ob hK;have hu:=TI.Fp (hT t I lC) hS;obtain ⟨b,hb,rfl⟩:=DV hx;have bF:(execOp a.eval o).run P w= .ok (.value (.pointer (some ⟨w.heap.size,0,none⟩))) (w.alloc (.stringIter b 0)):=by simp [execOp,ho,hb,run_range_string w t b hu,World.iter,BY]
  have hg:cq w (w.alloc (.stringIter b 0)):=by exact ⟨aaS,(by grind [nb]),⟨rfl,rfl,rfl⟩⟩
  refine fin bF (h.grow hg) (hg.trans h.bI _) ?_ hK;exact ⟨w.heap.size,by rw [Tn rfl],⟨h.bI _ (aeP _),⟨_,fL w _,rfl⟩,Jg h⟩,(A5 h).1,(A5 h).2⟩
 .cases hK
theorem ZG.iter {s:ByteArray}{n g:Nat}(hh:w.heap[g]? =some (.stringIter s n)) (n':Nat):ZG g w {w with heap:=w.heap.setIfInBounds g (.stringIter s n')}:=by exact ⟨aaS,(by grind),⟨rfl,rfl,rfl⟩⟩
def aeS {x:Operand}(ho:o.op= .next x true)(h:bC c Z e st a w)(hK:itK st (az c st x) (λs st=>aR c st o.dst s K)=some r):o.wp P a w (Out c Z K r e.φ w) Q:=by
 have ⟨hx,_⟩:=h.eval x;generalize az c st x=s' at hx hK;unfold itK at hK;split at hK
 .rename_i t;split at hK
  .rename_i s es xu;have nA:=h.slot t;rw [xu] at nA;have ⟨ob,h1,h2⟩:=nA.2.obj;cases ob with
   |cells arr T z=>exact absurd h2.2.zS (by simp [dx])
   |map arr n=>have ⟨s2,ms2,h3,h4,_⟩:=h2;grind
   |stringIter b pos=>
    have h3:_=[ax.mp MS.it _]:=h2;obtain ⟨rfl,rfl⟩:=h3;simp only [af] at hx;cases pw:L7 [.s b.data.toList,.i .i64 (pos:Int)] with
    |true=>
     rw [pw] at hK;have dh:pos<b.size:=by simpa [L7,sJ,itS] using pw
     have ⟨hn,hK⟩:=oz hK;simp only [force_eq,kU] at hK;have hb:(⟨b.data.toList.toArray⟩:ByteArray)=b:=by cases b;simp
     have SV:=ZG.iter h1 (pos+(ahP b pos).2);have hs:=h.setObj (gl:=[.mp MS.it (CB [.s b.data.toList,.i .i64 (pos:Int)])]) xu SV (aga h1).1 (by show _=_;simp [CB,itS,sJ,hb]) rfl (λt=>by rw [bA]) (dg h.nodup);have bF:(execOp a.eval o).run P w= .ok (.value (.tuple #[.bool true,.int .i64 pos,.int .i32 (ahP b pos).1])) {w with heap:=w.heap.setIfInBounds (e.B t) (.stringIter b (pos+(ahP b pos).2))}:=by simp [execOp,ho,hx,Instr.next,getObj,setObj,Sem.run,h1,dh,BY,goInt]
     refine fin (s:= .cT [.sc (.p (.b true)),.sc (.p (.i .i64 (sJ [.s b.data.toList,.i .i64 (pos:Int)]))),.sc (.p (.i .i32 (CA [.s b.data.toList,.i .i64 (pos:Int)])))]) bF hs (.chg _ SV (QD nA.2.bI (by rw [<-h.defers.2.1,<-bm,hn];simp))) ⟨?_,trivial⟩ hK;exact ⟨_,rfl,.bool true,_,rfl,DW _,rfl,goInt pos,_,rfl,sO _ _,rfl,_,[],rfl,sO _ _,rfl,rfl⟩
    |false=>
     rw [pw] at hK;have dh: ¬pos<b.size:=by simpa [L7,sJ,itS] using pw
     have bF:(execOp a.eval o).run P w= .ok (.value (.tuple #[.bool false])) w:=by simp [execOp,ho,hx,Instr.next,getObj,setObj,Sem.run,h1,dh,BY,goInt]
     refine fin (s:= .cT [.sc (.p (.b false))]) bF h (.refl _ _ _) ⟨?_,trivial⟩ hK;exact ⟨_,rfl,.bool false,_,rfl,DW _,rfl,rfl⟩
   |_=>exact h2.elim
  .cases hK
 .cases hK
def Np {R:Type}{r:R}: ∀{xs:List MV} {K:List UInt8->Option R},L8 xs K=some r-> ∃ns:List Int,xs=ns.map (MV.i .u8)/\K (ns.map λn=>ahQ n.toNat)=some r:=by
 intro xs;induction xs with
 |nil=>intro K h;exact ⟨[],rfl,h⟩
 |cons m xs ih=>
  intro K h;simp only [L8,byK] at h;cases m with
  |i k n=>
   simp only [gI] at h;by_cases hk:k= .u8
   .subst hk;have ⟨_,h1⟩:=cN h;have ⟨ns,hx,h2⟩:=ih h1;exact ⟨n::ns,by rw [hx];rfl,h2⟩
   grind
  |_=>grind [gI]
theorem abb {y t:TypeId}{x:Operand}{Y I:TI}(ho:o.op= .convert y t x)(hY:c.tv y=some Y)(hI:c.tv t=some I)(hL:Y.GN=true)(hT:fw P c.ti)(h:bC c Z e st a w)(hK:aai c st Y I (az c st x) (λs=>aR c st o.dst s K)=some r):Rd P c Z K r e a w o (cq w):=by
 have ⟨hyi,_⟩:=aM hY;have ⟨lC,_⟩:=aM hI;have ⟨hx,_⟩:=h.eval x;generalize az c st x=s' at hx hK;have ⟨hu,_⟩:=TI.kK (hT y Y hyi) hL;unfold aai at hK;cases hE:c.tv Y.elem with
 |none=>grind
 |some E=>
  have ⟨mn,_⟩:=aM hE;simp only [hE] at hK;cases hSU:I.Z7&&Xi E with
  |false=>grind
  |true=>
   simp only [hSU,cond_true] at hK;simp at hSU;have hd:=TI.Fp (hT t I lC) hSU.1;have ⟨he,uw⟩:=OL (hT _ E mn) hSU.2;have go: ∀(ns:List Int),(∀w':World,cq w w'->(convert y t (a.eval x)).run P w'= .ok (.string (strOfNums ns)) w')->aR c st o.dst (.sc (.p (.s (ns.map λn=>ahQ n.toNat)))) K=some r-> Rd P c Z K r e a w o (cq w):=by intro ns bF hK;refine Ts (s:= .sc (.p (.s (ns.map λn=>ahQ n.toNat)))) (v:= .string (strOfNums ns)) (λw' hg=>by simp_all [execOp,BY]) h (.refl _ _ _) (.of ?_ trivial) hK;rw [<-strOfNums_data];exact aep _
   have awa:a.eval x= .slice none 0 0->aR c st o.dst (.sc (.p (.s []))) K=some r->Rd P c Z K r e a w o (cq w):=by intro hv hK;refine go [] (λw' hg=> ?_) hK;rw [hv,run_convert_bytes_nil w' y _ hu he 0 0 t hd];rfl
   split at hK
   .have ⟨ns,hns,rq⟩:=Np hK;refine go ns (λw' hg=> ?_) rq;subst hns;have ⟨_,hx⟩:=hx;generalize hv:[a.eval x]=vs at hx;cases hx;rename_i ad cap aQ off Fe f h1 h2 h3 h4 h5;simp only [aev,and_true] at hv;rw [hv];have hlen:(ns.map (MV.i .u8)).length=ns.length:=aeY ..;have h5: ∀(i:Nat) (hi:i<ns.length),il e.key e.φ (f i) (.i .u8 ns[i]):=(by grind)
    rw [hlen] at h1 h2 h3 h4⊢;cases ns with
    |nil=>rw [run_convert_bytes_string w' y t _ _ _ _ hu he hd];cases ad<;>simp [Conv.bytesToString,loadCells,loadCellsFrom,BY,strOfNums]<;>rfl
    |cons n ns=>
     have h5': ∀(i:Nat) (hi:i<(n::ns).length),f i=[.int .u8 (n::ns)[i]]:=by intro i hi;have:=h5 i hi;generalize f i=q at this;cases this;rfl
     have ark:Fe=1:=by rw [<-h3 0 aaS,h5' 0 aaS];rfl
     subst ark;rw [h2 aaS];refine run_convert_bytes_arg w' y _ hu he aQ off _ cap (n::ns) rfl (λi hi=> ?_) t hd;have h6:=h4 i 0 hi aah;rw [h5' i hi] at h6;simp at h6;rw [hg.cell (h.jU _ _ _ h6),afn,aa0 hi];rfl
   .grind [af,aP]
   .rename_i f;cases hf:aB st.aF f with
    |none=>grind
    |some ow=>
     simp only [hf] at hK;have ⟨ll,hK⟩:=ob hK;have ll:=bo ll;have ⟨ns,hns,rq⟩:=Np hK;have ⟨hv,_⟩:=rW h hx hf;refine go ns (λw' hg=> ?_) rq;have ⟨J,cells,k1,k2,k3,k4,k5⟩:=(h.fJ f ow hf).row;rw [ll,mn] at k1;cases k1;rw [uw] at k3 k4;rw [hns] at k3 k4;have bE: ∀(ns:List Int) (cells:List Value),aU e.key e.φ 1 cells (ns.map (MV.i .u8))->cells=ns.map (ain .u8):=by
      intro ns;induction ns with
      |nil=>intro cells hc;exact hc
      |cons n ns ih=>intro cells hc;obtain ⟨v,q,rfl,_,hr,hc⟩:=hc;cases hr;grind
     have hce:=bE _ _ k4;subst hce;rw [hv];rw [aeY] at k3;rcases k3.2 with ⟨q1,q2⟩|⟨g,cap,cD,q1,_,q2,q3,q4,q5,q6⟩
     .have:ns=[]:=(by grind)
      subst this;rw [q1,run_convert_bytes_nil w' y _ hu he 0 0 t hd];rfl
     .rw [q1];refine run_convert_bytes_arg w' y _ hu he g 0 _ cap ns rfl (λi hi=> ?_) t hd;refine hg.cell ?_;rw [aea,cell_of q2];have hi2:(cD.toList.take (ns.length *1))[i]? =some (.int .u8 (ns.getD i 0)):=by rw [q6,aef,afn,aa0 hi];rfl
      grind
   .cases hK
def abd {t:TypeId}{I:TI}(hI:c.tv t=some I)(hT:fw P c.ti): ∃i z,P.info? t=some i/\i.zero=some z/\ar e z.cells.toList I.zero:=by
 have ⟨lC,hc⟩:=aM hI;have ⟨d,i,h1,h2,h3,h4⟩:=hT t I lC;suffices hz: ∃z,i.zero=some z/\ar e z.cells.toList I.zero by grind
 cases d<;>simp only [qD] at h4;case struct fs=>grind [aeU,lD]
 case tuple ts=>grind
 case slice el=>have ⟨_,_,_,_,_,hz,hl,_⟩:=h4;exact ⟨_,hz,by rw [hl];exact ⟨[.slice none 0 0],[],rfl,rfl,rfl⟩⟩
 case array n el=>have ⟨_,_,_,_,k,m,_,_,_,hl,hz⟩:=h4;exact ⟨_,hz,by rw [hl];exact ⟨bE k (zA m),[],by simp [aeU],⟨rfl,aaS⟩,rfl⟩⟩
 case bool=>have ⟨_,_,_,_,hl,hz⟩:=h4;exact ⟨_,hz,by rw [hl];exact ⟨[.bool false],[],rfl,⟨rfl,.b _⟩,rfl⟩⟩
 case int k=>have ⟨_,_,_,_,hl,hz⟩:=h4;exact ⟨_,hz,by rw [hl];exact ⟨[.int k 0],[],rfl,⟨rfl,.i _ _⟩,rfl⟩⟩
 case string=>have ⟨_,_,_,_,hl,b,hz,hb⟩:=h4;refine ⟨_,hz,by rw [hl];refine ⟨[.string b],[],rfl,⟨rfl,?_⟩,rfl⟩;rw [<-hb];exact .s b⟩
 all_goals
  have ⟨_,_,_,_,v,hz,hv,hl⟩:=h4;have:v.cells.toList=[v]:=by cases v<;>simp_all [aeU,Value.oneCell']
  grind [lD]
def ar.amG {cs:List ax}: ∀{vs:List Value} {ms:List MV},ar e vs cs->zM cs=some ms->fq e.key e.φ vs ms:=by
 induction cs with
 |nil=>intro vs ms h hm;cases h;simp [zM] at hm;subst hm;exact .nil
 |cons l r ih=>
  intro vs ms h hm;obtain ⟨v,u,rfl,h1,h2⟩:=h;cases hr:zM r with
  |none=>simp_all [zM]
  |some q=>
   cases l<;>simp [zM,hr] at hm
   .subst hm;exact .cons v _ u q h1.2 (ih h2 hr)
   .subst hm;obtain ⟨rfl,hx⟩:=h1;exact .cons _ _ u q (.h _ _ _ hx) (ih h2 hr)
   .subst hm;subst h1;exact .cons _ _ u q (.list none 0 [] 0 0 0 (λ_=>[]) (aeP _) (by grind) (by grind) (by grind) (by grind)) (ih h2 hr)
def XH {b:Bool}{ms:List MV}{x:MV}{vs:List Value}(h:fq e.key e.φ vs ms)(hx:vO b ms=some x):il e.key e.φ vs x:=by
 cases b with
 |true=>cases ms<;>simp [vO] at hx<;>subst hx<;>exact .agg _ _ h
 |false=>
  cases ms with
  |nil=>grind [vO]
  |cons m ms=>
   cases ms with
   |cons y ys=>grind [vO]
   |nil=>
    simp [vO] at hx;cases h with
    |cons v _ u _ h1 h2=>cases h2;grind
theorem Nq (z:Array Value)(hz:0<z.size): ∀n:Nat,(madeCells z (n *z.size)).toList=(IN n z.toList).flatten
 |0=>by simp [madeCells]
 |n+1=>by
  have ih:=Nq z hz n;unfold madeCells at ih⊢;rw [aei,Array.toList_range] at ih⊢;rw [ahJ,List.range_add,List.map_append,ih,List.replicate_succ',ahw];simp;apply ahK;intro k;rw [aef];by_cases hk:k<z.size
  .rw [List.getElem?_range hk];simp only [ahS,Function.comp];rw [show (n *z.size+k)%z.size=k by rw [Nat.mul_comm,Nat.mul_add_mod,Nat.mod_eq_of_lt hk]];simp [hk]
  grind
def Ch {key:Nat->Nat} {φ:Ph}{size:Nat}{vs:List Value}{x:MV}(hl:vs.length=size)(h:il key φ vs x): ∀n,aU key φ size (IN n vs).flatten (IN n x)
 |0=>rfl
 |n+1=>⟨vs,(IN n vs).flatten,by grind,hl,h,Ch hl h n⟩
def Jo {α:Type}(l:List α): ∀n,(IN n l).flatten.length=n *l.length
 |0=>aaS
 |n+1=>by simp_all
theorem OW {t:TypeId}{x y:Operand}{I E:TI}(ho:o.op= .makeSlice t x y)(hI:c.tv t=some I)(hL:I.GN=true)(hE:c.tv I.elem=some E)(hT:fw P c.ti)(h:bC c Z e st a w)(hK:Z6 (o.dst.getD 0) st I E (az c st x) (az c st y) (λs st=>aR c st o.dst s K)=some r): o.wp P a w (λa' w'=>cq w w'/\Out c Z K r e.φ w a' w') Q:=by
 have ⟨lC,hc⟩:=aM hI;have ⟨mn,nR⟩:=aM hE;have ⟨hu,E2,DI,_,fj⟩:=TI.kK (hT t I lC) hL;have ⟨hx,_⟩:=h.eval x;have ⟨hy,_⟩:=h.eval y;generalize az c st x=sx at hx hK;generalize az c st y=sy at hy hK;unfold Z6 at hK;split at hK;rotate_left
 .cases hK
 rename_i k1 n k2 m;cases hb:ae8 1 E.bytes with
 |false=>grind
 |true=>
 simp only [hb,cond_true] at hK;have hb:=aed hb;have ⟨hn,hK'⟩:=cN hK;have hK:=hK';have hn:=of_decide_eq_true hn;have ⟨h0,hnm,oa⟩:=hn;cases OJ:zM E.zero with
 |none=>grind
 |some zs=>
 simp only [OJ] at hK;cases hre:vO E.st zs with
 |none=>grind
 |some z0=>
 simp only [hre] at hK;have ⟨i,z,hi,hz,hlr⟩:=abd (e:=e) hE hT;have ⟨i',z',hi',hs,hby,hz',aji⟩:=kG (hT _ E mn) nR;rw [hi] at hi';cases hi';rw [hz] at hz';cases hz';have eu:il e.key e.φ z.cells.toList z0:=XH (hlr.amG OJ) hre;have ev1:a.eval x= .int k1 n:=kq hx;have ev2:a.eval y= .int k2 m:=kq hy;have hnb:m<=m *(E.bytes:Int):=by have:m *1<=m *(E.bytes:Int):=Int.mul_le_mul_of_nonneg_left aah aah;omega
 have amH:=run_make (P:=P) w t I.elem i z hu hi hz k1 k2 n m h0 hnm (by grind) aah;have bF:(execOp a.eval o).run P w= .ok (.value (.slice (some ⟨w.heap.size,0,none⟩) n.toNat m.toNat)) (w.alloc (.cells (madeCells z.cells (m.toNat *i.size)) I.elem)):=by simp [execOp,ho,ev1,ev2,amH]
 rw [hs,<-aji] at bF;have hg:cq w (w.alloc (.cells (madeCells z.cells (m.toNat *z.cells.size)) I.elem)):= .alloc w _ _;have ajj:(madeCells z.cells (m.toNat *z.cells.size)).toList=(IN m.toNat z.cells.toList).flatten:=(by grind [Nq])
 have ahv:(madeCells z.cells (m.toNat *z.cells.size)).toList.take (n.toNat *E.size)=(IN n.toNat z.cells.toList).flatten:=by
  have hl:(IN n.toNat z.cells.toList).flatten.length=n.toNat *E.size:=by rw [Jo,ahA,aji]
  have hr:IN m.toNat z.cells.toList=IN n.toNat z.cells.toList++IN (m.toNat-n.toNat) z.cells.toList:=by rw [List.replicate_append_replicate];congr 1;omega
  rw [ajj,hr,ahw,<-hl,List.take_left]
 have jk:=Ch (size:=E.size) (by grind) eu n.toNat;have hlen:(IN n.toNat z0).length=n.toNat:=List.length_replicate;have uw:(madeCells z.cells (m.toNat *z.cells.size)).toList.length=m.toNat *E.size:=by rw [ahA,size_madeCells,aji]
 have QR: ∀off,e.φ w.heap.size off=none:=by
  intro off;cases hp:e.φ w.heap.size off with
  |none=>rfl
  |some u=>have:=agc w _ (h.jU _ _ _ hp);simp at this
 have Cc:=h.npf hK;have hK:=nS hK;have fQ:bU c Z.nc e (w.alloc (.cells (madeCells z.cells (m.toNat *z.cells.size)) I.elem)) (.slice (some ⟨w.heap.size,0,none⟩) n.toNat m.toNat) ⟨I.elem,false,IN n.toNat z0⟩:=by
  refine ⟨E,_,mn,nR,⟨?_,.inr ⟨w.heap.size,m.toNat,_,?_,Nat.zero_le _,fL w _,?_,?_,?_,?_⟩⟩,jk,?_⟩
  .simp_all
  .rw [hlen]
  .grind
  .grind [Go.maxLen]
  .grind
  .grind
  .intro aQ n9;simp [AS] at n9;subst n9;refine ⟨h.bI _ (aeP _),(by grind),λhc=>ahF hc⟩
 have lm:=h.ir (f:=o.dst.getD 0) Cc fQ hg.size (λb LX _=>hg.qo b LX) (λb off u hu=>hg.cell (h.jU b off u hu)) (by grind [AS]);exact Tq (s:= .sc (.own (o.dst.getD 0))) hg bF lm (hg.trans h.bI _) (.of (qI rfl) trivial) hK
end
def VT:List (Nat×Nat)->Nat->Nat
 |[],_=>0
 |(f,x)::r,g=>if f=g then x else VT r g
def OX (E:Nat->Value)(ps:List (Nat×Nat))(f:Nat):Value:=match VT ps f with
 |0=> .slice none 0 0
 |g+1=>E g
structure OY (ps:List (Nat×Nat)):Prop where
 fn: ∀f x y,(f,x)∈ps->(f,y)∈ps->x=y
 inj: ∀f f' g,(f,g+1)∈ps->(f',g+1)∈ps->f=f'
def OY.nil:OY []:=⟨(by grind),(by grind)⟩
theorem A8 {ps:List (Nat×Nat)}(h:OY ps){f x:Nat}(hm:(f,x)∈ps):VT ps f=x:=by
 have hfn:=h.fn;clear h;induction ps with
 |nil=>simp at hm
 |cons p ps ih=>unfold VT;grind
def TN {ps:List (Nat×Nat)}{f g:Nat}(h:pF ps f g=true):(∀b,(f,b)∈ps->b=g/\g≠0)/\(∀x,(x,g)∈ps->x≠f->g=0):=by
 induction ps with
 |nil=>simp
 |cons p ps ih=>simp only [pF,sh,eQ] at h;grind
theorem OY.add {ps:List (Nat×Nat)}{f g:Nat}(h:OY ps)(hp:pF ps f g=true):OY ((f,g)::ps):=by
 have ⟨p1,p2⟩:=TN hp;refine ⟨λa x y hx hy=> ?_,λa b k hx hy=> ?_⟩
 .rcases AT.1 hx with hx|hx<;>rcases AT.1 hy with hy|hy
  .grind
  .grind
  .grind
  .exact h.fn a x y hx hy
 .rcases AT.1 hx with GU|GU<;>rcases AT.1 hy with hy1|hy1
  .grind
  .grind
  .grind
  .exact h.inj a b k GU hy1
inductive TC (st:St):List (Nat×Nat)->List LK->List ax->List MV->List (Nat×Nat)->Prop
 |nil (ps):TC st ps [] [] [] ps
 |OZ {ps ks ls ms jW}:TC st ps ks ls ms jW->TC st ps (.k .l::ks) (.nil::ls) (.list []::ms) jW
 |hs {ps ks ls ms jW} (k:IntKind) (n:Nat) (x:List Int):TC st ps ks ls ms jW->TC st ps (.k (.h k n)::ks) (.hs k n x::ls) (.h k n x::ms) jW
 |p {ps ks ls ms jW} (x:Kd) (m:MV) (l':ax):iq x m some=some l'->TC st ps ks ls ms jW->TC st ps (.k x::ks) (.p m::ls) (m::ms) jW
 |own {ps ks ls ms jW} (f ty:Nat) (fH:Bool) (g:Nat) (o:n8):aB st.aF g=some o->o.ty=ty->(o.fH=true->fH=true)->g∉st.ch->pF ps f (g+1)=true-> TC st ((f,g+1)::ps) ks ls ms jW->TC st ps (.own f ty fH::ks) (.own g::ls) (.list o.xs::ms) jW
 |xy {ps ks ls ms jW} (f ty:Nat) (fH:Bool):pF ps f 0=true->TC st ((f,0)::ps) ks ls ms jW->TC st ps (.own f ty fH::ks) (.nil::ls) (.list []::ms) jW
theorem Jp {R:Type}{k:Kd}{m:MV}{l:ax}{K:ax->Option R}(h:iq k m some=some l):iq k m K=K l:=by unfold iq gB gI gS gL gH gR at h⊢;grind
theorem A9 {R:Type}{r:R}{k:Kd}{m:MV}{K:ax->Option R}(h:iq k m K=some r): ∃l,iq k m some=some l/\K l=some r:=by unfold iq gB gI gS gL gH gR at h⊢;grind
def CO {st:St}{ks:List LK}: ∀{R:Type} {r:R} {ps:List (Nat×Nat)} {ls:List ax} {K':List MV->List (Nat×Nat)->Option R},kT st ps ks ls K'=some r-> ∃ms jW,TC st ps ks ls ms jW/\K' ms jW=some r:=by
 induction ks with
 |nil=>
  intro R r ps ls K' h;cases ls with
  |nil=>exact ⟨[],ps,.nil ps,h⟩
  |cons=>grind [kT]
 |cons k ks ih=>
  intro R r ps ls K' h;cases ls with
  |nil=>grind [kT]
  |cons l ls=>
   simp only [kT] at h;unfold Ox at h;split at h
   .have ⟨ms,jW,h1,h⟩:=ih h;exact ⟨_,_,.OZ h1,h⟩
   .have ⟨hq,h⟩:=ob h;simp only [sh,decide_eq_true_eq] at hq;have ⟨rfl,hq⟩:=hq;have hq:=bo hq;subst hq;have ⟨ms,jW,h1,h⟩:=ih h;exact ⟨_,_,.hs _ _ _ h1,h⟩
   .have ⟨l',h0,h⟩:=A9 h;have ⟨ms,jW,h1,h⟩:=ih h;exact ⟨_,_,.p _ _ l' h0 h1,h⟩
   .rename_i f ty fH g;cases ho:aB st.aF g with
    |none=>grind
    |some o=>simp only [ho] at h;have ⟨hc,h⟩:=oz h;simp at hc;have ⟨⟨⟨h1,h2⟩,h3⟩,h4⟩:=hc;have ⟨ms,jW,h5,h⟩:=ih h;refine ⟨_,_,.own f ty fH g o ho (by simp_all) ?_ ?_ h4 h5,h⟩;all_goals grind [bm]
   .rename_i f ty fH;have ⟨hc,h⟩:=ob h;have ⟨ms,jW,h5,h⟩:=ih h;exact ⟨_,_,.xy f ty fH hc h5,h⟩
   .simp at h
def TC.ps {st:St}{ps jW:List (Nat×Nat)}{ks:List LK}{ls:List ax}{ms:List MV}(h:TC st ps ks ls ms jW):OY ps->OY jW/\ ∀p∈ps,p∈jW:=by
 induction h with
 |nil=>grind
 |OZ _ ih=>exact ih
 |hs _ _ _ _ ih=>exact ih
 |p _ _ _ _ _ ih=>exact ih
 |own f ty fH g o _ _ _ _ hp _ ih=>intro h;have ⟨h1,h2⟩:=ih (h.add hp);grind
 |xy f ty fH hp _ ih=>intro h;have ⟨h1,h2⟩:=ih (h.add hp);grind
def amI (st:St)(ps:List (Nat×Nat))(ks:List LK)(f:Nat)(o:n8):Prop:=LK.own f o.ty o.fH∈ks/\((∃g o3,(f,g+1)∈ps/\aB st.aF g=some o3/\o3.ty=o.ty/\o3.xs=o.xs/\(o3.fH=true->o.fH=true)/\g∉st.ch)\/((f,0)∈ps/\o.xs=[]))
theorem aeT {e:Env}{st:St}{psF:List (Nat×Nat)}(GV:OY psF){ps jW:List (Nat×Nat)}{ks:List LK}{ls:List ax}{ms:List MV}(h:TC st ps ks ls ms jW)(he:e.m=st.aF):(∀p∈jW,p∈psF)-> ∀{vs:List Value},ar e vs ls-> ∀(m0:List (Nat×n8)),∃cs m1,(∀{R:Type} (K:List ax->List MV->St->Option R) (rest:List MV),ck ⟨[],[],[],m0⟩ ks (ms++rest) K=K cs rest ⟨[],[],[],m1⟩)/\ (∀e2:Env,e2.key=e.key->e2.φ=e.φ->(∀f,e2.E f=OX e.E psF f)->ar e2 vs cs)/\(∀f o,aB m1 f=some o->aB m0 f=some o\/amI st psF ks f o):=by
 induction h with
 |nil=>intro _ vs hl m0;cases hl;exact ⟨[],m0,λK rest=>rfl,λe2 _ _ _=>rfl,λf o h=> .inl h⟩
 |OZ _ ih=>
  intro gD vs hl m0;obtain ⟨v,u,rfl,h1,h2⟩:=hl;have ⟨cs,m1,g1,g2,g3⟩:=ih gD h2 m0;subst h1;refine ⟨.p (.list [])::cs,m1,λK rest=> ?_,λe2 q1 q2 q3=>⟨_,u,rfl,⟨rfl,.list none 0 [] 0 0 0 (λ_=>[]) aaS aaS aaS aaS aaS⟩,g2 e2 q1 q2 q3⟩,λf o h=> ?_⟩
  .grind [ck,gC,kJ,iq,gL]
  .rcases g3 f o h with h|⟨h,h'⟩
   .exact .inl h
   .exact .inr ⟨ab3 _ h,h'⟩
 |hs k n x _ ih=>
  intro gD vs hl m0;obtain ⟨v,u,rfl,h1,h2⟩:=hl;have ⟨cs,m1,g1,g2,g3⟩:=ih gD h2 m0;refine ⟨.hs k n x::cs,m1,λK rest=> ?_,λe2 q1 q2 q3=>⟨v,u,rfl,h1,g2 e2 q1 q2 q3⟩,λf o h=> ?_⟩
  .simp only [ck,gC,afR,kJ,iq,gH,decide_true,afA,show AI n n=true from Nat.beq_refl n,cond_true];grind
  .rcases g3 f o h with h|⟨h,h'⟩
   .exact .inl h
   .exact .inr ⟨ab3 _ h,h'⟩
 |p x m l' h0 _ ih=>
  intro gD vs hl m0;obtain ⟨v,u,rfl,h1,h2⟩:=hl;have ⟨cs,m1,g1,g2,g3⟩:=ih gD h2 m0;refine ⟨l'::cs,m1,λK rest=> ?_,λe2 q1 q2 q3=>⟨v,u,rfl,?_,g2 e2 q1 q2 q3⟩,λf o h=> ?_⟩
  .grind [ck,gC,kJ,Jp]
  .have ⟨l2,hs,hk⟩:=nB (e:=e2) (vs:=v) h0;cases hk;exact hs.rep (by rw [q1,q2];exact h1.2)
  .rcases g3 f o h with h|⟨h,h'⟩
   .exact .inl h
   .exact .inr ⟨ab3 _ h,h'⟩
 |own f ty fH g o ho ll hfz hg hp ht ih=>
  intro gD vs hl m0;obtain ⟨v,u,rfl,h1,h2⟩:=hl;have ⟨cs,m1,g1,g2,g3⟩:=ih gD h2 (ct m0 f ⟨ty,fH,o.xs⟩);have zY:(f,g+1)∈psF:=gD _ (by
   exact (show∀{ps jW:List (Nat×Nat)} {ks:List LK} {ls:List ax} {ms:List MV},TC st ps ks ls ms jW-> ∀p∈ps,p∈jW from by
    intro ps jW ks ls ms h;induction h with
    |nil=>grind
    |OZ _ ih=>exact ih
    |hs _ _ _ _ ih=>exact ih
    |p _ _ _ _ _ ih=>exact ih
    |own _ _ _ _ _ _ _ _ _ _ _ ih=>grind
    |xy _ _ _ _ _ ih=>grind) ht _ aaS)
  obtain ⟨x,rfl,hx,hE⟩:=h1;refine ⟨.own f::cs,m1,λK rest=> ?_,λe2 q1 q2 q3=>⟨[x],u,rfl,⟨x,rfl,hx,λo2 _=> ?_⟩,g2 e2 q1 q2 q3⟩,λf2 o2 h=> ?_⟩
  .grind [ck,gC,kJ,gL,oh]
  .grind [OX,A8]
  .rcases g3 f2 o2 h with h|⟨h,h'⟩
   .rw [aW] at h;by_cases jt:f2=f
    .subst jt;simp at h;subst h;exact .inr ⟨aaS,(by grind)⟩
    grind
   .exact .inr ⟨ab3 _ h,h'⟩
 |xy f ty fH hp ht ih=>
  intro gD vs hl m0;obtain ⟨v,u,rfl,h1,h2⟩:=hl;have ⟨cs,m1,g1,g2,g3⟩:=ih gD h2 (ct m0 f ⟨ty,fH,[]⟩);have zY:(f,0)∈psF:=gD _ ((show∀{ps jW:List (Nat×Nat)} {ks:List LK} {ls:List ax} {ms:List MV},TC st ps ks ls ms jW-> ∀p∈ps,p∈jW from by
   intro ps jW ks ls ms h;induction h with
   |nil=>grind
   |OZ _ ih=>exact ih
   |hs _ _ _ _ ih=>exact ih
   |p _ _ _ _ _ ih=>exact ih
   |own _ _ _ _ _ _ _ _ _ _ _ ih=>grind
   |xy _ _ _ _ _ ih=>grind) ht _ aaS)
  subst h1;refine ⟨.own f::cs,m1,λK rest=> ?_,λe2 q1 q2 q3=>⟨_,u,rfl,⟨_,rfl,rfl,λo2 _=> ?_⟩,g2 e2 q1 q2 q3⟩,λf2 o2 h=> ?_⟩
  .grind [ck,gC,kJ,gL,oh]
  .grind [OX,A8]
  .rcases g3 f2 o2 h with h|⟨h,h'⟩
   .rw [aW] at h;by_cases jt:f2=f
    .subst jt;simp at h;subst h;exact .inr ⟨aaS,.inr ⟨zY,rfl⟩⟩
    grind
   .exact .inr ⟨ab3 _ h,h'⟩
def abe {c:Ctx}{ks:List LK}(h:gn c ks=true): ∀f ty fH,LK.own f ty fH∈ks-> ∃I,c.ti ty=some I/\I.bR=[]:=by
 induction ks with
 |nil=>grind
 |cons k ks ih=>
  cases k with
  |k x=>grind [gn]
  |own f' ty' arm=>grind [gn,aM]
section
variable {P:Program}{c:Ctx}{Z:bn}{Z':Nat->Prop}{e e':Env}{st bG:St}{a:Act}{w w':World}{R:Type}{K:St->Option R}{r:R}{Q:Exit->Act->World->Prop}{o:Oper}{root:Nat}{cs:List ax}{ks:List LK}{ls:List MV}{ps:List (Nat×Nat)}
def gone (e:Env)(root:Nat)(ps:List (Nat×Nat))(b:Nat):Prop:=b=e.B root\/ ∃x g,(x,g+1)∈ps/\(e.E g).ownBlock=some b
def ez.wide {Z Z2:Nat->Prop} {φ:Ph}{aQ:Nat}(h:ez c Z φ w aQ ks ls)(hz: ∀b,Z b->Z2 b):ez c Z2 φ w aQ ks ls:=by have ⟨cs,m,E,arr,T,h1,h2,h3,h4,h5,h6,h7⟩:=h;refine ⟨cs,m,E,arr,T,h1,h2,hz _ h3,h4,h5,λf o ho=>⟨?_,(h6 f o ho).2⟩,h7⟩;have ⟨I,cells,g1,g2,g3,g4,g5⟩:=(h6 f o ho).1.row;exact ⟨I,cells,g1,g2,g3,g4,λb hb=>⟨hz _ (g5 b hb).1,(g5 b hb).2⟩⟩
def Jq (h:bC c Z e st a w)(hf:ap st.fr root= .box cs)(hm:dx cs=false)(ll:gn c ks=true)(ht:TC st [] ks cs ls ps):ez c (gone e root ps) e.φ w (e.B root) ks ls:=by
 have hs:=h.slot root;rw [hf] at hs;have ⟨arr,T,bW,pi⟩:=hs.2.cells hm;have ⟨GV,_⟩:=ht.ps .nil;have ⟨Ih,m1,g1,g2,g3⟩:=aeT GV ht h.m (λp hp=>hp) pi [];have hl:=g2 ⟨c.key,e.φ,OX e.E ps,λ_=>e.B root,m1⟩ h.key.symm rfl (λ_=>rfl);have hE: ∀{f g:Nat},(f,g+1)∈ps->OX e.E ps f=e.E g:=(by grind [OX,A8])
 have hE0: ∀{f:Nat},(f,0)∈ps->OX e.E ps f= .slice none 0 0:=(by grind [OX,A8])
 have zX: ∀f o,aB m1 f=some o->amI st ps ks f o:=(by grind [aB])
 refine ⟨Ih,m1,OX e.E ps,arr,T,?_,bW,.inl rfl,hs.2.free,hl,λf o ho=> ?_,λf f' o o' k ho CH hk hk'=> ?_⟩
 .have:=g1 (λcs rest st=>gN rest (some (cs,st.aF))) [];rw [ahT] at this;exact this
 .obtain ⟨hk,xt|⟨hp,hx⟩⟩:=zX f o ho
  .have ⟨g,o3,hp,VJ,awe,hx3,awf,Cc⟩:=xt;have ⟨I,cells,q1,q2,q3,q4,q5⟩:=(h.fJ g o3 VJ).row;refine ⟨⟨I,cells,by grind,q2,by grind,by grind [h.key],λb hb=>⟨.inr (by grind),λoff u hu=> ?_,λhc=>hc.elim⟩⟩,?_⟩
   .grind
   .rw [hE hp];exact h.bf root cs g o3 hf VJ
  .have ⟨I,hI,SX⟩:=abe ll f o.ty o.fH hk;refine ⟨⟨I,[],hI,SX,⟨by rw [hx];simp,(by grind)⟩,by rw [hx];rfl,λb hb=> ?_⟩,?_⟩;all_goals grind [AS]
 .obtain ⟨_,xt|⟨hp,_⟩⟩:=zX f o ho
  .have ⟨g,o3,hp,VJ,_⟩:=xt;obtain ⟨_,Il|⟨VL,_⟩⟩:=zX f' o' CH
   .have ⟨g',o3',VL,arn,_⟩:=Il;rw [hE hp] at hk;rw [hE VL] at hk';have:=h.ff g g' o3 o3' k VJ arn hk hk';subst this;exact GV.inj _ _ _ hp VL
   grind [AS]
  grind [AS]
def TC.aF (ht:TC st [] ks cs ls ps): ∀x g,(x,g+1)∈ps-> ∃o,aB st.aF g=some o/\g∉st.ch:=by
 have key: ∀{ps0 ps:List (Nat×Nat)} {ks:List LK} {cs:List ax} {ls:List MV},TC st ps0 ks cs ls ps-> ∀x g,(x,g+1)∈ps->(x,g+1)∈ps0\/ ∃o,aB st.aF g=some o/\g∉st.ch:=by
  intro ps0 ps ks cs ls h;induction h with
  |nil=>grind
  |OZ _ ih=>exact ih
  |hs _ _ _ _ ih=>exact ih
  |p _ _ _ _ _ ih=>exact ih
  |own f ty fH g0 o ho _ _ hg _ _ ih=>grind
  |xy f ty fH _ _ ih=>grind
 grind
def kX (gs:List Nat)(m:List (Nat×n8)):List (Nat×n8):=m.filter λp=>!bB gs p.1
def Q3 (gs:List Nat)(m:List (Nat×n8))(K:List (Nat×n8)->Option R):Qx gs m K=K (kX gs m):=by
 induction m generalizing K with
 |nil=>rfl
 |cons p m ih=>grind [Qx,kX,bB]
def Jr (gs:List Nat)(m:List (Nat×n8))(f:Nat):aB (kX gs m) f=if bB gs f then none else aB m f:=by
 induction m with
 |nil=>simp [kX,aB]
 |cons p m ih=>
  have ⟨k,o⟩:=p;simp only [kX,List.filter_cons] at ih⊢;cases hk:bB gs k with
  |true=>simp only [aer,ad4,if_false,ih,aB,eQ];grind
  |false=>simp only [ahU,if_true,aB,eQ];grind
def wz (fs:List Nat)(r:Fr):Fr:=fs.foldl (λr f=>lB f r) r
def D6 (fs:List Nat)(s:Slot):Slot:=fs.foldl (λs f=>DF f s) s
def VU (fs:List Nat)(r:Fr)(K:Fr->Option R):ael fs r K=K (wz fs r):=by
 induction fs generalizing r with
 |nil=>rfl
 |cons f fs ih=>simp only [ael,aaw];exact ih _
theorem Js (fs:List Nat)(r:Fr)(t:Nat):ap (wz fs r) t=D6 fs (ap r t):=by
 induction fs generalizing r with
 |nil=>rfl
 |cons f fs ih=>show ap (wz fs (lB f r)) t=D6 fs (DF f (ap r t));rw [ih,gu]
theorem Jt (fs:List Nat)(r:Fr):aG (wz fs r)=aG r:=by
 induction fs generalizing r with
 |nil=>rfl
 |cons f fs ih=>simp_all [aG,wz,lB]
def af.ahB {v:Value}{s:Slot}(fs:List Nat)(h:af e v s):af e v (D6 fs s):=by
 induction fs generalizing s with
 |nil=>exact h
 |cons f fs ih=>exact ih (h.kill f)
theorem D7 {S:Nat->Prop}(f:Nat){l:ax}(h:iZ S l):iZ (λg=>S g/\g≠f) (OC f l):=by intro g hg;refine ⟨?_,Fm f l g hg⟩;cases l<;>simp [OC] at hg;rename_i g';cases hb:AI g' f<;>simp [hb] at hg;subst hg;exact h _ rfl
def abf {S T:Nat->Prop}(f:Nat){s:Slot}(h:fO S T s):fO (λg=>S g/\g≠f) T (DF f s):=by
 cases s with
 |sc l=>exact D7 f h
 |ag cs=>intro l hl;obtain ⟨x,hx,rfl⟩:=ae9.1 hl;exact D7 f (h x hx)
 |tg cs=>intro l hl;obtain ⟨x,hx,rfl⟩:=ae9.1 hl;exact D7 f (h x hx)
 |ep g i o b cs=>
  simp only [DF];cases hb:AI g f
  .simp_all [cond_false,fO,eQ]
  .intro g' hg';cases hg'
 |box cs=>trivial
 |_=>exact h
def VV {S T:Nat->Prop}(fs:List Nat){s:Slot}(h:fO S T s):fO (λg=>S g/\g∉fs) T (D6 fs s):=by
 induction fs generalizing S s with
 |nil=>
  have:(λg=>S g/\g∉([]:List Nat))=S:=by funext g;simp
  rw [this];exact h
 |cons f fs ih=>
  have h2:=ih (abf f h);have:(λg=>(S g/\g≠f)/\g∉fs)=(λg=>S g/\g∉f::fs):=by funext g;simp [and_assoc]
  rw [<-this];exact h2
def abg (fs:List Nat)(cs:List ax):List ax:=fs.foldl (λcs f=>cs.map (OC f)) cs
def Q4 (fs:List Nat)(cs:List ax):D6 fs (.box cs)= .box (abg fs cs):=by
 induction fs generalizing cs with
 |nil=>rfl
 |cons f fs ih=>exact ih _
theorem uX (fs:List Nat){s:Slot}{ds:List ax}(h:D6 fs s= .box ds): ∃cs,s= .box cs/\ds=abg fs cs:=by
 induction fs generalizing s with
 |nil=>exact ⟨ds,h,rfl⟩
 |cons f fs ih=>
  have ⟨cs,h1,h2⟩:=ih (s:=DF f s) h;cases s<;>simp only [DF] at h1<;>first|(cases h1;done)|skip
  .rename_i HG;simp at h1;exact ⟨HG,rfl,by rw [h2,<-h1];rfl⟩
  grind
def Q5 {fs:List Nat}{o:Obj}{cs:List ax}(h:jZ e o cs):jZ e o (abg fs cs):=by
 induction fs generalizing cs with
 |nil=>exact h
 |cons f fs ih=>exact ih (h.map (λ_ _=>aP.kill f) (λ_ _=>rfl))
def VW {S:Nat->Prop}(fs:List Nat){cs:List ax}(h: ∀l∈cs,iZ S l): ∀l∈abg fs cs,iZ (λg=>S g/\g∉fs) l:=by
 induction fs generalizing S cs with
 |nil=>
  have:(λg=>S g/\g∉([]:List Nat))=S:=by funext g;simp
  rw [this];exact h
 |cons f fs ih=>
  have h2:=ih (S:=λg=>S g/\g≠f) (cs:=cs.map (OC f)) (by grind [D7]);have:(λg=>(S g/\g≠f)/\g∉fs)=(λg=>S g/\g∉f::fs):=by funext g;simp [and_assoc]
  rw [<-this];exact h2
def Nr (fs:List Nat)(cs:List ax):lk (abg fs cs)=lk cs:=by
 induction fs generalizing cs with
 |nil=>rfl
 |cons f fs ih=>exact (ih _).trans (Tp f cs)
def Ju {fs:List Nat}{m:List (Nat×n8)}(h:M5 fs m=false): ∀f∈fs,aB m f=none:=by
 induction fs with
 |nil=>simp
 |cons f fs ih=>grind [M5,aB]
def Jv {l k:List Nat}(h:meets l k=false): ∀f∈l,f∉k:=by
 induction l with
 |nil=>simp
 |cons x l ih=>
  unfold meets at h;cases hx:bB k x with
  |true=>grind
  |false=>grind [bm]
theorem G0 {ps:List (Nat×Nat)}{g:Nat}:g∈dH ps↔ ∃x,(x,g+1)∈ps:=by
 induction ps with
 |nil=>simp [dH]
 |cons p ps ih=>
  have ⟨x,y⟩:=p;cases y with
  |zero=>grind [dH]
  |succ y=>
   simp only [dH,AT,ih];constructor
   .rintro (rfl|⟨z,hz⟩);all_goals grind
   grind
def lF {ks:List LK}: ∀{R:Type} {r:R} {st:St} {ms:List MV} {K':List ax->List MV->St->Option R},ck st ks ms K'=some r-> ∃cs rest bG,(∀{R':Type} (K2:List ax->List MV->St->Option R'),ck st ks ms K2=K2 cs rest bG)/\K' cs rest bG=some r:=by
 induction ks with
 |nil=>intro R r st ms K' h;exact ⟨[],ms,st,λ_=>rfl,h⟩
 |cons k ks ih=>
  intro R r st ms K' h;cases ms with
  |nil=>grind [ck,gC]
  |cons m ms=>
   simp only [ck,gC] at h;cases k with
   |k x=>simp only [kJ] at h;grind [A9,ck,gC,kJ,Jp]
   |own f ty fH=>
    unfold kJ gL at h;cases m<;>simp only at h<;>try (cases h;done)
    simp only [oh] at h;have ⟨cs,rest,bG,h1,h⟩:=ih h;grind [ck,gC,kJ,gL,oh]
def Ns (m n:List (Nat×n8))(f:Nat):aB (m++n) f=match aB m f with|some o=>some o|none=>aB n f:=by
 induction m with
 |nil=>rfl
 |cons p m ih=>grind [aB,eQ]
def D8 {ks:List LK}: ∀{st:St} {ms:List MV} {cs:List ax} {rest:List MV} {bG:St},(∀{R':Type} (K2:List ax->List MV->St->Option R'),ck st ks ms K2=K2 cs rest bG)-> ∀f o,aB bG.aF f=some o->aB st.aF f=some o\/f∈bx ks:=by
 induction ks with
 |nil=>intro st ms cs rest bG h f o ho;have:=h (λa b c=>some c);grind [ck,No]
 |cons k ks ih=>
  intro st ms cs rest bG h f o ho;have h0:=h (λa b c=>some (a,b,c));cases ms with
  |nil=>simp [ck,gC] at h0
  |cons m ms=>
   cases k with
   |k x=>simp only [ck,gC,kJ] at h0;have ⟨l,h3,h4⟩:=A9 h0;have ⟨xz,abh,jQ,h5,h6⟩:=lF h4;simp at h6;have ⟨_,_,rfl⟩:=h6;exact ih h5 f o ho
   |own f' ty fH=>
    simp only [ck,gC] at h0;unfold kJ gL at h0;cases m<;>simp only at h0<;>try (cases h0;done)
    rename_i xs;have ⟨p,q,fr,n⟩:=st;simp only [oh] at h0;have ⟨xz,abh,jQ,h5,h6⟩:=lF h0;simp at h6;have ⟨_,_,rfl⟩:=h6;rcases ih h5 f o ho with h7|h7
    .rw [aW] at h7;by_cases jt:f=f';all_goals simp_all [bx,if_neg]
    grind [bx]
end
def z6 {ks:List LK}: ∀{st:St} {ms:List MV} {cs:List ax} {rest:List MV} {bG:St},(∀{R':Type} (K2:List ax->List MV->St->Option R'),ck st ks ms K2=K2 cs rest bG)-> ∀l∈cs,iZ (λf=>f∈bx ks) l:=by
 induction ks with
 |nil=>intro st ms cs rest bG h l hl;have:=h (λa b c=>some a);grind [ck,No]
 |cons k ks ih=>
  intro st ms cs rest bG h l hl;have h0:=h (λa b c=>some (a,b,c));cases ms with
  |nil=>simp [ck,gC] at h0
  |cons m ms=>
   cases k with
   |k x=>
    simp only [ck,gC,kJ] at h0;have ⟨l0,h3,h4⟩:=A9 h0;have ⟨xz,abh,jQ,h5,h6⟩:=lF h4;simp at h6;have ⟨rfl,_,_⟩:=h6;rcases AT.1 hl with rfl|hl
    .have ⟨l2,hs,hk⟩:=nB (e:=⟨λn=>n,λ_ _=>none,λ_=>undef,λ_=>0,[]⟩) (vs:=[]) h3;grind [Jd,hs.ZJ]
    .exact ih h5 l hl
   |own f' ty fH=>
    simp only [ck,gC] at h0;unfold kJ gL at h0;cases m<;>simp only at h0<;>try (cases h0;done)
    simp only [oh] at h0;have ⟨xz,abh,jQ,h5,h6⟩:=lF h0;simp at h6;have ⟨rfl,_,_⟩:=h6;rcases AT.1 hl with rfl|hl
    .intro f hf;grind [bx]
    .intro f hf;have:=ih h5 l hl f hf;grind [bx]
section
variable {P:Program}{c:Ctx}{Z:bn}{Z':Nat->Prop}{e e':Env}{st bG:St}{a:Act}{w w':World}{R:Type}{K:St->Option R}{r:R}{Q:Exit->Act->World->Prop}{o:Oper}{root:Nat}{cs:List ax}{ks:List LK}{ls outs:List MV}{ps:List (Nat×Nat)}{φ':Ph}
def G3 {fr:Fr}(fs:List Nat){s:Slot}(h:cM fr s):cM fr (D6 fs s):=by
 induction fs generalizing s with
 |nil=>exact h
 |cons f fs ih=>
  refine ih ?_;cases s with
  |ep g i o b cs=>simp only [DF];cases AI g f<;>trivial
  |ptr=>exact h
  |hp=>exact h
  |zK=>exact h
  |_=>trivial
def Jw (fs:List Nat){s:Slot}(h:cg s=true):cg (D6 fs s)=true:=by
 induction fs generalizing s with
 |nil=>exact h
 |cons f fs ih=>refine ih (s:=DF f s) ?_;grind [Fq]
theorem D9 (h:bC c Z e st a w)(hf:ap st.fr root= .box cs)(hr:bB st.ca root=false)(ht:TC st [] ks cs ls ps): ∀b,gone e root ps b->Z.In b:=by
 have hs:=h.slot root;rw [hf] at hs;intro b hb;rcases hb with rfl|⟨x,g,hp,hb⟩
 .exact QD hs.2.bI (by rw [<-h.defers.2.1,<-bm,hr];simp)
 .have ⟨o,ho,hg⟩:=ht.aF x g hp;have ⟨I,cells,_,_,_,_,h5⟩:=(h.fJ g o ho).row;exact QD (h5 b hb).1 (by rw [<-h.defers.2.2.1];exact hg)
theorem abi {ki:List LK}(h:bC c Z e st a w)(hf:ap st.fr root= .box cs)(hm:dx cs=false)(hr:bB st.ca root=false)(ht:TC st [] ki cs ls ps)(hZ: ∀b,Z' b↔w.heap.size<=b\/gone e root ps b)(xj:Trans Z' e.φ w φ' w')(hi:ni φ' w')(hc:ez c Z' φ' w' (e.B root) ks outs)(hK:M6 st root ks ps outs K=some r): ∃e' bG,bC c Z e' bG a w'/\e'.φ=φ'/\K bG=some r:=by
 unfold M6 at hK;obtain ⟨Ih,rest,A4,g1,hK⟩:=lF hK;cases rest with
 |cons=>grind [gN]
 |nil=>
 simp only [gN,Q3] at hK;cases pz:M5 (bx ks) (kX (dH ps) st.aF)||meets (bx ks) st.ch with
 |true=>grind
 |false=>
 simp only [pz,cond_false,VU,kU,xm] at hK;obtain ⟨abj,Jx⟩:=IT.1 pz;have abj:=Ju abj;have Jx:=Jv Jx;obtain ⟨xz,m3,E,arr,T,Fu,bW,hzb,pv,pi,fQ,jt⟩:=hc;have ol:xz=Ih/\m3=A4.aF:=by unfold Nk at Fu;rw [g1] at Fu;simp only [gN,No,aey] at Fu;exact (by grind)
 obtain ⟨rfl,rfl⟩:=ol;have dI:=z6 g1;have gD: ∀f o,aB A4.aF f=some o->f∈bx ks:=λf o ho=>(D8 g1 f o ho).resolve_left (by simp [aB]);have hs:=h.slot root;rw [hf] at hs;have zY: ∀b,Z' b->Z.In b:=by
  intro b hb;rcases (hZ b).1 hb with hb|hb
  .exact h.bI b hb
  .grind [D9]
 have VX: ∀t gl,ap st.fr t= .box gl->t≠root-> ¬Z' (e.B t):=by
  intro t gl htb dt hz;rcases (hZ _).1 hz with hz|hz|⟨x,g,hp,hz⟩
  .have:=sR h htb;omega
  .exact h.bb t root gl cs htb hf dt hz
  .have ⟨o,ho,_⟩:=ht.aF x g hp;exact h.bf t gl g o htb ho hz
 have hold: ∀f o,aB (kX (dH ps) st.aF) f=some o->aB st.aF f=some o/\f∉dH ps:=by
  intro f o ho;rw [Jr] at ho;cases hn:bB (dH ps) f with
  |true=>grind
  |false=>grind [bm]
 have Jy: ∀f o b,aB (kX (dH ps) st.aF) f=some o->(e.E f).ownBlock=some b-> ¬Z' b:=by
  intro f o b ho hb hz;obtain ⟨CH,hnf⟩:=hold f o ho;rcases (hZ _).1 hz with hz|hz|⟨x,g,hp,hz⟩
  .have:=sS h CH hb;omega
  .exact h.bf root cs f o hf CH (by rw [hb,hz])
  .have ⟨o2,cV,_⟩:=ht.aF x g hp;have:=h.ff f g o o2 b CH cV hb hz;grind [G0]
 let E2:Nat->Value:=λf=>if bB (bx ks) f=true then E f else e.E f
 have DI: ∀f,f∈bx ks->E2 f=E f:=λf hf=>by show (if _ then _ else _)=_;simp_all [if_pos,bm]
 have Q6: ∀f,f∉bx ks->E2 f=e.E f:=λf hf=>by show (if _ then _ else _)=_;simp_all [if_neg,bm]
 have nC: ∀f o,aB (A4.aF++kX (dH ps) st.aF) f=some o->(f∈bx ks/\aB A4.aF f=some o)\/(f∉bx ks/\aB (kX (dH ps) st.aF) f=some o):=by
  intro f o ho;rw [Ns] at ho;cases hq:aB A4.aF f with
  |some o2=>grind
  |none=>grind
 let e2:Env:=⟨e.key,φ',E2,e.B,A4.aF++kX (dH ps) st.aF⟩
 have sB:jT (λg=>True/\g∉bx ks) (λ_=>True) e e2:=by
  refine ⟨rfl,xj.ph,λ_ _=>rfl,λf o' CH hS=> ?_⟩;rcases nC f o' CH with ⟨h1,_⟩|⟨h1,h2⟩
  .grind
  .exact ⟨o',by grind [h.m],Q6 f h1,rfl⟩
 have Q7:ar e2 arr.toList xz:=by
  have ajk:jT (λf=>f∈bx ks) (λ_=>True) ⟨c.key,φ',E,λ_=>e.B root,A4.aF⟩ ⟨c.key,φ',E2,λ_=>e.B root,A4.aF++kX (dH ps) st.aF⟩:=by
   refine ⟨rfl,.refl _,λ_ _=>rfl,λf o' CH hS=> ?_⟩;rcases nC f o' CH with ⟨h1,h2⟩|⟨h1,_⟩
   .grind
   .grind
  have h1:=pi.on ajk dI;have ajl:jT (λ_=>True) (λ_=>False) ⟨c.key,φ',E2,λ_=>e.B root,A4.aF++kX (dH ps) st.aF⟩ e2:=⟨h.key,.refl _,λ_ h=>h.elim,(by grind)⟩
  exact h1.on ajl (λ_ _ _ _=>trivial)
 have hm3:dx xz=false:=Q7.zS;have Nt: ∀t,ap (dM (wz (bx ks) st.fr) root (.box xz)) t=if t=root then .box xz else D6 (bx ks) (ap st.fr t):=(by grind [bA,Js])
 have xA: ∀t ds,ap (dM (wz (bx ks) st.fr) root (.box xz)) t= .box ds-> ∃ds0,ap st.fr t= .box ds0:=by
  intro t ds hb;rw [Nt] at hb;by_cases xj:t=root
  .grind
  .grind [uX]
 refine ⟨e2,⟨st.ca,st.ch,dM (wz (bx ks) st.fr) root (.box xz),A4.aF++kX (dH ps) st.aF⟩,⟨h.defers,h.size,rfl,h.key,?_,?_,?_,?_,?_,?_,?_,hi,(by grind [ahe,xj.size])⟩,rfl,hK⟩
 .grind [dg,Jt,h.nodup]
 .intro t;rw [Nt];by_cases vS:t=root
  .subst vS;rw [if_pos rfl];exact ⟨hs.1.lk (by grind [DT]),hs.2.bI,⟨_,bW,rfl,Q7⟩,pv⟩
  .rw [if_neg vS];have eh:=h.slot t;have hnb:=VX t;generalize ap st.fr t=s at eh hnb;by_cases S0: ∃ds,s= .box ds
   .obtain ⟨ds,rfl⟩:=S0;rw [Q4];have hz:=hnb ds rfl vS;have ⟨o2,h1,h2⟩:=eh.2.obj;refine ⟨eh.1.lk (Nr _ _),eh.2.bI,⟨o2,by rw [xj.heap _ hz (a8 h1)];exact h1,?_⟩,λoff=>by show φ' (e.B t) off=none;rw [xj.free _ off hz];exact eh.2.free off⟩;exact (Q5 h2).on sB (VW _ (λl _ f _=>trivial))
   .have ajm:af e (a.tmps.getD t undef) s:=by cases s<;>simp only [dy] at eh<;>first|exact eh|grind
    have h2:=(ajm.ahB (bx ks)).on sB (VV _ (cZ s));have ajn: ∀ds,D6 (bx ks) s≠ .box ds:=(by grind [uX])
    generalize D6 (bx ks) s=s2 at h2 ajn;cases s2<;>first|exact h2|grind
 .intro t;have hbk: ∀q,cg (ap st.fr q)=true->cg (ap (dM (wz (bx ks) st.fr) root (.box xz)) q)=true:=by
   intro q hq;rw [Nt];by_cases hqr:q=root
   .rw [if_pos hqr];rfl
   .rw [if_neg hqr];exact Jw _ hq
  rw [Nt];by_cases vS:t=root
  .rw [if_pos vS];trivial
  .rw [if_neg vS];refine G3 _ ?_;have pq:=h.root t;generalize ap st.fr t=s at pq;cases s with
   |ptr q o=>exact hbk q pq
   |hp q o i=>exact hbk q pq
   |zK q=>exact hbk q pq
   |_=>trivial
 .intro f o ho;rcases nC f o ho with ⟨h1,h2⟩|⟨h1,h2⟩
  .have hfm:=(fQ f o h2).1;have Cc:f∉Z.ch:=by rw [<-h.defers.2.2.1];exact Jx f h1
   refine bU.to ?_ Cc;have ⟨I,cells,q1,q2,q3,q4,q5⟩:=hfm.row;refine ⟨I,cells,q1,q2,?_,?_,λb hb=> ?_⟩
   .grind
   .grind [h.key]
   .have hb:(E2 f).ownBlock=some b:=hb;rw [DI f h1] at hb;exact ⟨zY b (q5 b hb).1,(q5 b hb).2.1,λhc=>hc.elim⟩
  .have ⟨CH,hnf⟩:=hold f o h2;have ⟨I,cells,q1,q2,q3,q4,q5⟩:=(h.fJ f o CH).row;refine ⟨I,cells,q1,q2,?_,q4.mono xj.ph,?_⟩
   .show w'.ownsRow 0 o.ty I.size (E2 f) o.xs.length cells;rw [Q6 f h1];refine ⟨q3.1,?_⟩;rcases q3.2 with h6|⟨g,cap,cD,k1,k2,k3,k4⟩
    .exact .inl h6
    .refine .inr ⟨g,cap,cD,k1,k2,?_,k4⟩;rw [xj.heap g (Jy f o g h2 (by rw [k1];rfl)) (a8 k3)];exact k3
   .intro aQ hb;have hb:(E2 f).ownBlock=some aQ:=hb;rw [Q6 f h1] at hb;refine ⟨(q5 aQ hb).1,λoff u hu=>(q5 aQ hb).2.1 off u ?_,λk1 k2 j hj=>xj.ph.DP (by grind) hj⟩;have hu:φ' aQ off=some u:=hu;rw [xj.free _ off (Jy f o aQ h2 hb)] at hu;exact hu
 .intro t t' c1 c2 h1 h2 dt;have ⟨d1,k1⟩:=xA t c1 h1;have ⟨d2,k2⟩:=xA t' c2 h2;exact h.bb t t' d1 d2 k1 k2 dt
 .intro t c1 f o h1 h2;show (E2 f).ownBlock≠some (e.B t);rcases nC f o h2 with ⟨k1,k2⟩|⟨k1,k2⟩
  .rw [DI f k1];by_cases vS:t=root
   .grind
   .have ⟨d1,k3⟩:=xA t c1 h1;intro hq;have ⟨I,cells,_,_,_,_,q5⟩:=(fQ f o k2).1.row;exact VX t d1 k3 vS (q5 _ hq).1
  .rw [Q6 f k1];have ⟨d1,k3⟩:=xA t c1 h1;exact h.bf t d1 f o k3 (hold f o k2).1
 .intro f f' o o' k h1 h2 h3 h4;have h3:(E2 f).ownBlock=some k:=h3;have h4:(E2 f').ownBlock=some k:=h4;rcases nC f o h1 with ⟨k1,k2⟩|⟨k1,k2⟩<;>rcases nC f' o' h2 with ⟨k3,k4⟩|⟨k3,k4⟩
  .grind
  .rw [DI f k1] at h3;rw [Q6 f' k3] at h4;have ⟨I,cells,_,_,_,_,q5⟩:=(fQ f o k2).1.row;exact absurd (q5 _ h3).1 (Jy f' o' k k4 h4)
  .rw [Q6 f k1] at h3;rw [DI f' k3] at h4;have ⟨I,cells,_,_,_,_,q5⟩:=(fQ f' o' k4).1.row;exact absurd (q5 _ h4).1 (Jy f o k k2 h3)
  .rw [Q6 f k1] at h3;rw [Q6 f' k3] at h4;exact h.ff f f' o o' k (hold f o k2).1 (hold f' o' k4).1 h3 h4
theorem aL.length {key:Nat->Nat} {φ:Ph}{ms:List MV}: ∀{vs:List Value},aL key φ vs ms->vs.length=ms.length:=by
 induction ms with
 |nil=>intro vs h;cases h;rfl
 |cons m ms ih=>intro vs h;obtain ⟨v,u,rfl,_,h2⟩:=h;simp [ih h2]
theorem Jz {cl:Call}{g:List MV->Option MV}{pos:Nat}{ks ko:List LK}{oI:Option TI}{gv:Bool}(hS:Sound P c)(S2:gv=true-> ∀ms x,g ms=some x-> ∃f:Nat,c.g (c.key f) ms=some x/\c.bK (c.key f)=true/\c.sig (c.key f)=some (pos,ks,ko)/\(execOp a.eval o).run P w=(callFunc f (cl.args.map a.eval)).run P w)(h:bC c Z e st a w)(hK:VE c gv g pos ks ko st (jh c st cl.args.toList) oI (λs st=>aR c st o.dst s K)=some r): gv=true/\o.wp P a w (λa' w'=>Out c Z K r e.φ w a' w') Q:=by
 unfold VE at hK;have ⟨vs,DH⟩: ∃vs,vs=cl.args.toList.map a.eval:=⟨_,rfl⟩
 have hlen:vs.length=(jh c st cl.args.toList).length:=by rw [DH];simp [gz]
 have eu: ∀(i:Nat) (v:Value) (s:Slot),vs[i]? =some v->(jh c st cl.args.toList)[i]? =some s->af e v s:=by rw [DH];exact aL.map h
 generalize jh c st cl.args.toList=ss at hK hlen eu;split at hK
 .rename_i root off fj;have awi:pos<ss.length:=(by grind)
  have ⟨v,hv⟩: ∃v,vs[pos]? =some v:=(by simp_all)
  have hvp:v= .pointer (some ⟨e.B root,off,none⟩):=eu pos v _ hv fj;have JA:vs=vs.take pos++v::vs.drop (pos+1):=by
   conv=>lhs;rw [<-ad0 pos vs]
   rw [List.drop_eq_getElem_cons aah];have:=ad6.1 hv;obtain ⟨_,Xs⟩:=this;rw [Xs]
  have ⟨e1,cz,m1,h1,x1,DX,r1,qH⟩:=om h ⟨λ_=>vs.take pos,rfl,by grind,(by grind)⟩ hK;have ⟨e2,cj,m2,h2,x2,QN,r2,rq⟩:=om h1 ⟨λ_=>vs.drop (pos+1),rfl,by grind,λi u s hu hs=>by rw [List.getElem?_drop] at hu hs;exact (eu _ u s hu hs).on x1.on (cZ s)⟩ qH;split at rq
  .rename_i cs hf;cases pz:dx cs||bB cj.ca root||!gn c ks||!gv with
   |true=>grind
   |false=>
   simp only [pz,cond_false] at rq;simp at pz;have ⟨⟨⟨hm,hr⟩,ll⟩,hg⟩:=pz;have ⟨ls,ps,ht,DJ⟩:=CO rq;simp only [xm] at DJ;have ⟨x,hx,S1⟩:=ng DJ;unfold gW at S1;split at S1;rotate_left
   .simp at S1
   have hB:e2.B root=e.B root:=(x2.on.B root trivial).trans (x1.on.B root trivial);let Z2:Nat->Prop:=λb=>w.heap.size<=b\/gone e2 root ps b;have GR:m1.length=pos:=by rw [<-r1.length,List.length_take];omega
   have auc:e2.key=c.key:=h2.key;have ⟨f,hx,hg0,zh,bF⟩:=S2 hg _ _ hx;have di:cv c Z2 e2.φ w (c.key f) vs (m1++ .cell (.func off ls)::m2):=by
    simp only [cv,hg0,if_true];refine .inr (.inr ⟨pos,ks,ko,off,ls,e2.B root,zh,by grind,by grind,?_,(Jq h2 hf hm ll ht).wide λb hb=> .inr hb⟩);rw [List.set_append_right _ _ aah,GR,Nat.sub_self,List.set_cons_zero,JA];refine aL.append ?_ ⟨v,vs.drop (pos+1),rfl,?_,?_⟩
    .have:=r1.mono x2.on.φ;grind [h1.key]
    .rw [hvp];exact ⟨rfl,.rp (e.B root) off [] [] .nil aaS⟩
    .grind
   have uW:=hS f _ _ hx e2.φ w Z2 vs (λb hb=> .inl hb) di h2.jU;refine ⟨hg,?_⟩;have Iq:vs.toArray=cl.args.map a.eval:=by rw [DH,<-aei,ad7]
   refine sW ?_ uW ?_
   .grind
   .rintro v' w' ⟨φ',t1,t2,pk,pos',ks',ko',aQ,Tg,zf,VI,hc⟩;rw [zh] at zf;simp at zf;have ⟨rfl,rfl,rfl⟩:=zf;rw [hv,hvp] at VI;simp at VI;have n9:aQ=e2.B root:=by rw [<-VI.1,hB]
    subst n9;have ⟨e3,jQ,h3,hφ3,hK5⟩:=abi h2 hf hm hr ht (λb=>Iff.rfl) t1 t2 hc S1;have xj:Trans Z e.φ w φ' w':=by
     have t0:Trans Z e2.φ w φ' w':=by have zY: ∀b,Z2 b->Z.In b:=λb hb=>hb.elim (h2.bI b) (D9 h2 hf hr ht b);exact ⟨t1.ph,λb hb=>t1.heap b (λhz=>hb (zY b hz)),λb o hb=>t1.free b o (λhz=>hb (zY b hz)),t1.size,t1.rest⟩
     exact (x1.tr.trans x2.tr).trans t0
    cases oI with
    |none=>have ⟨e4,st4,q1,q2,q3⟩:=bV (v:=v') (s:= .sc .un) h3 (.of (by simp [af]) trivial) hK5;exact ⟨e4,st4,q1,by grind,q2⟩
    |some I=>obtain ⟨s,g1,g2,hK6⟩:=rX (e:=e3) (st:=jQ) h3.key (by rw [hφ3];exact pk) hK5;have ⟨e4,st4,q1,q2,q3⟩:=bV h3 (.of g1 g2) hK6;exact ⟨e4,st4,q1,by grind,q2⟩
  grind
 .simp at hK
def aeV {cl:Call}{f pos:Nat}{ks ko:List LK}{oI:Option TI}(hS:Sound P c)(zh:c.sig (c.key f)=some (pos,ks,ko))(ho:o.op= .call cl)(BP:cl.callee= .value (.func f))(h:bC c Z e st a w)(hK:aaj c (c.key f) pos ks ko st (jh c st cl.args.toList) oI (λs st=>aR c st o.dst s K)=some r): c.bK (c.key f)=true/\o.wp P a w (λa' w'=>Out c Z K r e.φ w a' w') Q:=Jz hS (λhg ms x hx=>⟨f,hx,hg,zh,by simp_all [execOp,resolve,Act.eval,aen,invoke]⟩) h hK
theorem O0: ∀{l m:List LK},VF l m=true->l=m
 |[],[],_=>rfl
 | .k k1::r,.k k2::q,h=>by simp only [VF,sh] at h;rw [O0 h.2];have h1:=h.1;cases k1<;>cases k2<;>simp [kdB,kB] at h1<;>first|rfl|(subst h1;rfl)|grind
 | .own f t z::r,.own f' t' z'::q,h=>by simp only [VF,sh,eQ,decide_eq_true_eq,beq_iff_eq] at h;have ⟨rfl,rfl,rfl,h⟩:=h;rw [O0 h]
 |[],_::_,h=>by grind [VF]
 | .k _::_,[],h=>by grind [VF]
 | .k _::_,.own _ _ _::_,h=>by grind [VF]
 | .own _ _ _::_,[],h=>by grind [VF]
 | .own _ _ _::_,.k _::_,h=>by grind [VF]
def abk {pos:Nat}{ks ko:List LK}{l:List Nat}(h:Qy c pos ks ko l=true): ∀k∈l,c.sig k=some (pos,ks,ko)/\c.bK k=true:=by
 induction l with
 |nil=>simp
 |cons x l ih=>
  simp only [Qy,sh] at h;have ⟨h1,h2,h3⟩:=h;intro k hk;rcases AT.1 hk with rfl|hk
  .cases hs:c.sig k with
   |none=>grind
   |some sg=>grind [bo,O0]
  grind
def ajp {R:Type}{r:R}{l:List Nat}{k:Nat}{K:Nat->Option R}(h:L2 l k K=some r):k∈l/\K k=some r:=by
 induction l with
 |nil=>grind [L2]
 |cons p l ih=>
  cases l with
  |nil=>grind [L2,AI,bo]
  |cons q l=>grind [L2,AI,ab3,bo]
def aeW {cl:Call}{x:Operand}{Xl:List Nat}{oI:Option TI}(hS:Sound P c)(ho:o.op= .call cl)(BP:cl.callee= .value x)(h:bC c Z e st a w)(hK:aak c Xl st (az c st x) (jh c st cl.args.toList) oI (λs st=>aR c st o.dst s K)=some r): o.wp P a w (λa' w'=>Out c Z K r e.φ w a' w') Q:=by
 have ⟨hx,_⟩:=h.eval x;generalize az c st x=s at hx hK;unfold aak at hK;split at hK
 .rename_i m k0 amN;cases hs0:c.sig k0 with
  |none=>grind
  |some sg=>
  have ⟨pos,ks,ko⟩:=sg;simp only [hs0] at hK;cases S0:Qy c pos ks ko (k0::amN) with
  |false=>grind
  |true=>
  simp only [S0,cond_true] at hK;unfold SR at hK;split at hK
  .rename_i f aJ;cases aJ with
   |cons=>grind [gN]
   |nil=>
   have ⟨f',cap,hv,Fs,CL,j0⟩: ∃(f':Nat) (cap:Array Value),a.eval x= .func (.func f') #[] cap/\e.key f'=f/\fq e.key e.φ cap.toList []/\ ∀m∈([]:List MV),m.one=true:=by have ⟨_,hx⟩:=hx;generalize DH:[a.eval x]=vs at hx;cases hx;grind
   have aud:cap= #[]:=by generalize hl:cap.toList=l at CL;cases CL;exact ad3.1 hl
   have ahz:c.key f'=f:=by rw [<-h.key];exact Fs
   exact (Jz hS (λ_ ms y hy=>by have ⟨hm,hy⟩:=ajp hy;have ⟨h1,h2⟩:=abk S0 f hm;refine ⟨f',by grind,by grind,by grind,?_⟩;grind [execOp,resolve,aen,invoke]) h hK).2
  .simp at hK
 .simp at hK
theorem aeX {y t:Nat}(h:isLT c y=true):Td c y t=false:=by
 unfold isLT at h;unfold Td;cases hy:c.tv y with
 |none=>rfl
 |some Y=>
  rw [hy] at h;cases c.tv t with
  |none=>rfl
  |some I=>
   have h:Y.GN=true:=h;have:Y.Z7=false:=by unfold TI.GN at h;unfold TI.Z7;split at h<;>simp_all
   simp [this]
theorem amP {y t:TypeId}{x:Operand}(ho:o.op= .convert y t x)(hb:Td c y t=true)(hT:fw P c.ti)(h:bC c Z e st a w)(hK:(match az c st x with| .sc (.p (.s l))=>aR c st o.dst (.sc (.p (.list (IV l)))) K|_=>none)=some r): o.wp P a w (λa' w'=>cq w w'/\Out c Z K r e.φ w a' w') Q:=by
 unfold Td at hb;split at hb;rotate_left
 .cases hb
 rename_i Y I hY hI;split at hb;rotate_left
 .simp at hb
 rename_i E hE;simp at hb;have ⟨⟨ru,hL⟩,hU⟩:=hb;have ⟨hYi,_⟩:=aM hY;have ⟨lC,hc⟩:=aM hI;have ⟨mn,nR⟩:=aM hE;have ⟨hu,E2,DI,_,fj⟩:=TI.kK (hT t I lC) hL;have hd:=TI.Fp (hT y Y hYi) ru;have ⟨he,uw⟩:=OL (hT _ E mn) hU;have ⟨hx,_⟩:=h.eval x;split at hK;rotate_left
 .cases hK
 rename_i l Ty;rw [Ty] at hx;obtain ⟨b,hb3,rfl⟩:=DV hx;have hr0:=run_bytes_of_string (P:=P) w y t I.elem b hd hu he;have ⟨C,hC⟩: ∃C,C=grownCap w b.size 0 I.elem:=⟨_,rfl⟩
 rw [<-hC] at hr0;have ⟨W,hW⟩: ∃W,W=w.drew.alloc (.cells (bytesRow b C) I.elem ((bytesRow b C).size,(bytesRow b C).size+1)):=⟨_,rfl⟩
 rw [<-hW] at hr0;have bF:(execOp a.eval o).run P w= .ok (.value (.slice (some ⟨w.heap.size,0,none⟩) b.size C)) W:=by simp [execOp,ho,hb3,hr0]
 have ja:W.heap[w.heap.size]? =some (.cells (bytesRow b C) I.elem ((bytesRow b C).size,(bytesRow b C).size+1)):=by rw [hW];exact fL w.drew _
 have hg:cq w W:=by rw [hW];exact ⟨aaS,λk hk=>nb w.drew _ k hk,⟨rfl,rfl,rfl⟩⟩
 have QR: ∀off,e.φ w.heap.size off=none:=by
  intro off;cases hp:e.φ w.heap.size off with
  |none=>rfl
  |some u=>have:=agc w _ (h.jU _ _ _ hp);simp at this
 have ⟨flat,hfl⟩: ∃flat:List Value,flat=b.data.toList.map λx=>ain .u8 (x.toNat:Int):=⟨_,rfl⟩
 have HH: ∀off,off<flat.length->(bytesRow b C)[off]? =flat[off]? :=by intro off ho;unfold bytesRow;rw [aeh (by grind),hfl,Array.getElem?_map,aef,Array.getElem?_toList]
 have hle:gx e.φ (λk off=>if k=w.heap.size/\off<flat.length then flat[off]? else e.φ k off):=by
  intro k off u hu;by_cases QU:k=w.heap.size
  .grind
  .grind
 have iu: ∀k off u,(λk off=>if k=w.heap.size/\off<flat.length then flat[off]? else e.φ k off) k off=some u->W.cell? ⟨k,off,none⟩=some u:=by
  intro k off u hu;by_cases QU:k=w.heap.size/\off<flat.length
  .grind [World.cell?]
  .simp only [QU,if_false] at hu;exact hg.cell (h.jU k off u hu)
 have lm:=(h.grow hg).aht hle iu (by
   intro t2 Ih ht off;have Il:=h.slot t2;rw [ht] at Il;have ⟨o2,h1,_⟩:=Il.2.obj;grind)
  (by
   intro f o2 k cV Cf off;have ⟨J,vQ,_,_,h3,_⟩:=(h.fJ f o2 cV).row;rcases h3.2 with ⟨h1,_⟩|⟨g,cap,cD,h1,_,h4,_⟩
   .grind [AS]
   .simp [AS] at Cf;grind)
 have LX:(IV b.data.toList).length=b.size:=by unfold IV;rw [aeY];rfl
 refine Tq (s:= .sc (.p (.list (IV b.data.toList)))) hg bF lm ?_ (.of ?_ trivial) hK
 .refine ⟨hle,λk hz LX=>hg.qo k LX,λk off hz=> ?_,hg.size,hg.rest⟩;have dt: ¬k=w.heap.size:=by intro ZM;subst ZM;exact hz (h.bI _ (aeP _))
  simp [dt]
 .rw [<-LX];refine ⟨rfl,VO (size:=1) (cells:=flat) ?_ ?_ (by grind)⟩;all_goals grind [OM,grownCap_ge]
def TP {k:IntKind}: ∀{xs:List MV} {K':List Int->Option R},VD k xs K'=some r-> ∃ns:List Int,xs=ns.map (MV.i k)/\K' ns=some r:=by
 intro xs;induction xs with
 |nil=>intro K' h;exact ⟨[],rfl,h⟩
 |cons m xs ih=>intro K' h;simp only [VD] at h;unfold gI at h;grind
def ajq {t:TypeId}{x:Operand}{I:TI}(ho:o.op= .sliceToArrayPointer t x)(hI:c.tv t=some I)(hT:fw P c.ti)(h:bC c Z e st a w)(hK:aiI st I (az c st x) (λs st=>aR c st o.dst s K)=some r):o.wp P a w (Out c Z K r e.φ w) Q:=by
 have ⟨lC,hc⟩:=aM hI;have ⟨hx,_⟩:=h.eval x;unfold aiI at hK;split at hK;rotate_left
 .cases hK
 rename_i k m eh hl;have ⟨e1,cz,y,h1,x1,_,hy,hK⟩:=lE h hx hK;unfold gL at hK;split at hK;rotate_left
 .cases hK
 have ⟨hlen,hK⟩:=cN hK;have hlen:=of_decide_eq_true hlen;obtain ⟨ns,rfl,hK'⟩:=TP hK;replace hK:=hK';have ⟨d,i,hu,h2,h3,h4⟩:=hT t I lC;cases d<;>simp only [qD,hl,eh] at h4<;>first|(exfalso;simp_all;done)|skip
 obtain ⟨_,_,_,_,kk,mm,rfl,_,ze,_⟩:=h4;simp at ze;have ⟨rfl,rfl⟩:=ze;have ⟨_,hy⟩:=hy;generalize hv:[a.eval x]=vs at hy;cases hy with
 |list ad cap _ aQ off Fe f Ij SW ZH h4' h5'=>
 simp at hv;simp only [aeY] at hlen Ij SW ZH h4' h5' hv;have qE: ∀j (hj:j<ns.length),e1.φ aQ (off+j)=some (.int k ns[j]):=by
  intro j hj;have h6:=h5' j hj;simp only [List.getElem_map] at h6;have hf:f j=[.int k ns[j]]:=by generalize f j=u at h6;cases h6;rfl
  have hf0:(f 0).length=Fe:=ZH 0 aah;have hfj:=ZH j hj;rw [hf] at hfj;have h7:=h4' j 0 hj (by rw [<-hfj];simp);rw [hf,<-hfj] at h7;simpa using h7
 refine fin (v:= .pointer ad) (s:= .rp [.hs k m (ns.take (m+2))] 0) ?_ h1 x1.tr (.of ?_ trivial) hK
 .have: ¬ns.length<m+2:=aah
  simp [execOp,ho,hv,Instr.arrayAt,run_underlying hu,this]
 .refine ⟨aQ,off,bE k (ns.take (m+2)),by grind,⟨_,[],aaS,⟨rfl,by simp;omega⟩,rfl⟩,rfl,λj hj=> ?_⟩;have hj2:j<m+2:=by simpa [cA] using ahI hj (by grind [cA])
  rw [qE j aah,xr k _ j (by simp;omega)];grind
end
section
variable {P:Program}{c:Ctx}{Z Z':bn}{e e':Env}{st:St}{a:Act}{w w':World}{R:Type}{K:St->Option R}{r:R}{Q:Exit->Act->World->Prop}{o:Oper}{Zi:bn}{bG:St}
structure Good (P:Program) (c:Ctx):Prop where
 ti:fw P c.ti
 eq:QK P c.ti
 fn:Sound P c
 fk: ∀t k,c.fk t=some k->P.underlying t=some (.float k)
 mt:z1 P c
def TQ (c:Ctx)(o:Oper):Option MS:=match zN o with|some t=>wj c t|none=>none
def dP (c:Ctx)(o:Oper) (w w':World):Prop:=match TQ c o with|some s=>yQ s w w'|none=>cq w w'
theorem cq.trans' {w w' Fo:World}(h:cq w w') (h':cq w' Fo):cq w Fo:=⟨ahe h.size h'.size,λb hb=>(h'.qo b (ahI hb h.size)).trans (h.qo b hb),h.rest.trans h'.rest⟩
theorem cq.for {w w':World}(h:cq w w'):dP c o w w':=by
 unfold dP;split
 .exact h.m _
 .exact h
theorem dP.trans {w w' Fo:World}(h:dP c o w w') (h':dP c o w' Fo):dP c o w Fo:=by unfold dP at *;grind [yQ.trans,cq.trans']
inductive pI (P:Program) (c:Ctx) (Z:bn) {R:Type} (K:St->Option R) (r:R) (e:Env) (a:Act) (w:World) (o:Oper) (Q:Exit->Act->World->Prop):Prop
 |rd:(jq c o=false/\eY c o=false)->Rd P c Z K r e a w o (λ_=>True)->pI P c Z K r e a w o Q
 |ld:(jq c o=true/\eY c o=false)->ni e.φ w->Rd P c Z K r e a w o (λw'=>(still c o=false->dP c o w w')/\ni e.φ w')->pI P c Z K r e a w o Q
 |gr:(fK o=false\/eY c o=true)->o.wp P a w (λa' w'=>cq w w'/\Out c Z K r e.φ w a' w') Q->pI P c Z K r e a w o Q
 |cl (f:Nat):(fK o=false/\zd c o=!c.bK (c.key f))->o.wp P a w (λa' w'=>(c.bK (c.key f)=false->cq w w')/\Out c Z K r e.φ w a' w') Q->pI P c Z K r e a w o Q
 |an:(fK o=false/\zd c o=false)->o.wp P a w (Out c Z K r e.φ w) Q->pI P c Z K r e a w o Q
 |me (t:Nat) (s:MS):aao o=some t->wj c t=some s->(fK o=false/\zd c o=false)->o.wp P a w (λa' w'=>yQ s w w'/\Out c Z K r e.φ w a' w') Q->pI P c Z K r e a w o Q
theorem TR (hG:Good P c)(h:bC c Z e st a w)(hK:opK c o st (λs st=>aR c st o.dst s K)=some r):pI P c Z K r e a w o Q:=by
 have hT:=hG.ti;unfold opK at hK;split at hK
 .rename_i ho;exact .rd (by grind [jq,mR,eY]) (OH (.inl ho) h hK)
 .rename_i x ho;cases hm:eY c o with
  |true=>exact .gr (.inr hm) (aeQ ho h hK)
  |false=>refine .rd (by grind [jq,mR]) (OH (.inr ho) h ?_);unfold Ia at hK;grind [eY]
 .rename_i t ho;cases hs:wj c t with
  |none=>grind
  |some s=>simp only [hs] at hK;exact .an (by simp [fK,zd, *]) (TM ho (aeR hs) h hK)
 .rename_i t m k ho;unfold ahi at hK;cases hs:wj c t with
  |none=>grind
  |some s=>simp only [hs] at hK;have ⟨v,h1,h2⟩:=XG ho (hG.mt t s hs) h hK;refine .ld (by grind [jq,mR,eY]) h.jU ⟨v,λw' hw=>h1 w' ?_,h2⟩;grind [still,dP,TQ,zN]
 .rename_i t m k v ho;unfold ahj at hK;cases hs:wj c t with
  |none=>grind
  |some s=>simp only [hs] at hK;exact .an (by simp [fK,zd, *]) (OV ho (hG.mt t s hs) h hK)
 .rename_i t m k ho;unfold aag at hK;cases hs:wj c t with
  |none=>grind
  |some s=>simp only [hs] at hK;exact .me t s (by simp [aao,ho]) hs (by simp [fK,zd, *]) (GZ ho (hG.mt t s hs) h hK)
 .rename_i t m i v ho;unfold al5 at hK;cases hs:wj c t with
  |none=>grind
  |some s=>exact .an (by simp [fK,zd, *]) (by grind [Mn])
 .rename_i ho;exact .rd (by grind [jq,mR,eY]) (QI ho h hK)
 .rename_i ho;exact .rd (by grind [jq,mR,eY]) (aeq ho h hK)
 .rename_i t ho;cases hI:c.tv t with
  |none=>grind
  |some I=>simp only [hI] at hK;exact .gr (by grind [fK]) (aaG ho hI hT h hK)
 .rename_i t x ho;cases hI:c.tv t with
  |none=>grind
  |some I=>simp only [hI] at hK;exact .gr (by grind [fK]) (aiX ho h hK)
 .rename_i t parts ho;cases hI:c.tv t with
  |none=>grind
  |some I=>simp only [hI] at hK;exact .rd (by grind [jq,mR,eY]) (aaR ho hI hT h hK)
 .rename_i t n parts ho;cases hI:c.tv t with
  |none=>grind
  |some I=>
   simp only [hI] at hK;have ⟨hL,hK⟩:=ob hK;cases hE:c.tv I.elem with
   |none=>grind
   |some E=>
    simp only [hE] at hK;cases oa:ae8 (n *E.size) 16777216 with
    |false=>grind
    |true=>simp only [oa,cond_true] at hK;exact .gr (by grind [fK]) (Mj ho hI hL hE hT h oa hK)
 .rename_i t x y ho;cases hI:c.tv t with
  |none=>grind
  |some I=>
   simp only [hI] at hK;have ⟨hL,hK⟩:=ob hK;cases hE:c.tv I.elem with
   |none=>grind
   |some E=>simp only [hE] at hK;exact .gr (by grind [fK]) (OW ho hI hL hE hT h hK)
 .rename_i t x ho;cases hI:c.tv t with
  |none=>grind
  |some I=>
   simp only [hI] at hK;cases hs:still c o with
   |true=>
    simp only [hs,cond_true] at hK;split at hK
    .rename_i cs off Md;have ⟨v,h1,h2⟩:=aaE ho hI hT h Md hK;exact .ld (by grind [jq,mR,eY]) h.jU ⟨v,λw' hw=>h1 w' hw.2,h2⟩
    .simp at hK
   |false=>simp only [hs,cond_false] at hK;have ⟨v,h1,h2⟩:=aew ho hI hT h hK;refine .ld (by grind [jq,mR,eY]) h.jU ⟨v,λw' hw=>h1 w' ?_,h2⟩;grind [dP,TQ,zN]
 .rename_i t x y ho;cases hI:c.tv t with
  |none=>grind
  |some I=>simp only [hI] at hK;exact .an (by simp [fK,zd, *]) (aaO ho hI hT h hK)
 .rename_i op t x y t' ho;exact .rd (by grind [jq,mR,eY]) (aaC ho h hG.eq hK)
 .rename_i ho;exact .rd (by grind [jq,mR,eY]) (aes ho h hK)
 .rename_i s t x ho;cases hL:isLT c s with
  |true=>
   simp only [hL,cond_true] at hK;cases hY:c.tv s with
   |none=>grind
   |some Y=>
    cases hI:c.tv t with
    |none=>grind
    |some I=>simp only [hY,hI] at hK;have ⟨v,h1,h2⟩:=abb ho hY hI (by grind [isLT]) hT h hK;refine .ld (by grind [jq,mR,eY,aeX]) h.jU ⟨v,λw' hw=>h1 w' ?_,h2⟩;grind [still,dP,TQ,zN]
  |false=>
   simp only [hL,cond_false] at hK;cases hSB:Td c s t with
   |true=>simp only [hSB,cond_true] at hK;exact .gr (by grind [eY]) (amP ho hSB hT h hK)
   |false=>
   simp only [hSB,cond_false] at hK;cases hS:c.ti s with
   |none=>grind
   |some S=>
    simp only [hS] at hK;cases hI:c.tv t with
    |none=>grind
    |some I=>simp only [hI] at hK;have ⟨d,i,h1,_⟩:=hT s S hS;exact .rd (by grind [jq,mR,eY]) (Tt ho (aM hI).1 hT ⟨d,h1⟩ (hG.fk t) h hK)
 .rename_i t x ho;cases hI:c.tv t with
  |none=>grind
  |some I=>simp only [hI] at hK;exact .an (by simp [fK,zd, *]) (aba ho hI hT h hK)
 .rename_i x ho;exact .an (by simp [fK,zd, *]) (aeS ho h hK)
 .rename_i f first aJ ho
  split at hK
  .rename_i hf;have hf:first= #[]:=by apply ad3.1;simpa using hf
   subst hf;exact .rd (by grind [jq,mR,eY]) (QV ho h hK)
  .simp at hK
 .rename_i t x lo hi ho;cases hI:c.tv t with
  |none=>grind
  |some I=>simp only [hI] at hK;exact .rd (by grind [jq,mR,eY]) (aaK ho hI hT h hK)
 .rename_i t x y z ho;cases hI:c.tv t with
  |none=>grind
  |some I=>simp only [hI] at hK;exact .rd (by grind [jq,mR,eY]) (aeD ho hI hT h hK)
 .rename_i t x f ho;cases hI:c.tv t with
  |none=>grind
  |some I=>simp only [hI] at hK;exact .rd (by grind [jq,mR,eY]) (Xq ho hI hT h hK)
 .rename_i t x f ho;cases hI:c.tv t with
  |none=>grind
  |some I=>simp only [hI] at hK;exact .rd (by grind [jq,mR,eY]) (aiY ho hI hT h hK)
 .rename_i t x y ho;cases hI:c.tv t with
  |none=>grind
  |some I=>
   simp only [hI] at hK;cases hE:c.tv I.elem with
   |none=>grind
   |some E=>simp only [hE] at hK;exact .rd (by grind [jq,mR,eY]) (ai0 ho hI hE hT h hK)
 .rename_i t x y ho;cases hI:c.tv t with
  |none=>grind
  |some I=>exact .rd (by grind [jq,mR,eY]) (by grind [amc,aM])
 .rename_i ho;exact .rd (by grind [jq,mR,eY]) (aiW ho h hK)
 .rename_i t x ho;cases hI:c.tv t with
  |none=>grind
  |some I=>simp only [hI] at hK;exact .an (by simp [fK,zd, *]) (ajq ho hI hT h hK)
 .rename_i cl ho;split at hK
  .rename_i f BP;cases hsg:c.sig (c.key f) with
   |some sg=>simp only [hsg] at hK;obtain ⟨hg,hw⟩:=aeV hG.fn hsg ho BP h hK;exact .an (by grind [fK,zd]) hw
   |none=>
   simp only [hsg] at hK;cases hI:c.ti o.type with
   |none=>grind
   |some I=>simp only [hI] at hK;exact .cl f (by simp [fK,zd, *]) (aa1 hG.fn ho BP h hK)
  .rename_i x _ BP;cases hdy:c.dyn with
   |cons k0 Xl=>simp only [hdy] at hK;exact .an (by grind [fK,zd]) (aeW hG.fn ho BP h hK)
   |nil=>
   simp only [hdy] at hK;cases hI:c.ti o.type with
   |none=>grind
   |some I=>simp only [hI] at hK;exact .gr (by grind [fK]) (ajc hG.fn ho BP h hK)
  .split at hK
   .rename_i t Ql;cases hI:c.tv t with
    |none=>grind
    |some I=>exact .rd (by grind [jq,mR,eY]) (by grind [aiZ])
   .simp at hK
  .split at hK
   .rename_i s x t t' Md Ql;cases hI:c.tv t with
    |none=>grind
    |some I=>
     simp only [hI] at hK;cases hE:c.tv I.elem with
     |none=>grind
     |some E=>
      obtain ⟨so,xo,di,rfl,rfl⟩: ∃so xo,cl.args.toList=[so,xo]/\az c st so=s/\az c st xo=x:=by
       rw [gz] at Md;match hl:cl.args.toList,Md with
       |[so,xo],Md=>grind
       |[],Md=>simp at Md
       |[_],Md=>simp at Md
       |_::_::_::_,Md=>simp at Md
      exact .an (by grind [fK,zd]) (by grind [XC])
   .simp at hK
  .rw [gz] at hK;split at hK
   .rename_i m ol;cases hl:cl.args.toList with
    |nil=>grind
    |cons x xs=>
     rw [hl] at ol;simp at ol;obtain ⟨he,rfl⟩:=ol;unfold gCx at hK;split at hK
     .rename_i u v;have hx:=uT (by have:=(h.eval x).1;rw [he] at this;exact this);have hx':cl.args= #[x]:=by rw [<-ad3,hl]
      refine .rd (by grind [jq,mR,eY]) (gy h ?_ (Je (.float .f64 u) rfl) trivial hK);have hb: ∀ts ty,Builtin.real_ ts ty #[.complex .f64 u v]=pure (.float .f64 u):=λ_ _=>rfl;simp_all [execOp,resolve,invoke,builtin]
     .cases hK
   .cases hK
  .rw [gz] at hK;split at hK
   .rename_i m ol;cases hl:cl.args.toList with
    |nil=>grind
    |cons x xs=>
     rw [hl] at ol;simp at ol;obtain ⟨he,rfl⟩:=ol;unfold gCx at hK;split at hK
     .rename_i u v;have hx:=uT (by have:=(h.eval x).1;rw [he] at this;exact this);have hx':cl.args= #[x]:=by rw [<-ad3,hl]
      refine .rd (by grind [jq,mR,eY]) (gy h ?_ (Je (.float .f64 v) rfl) trivial hK);have hb: ∀ts ty,Builtin.imag_ ts ty #[.complex .f64 u v]=pure (.float .f64 v):=λ_ _=>rfl;simp_all [execOp,resolve,invoke,builtin]
     .cases hK
   .cases hK
  .rw [gz] at hK;split at hK
   .rename_i u v ol;match hl:cl.args.toList,ol with
    |[x,y],ol=>
     simp at ol;have hx:=uT (by have:=(h.eval x).1;rw [ol.1] at this;exact this);have hy:=uT (by have:=(h.eval y).1;rw [ol.2] at this;exact this);have hx':cl.args= #[x,y]:=by rw [<-ad3,hl]
     refine .rd (by grind [jq,mR,eY]) (gy h ?_ (Je (.complex .f64 u v) rfl) trivial hK);have hb: ∀ts ty,Builtin.complex_ ts ty #[.float .f64 u,.float .f64 v]=pure (.complex .f64 u v):=λ_ _=>rfl;simp_all [execOp,resolve,invoke,builtin]
    |[],ol=>simp at ol
    |[_],ol=>simp at ol
    |_::_::_::_,ol=>simp at ol
   .cases hK
  .cases hm:Tb false (jh c st cl.args.toList) with
   |none=>grind
   |some m=>exact .rd (by grind [jq,mR,eY]) (by grind [Nh])
  .cases hm:Tb true (jh c st cl.args.toList) with
   |none=>grind
   |some m=>exact .rd (by grind [jq,mR,eY]) (by grind [Nh])
  .simp at hK
 .simp at hK
theorem pI.wp (h:pI P c Z K r e a w o Q):o.wp P a w (Out c Z K r e.φ w) Q:=by
 cases h with
 |rd _ h=>exact h.wp trivial
 |ld _ hi h=>exact h.wp ⟨λ_=>(cq.refl w).for,hi⟩
 |me _ _ _ _ _ h=>grind [ahl]
 |gr _ h=>grind [ahl]
 |cl f _ h=>grind [ahl]
 |an _ h=>exact h
def pI.arx (h:pI P c Z K r e a w o Q)(hr:fK o=true)(hv:eY c o=false):Rd P c Z K r e a w o (λw'=>jq c o=true->(still c o=false->dP c o w w')/\ni e.φ w'):=by
 cases h with
 |rd hl h=>grind
 |ld hl _ h=>grind
 |gr hn h=>grind
 |me _ _ _ _ hn h=>grind
 |cl f hn h=>grind
 |an hn h=>grind
def pI.ary (h:pI P c Z K r e a w o Q)(hr:fK o=true\/zd c o=true):o.wp P a w (λa' w'=>cq w w'/\Out c Z K r e.φ w a' w') Q:=by
 have rd: ∀G:World->Prop,G w->Rd P c Z K r e a w o G->o.wp P a w (λa' w'=>cq w w'/\Out c Z K r e.φ w a' w') Q:=by rintro G hG ⟨v,h1,h2⟩;unfold aiR;rw [h1 w hG,aho];exact ⟨.refl w,h2⟩
 cases h with
 |rd hl h=>grind
 |ld _ hi h=>exact rd _ ⟨λ_=>(cq.refl w).for,hi⟩ h
 |me _ _ _ _ hn h=>grind
 |gr hn h=>exact h
 |cl f hn h=>grind
 |an hn h=>grind
def amR (hG:Good P c)(h:bC c Z e st a w)(hK:opK c o st (λs st=>aR c st o.dst s K)=some r){oi:Oper}(hr:uO oi o=true):o.wp P a w (λa' w'=>dP c oi w w'/\Out c Z K r e.φ w a' w') Q:=by
 unfold uO at hr;split at hr
 .rename_i t t' h1 h2;have ht:=bo hr;have hme: ∃m k,o.op= .mapEntry t m k:=by
   unfold aao at h2;split at h2
   .grind
   .cases h2
  have ⟨m,k,ho⟩:=hme;unfold opK at hK;simp only [ho] at hK;unfold aag at hK;cases hs:wj c t with
  |none=>grind
  |some s=>simp only [hs] at hK;refine ahl (λa w h=>⟨?_,h.2⟩) (GZ ho (hG.mt t s hs) h hK);grind [dP,TQ]
 .cases hr
def bC.frame {xi:Fr}(h:bC c Z e st a w)(hf: ∀t,ap xi t=ap st.fr t)(hn:(aG xi).Nodup):bC c Z e {st with fr:=xi} a w:=by
 have hr: ∀s,cM st.fr s->cM xi s:=by intro s hs;cases s<;>simp only [cM,hf] at hs⊢ <;>exact hs
 exact ⟨h.defers,h.size,h.m,h.key,hn,λt=>by rw [hf];exact h.slot t,λt=>by rw [hf];exact hr _ (h.root t),h.fJ,λt t' cs gl h1 h2=>h.bb t t' cs gl (by grind) (by grind),λt cs f o h1=>h.bf t cs f o (by grind),h.ff,h.jU,h.bI⟩
def bC.reset {t:Nat}{s:Slot}(h:bC c Z e st a w)(hs:ap st.fr t=s):bC c Z e {st with fr:=dM st.fr t s} a w:=by refine h.frame (λt'=> ?_) (dg h.nodup);grind [bA]
def Q8 {ops:Array Oper} {K':Bool->St->Option R}(h:bC c Z e st a w)(hK:Tf ops.toList o st K'=some r): ∃bG go,bC c Z e bG a w/\K' go bG=some r/\aia o (yielded ops a.tmps)=go:=by
 unfold Tf at hK;unfold aia;cases hg:o.guard with
 |none=>grind
 |some jw=>
  have ⟨j,want⟩:=jw;simp only [hg] at hK;cases hp:ops.toList[j]? with
  |none=>grind
  |some p=>
   simp only [hp] at hK;have VL:ops[j]? =some p:=by simpa using hp
   cases hd:p.dst with
   |none=>grind
   |some t=>
    simp only [hd] at hK;have nA:=h.slot t;split at hK
    .rename_i v hv;rw [hv] at nA;have aa8:a.tmps.getD t undef= .bool v:=Nc nA;have hy:yielded ops a.tmps j=some v:=by
      unfold yielded;have:a.tmps[t]? =some (.bool v):=by
       rw [ad2] at aa8;cases ht:a.tmps[t]? with
       |none=>grind [undef]
       |some u=>grind
      simp [VL,hd,this]
     cases v<;>simp only [kU] at hK
     .exact ⟨_,_,h.reset hv,hK,by grind⟩
     .exact ⟨_,_,h.reset hv,hK,by simp_all⟩
    .rename_i hv;rw [hv] at nA;simp only [dy,af] at nA;have hy:yielded ops a.tmps j=none:=by
      unfold yielded;rw [ad2] at nA;cases ht:a.tmps[t]? with
      |none=>grind
      |some u=>grind [undef]
     grind
    .simp at hK
def VY {ops:Array Oper}{i:Nat}(hG:Good P c)(hi:ops[i]? =some o)(h:bC c Z e st a w)(hK:aal c ops.toList o st K=some r): wpOp P ops Q i (Out c Z K r e.φ w) a w:=by
 have ⟨bG,go,h',hK,hw⟩:=Q8 h hK;unfold wpOp;simp only [hi];rw [hw];cases go with
 |true=>exact .inl (TR hG h' hK).wp
 |false=>have ⟨e2,cj,h1,h2,h3⟩:=bV (v:=undef) (s:= .skip) h' ⟨rfl,trivial⟩ hK;exact ⟨e2,cj,h1,by rw [h3];exact .refl _ _ _,h2⟩
def ajr {ops:Array Oper}{is:List Nat}(hG:Good P c): ∀{os:List Oper} {e:Env} {st:St} {a:Act} {w:World},is.map (ops[·]?)=os.map some->bC c Z e st a w->DN c ops.toList os st K=some r-> ∀{φ0:Ph} {w0:World},Trans Z φ0 w0 e.φ w->(∀a' w',Out c Z K r φ0 w0 a' w'->Q .normal a' w')->wpOps P ops Q is a w:=by
 induction is with
 |nil=>
  intro os e st a w hm h hK φ0 w0 ht hQ;cases os with
  |nil=>exact hQ a w ⟨e,st,h,ht,hK⟩
  |cons=>simp at hm
 |cons i is ih=>
  intro os e st a w hm h hK φ0 w0 ht hQ;cases os with
  |nil=>simp at hm
  |cons o os=>simp at hm;refine wpOp_mono ?_ (VY hG hm.1 h hK);rintro a' w' ⟨e2,cj,h1,h2,h3⟩;exact ih hm.2 h1 h3 (ht.trans h2) hQ
def XI {fs:List Nat}: ∀{e:Env} {st:St},bC c Z e st a w->(∀f∈fs,∀o,aB st.aF f=some o->f∉Z.ch\/o.fH=true)-> ∃φ' m',gx e.φ φ'/\(∀b off,¬Z.In b->φ' b off=e.φ b off)/\bC c Z {e with φ:=φ',m:=m'} {st with aF:=m'} a w/\ (∀f,aB m' f=(aB st.aF f).map λo=>if f∈fs then ⟨o.ty,true,o.xs⟩ else o)/\ (∀f∈fs,∀o I cells,aB st.aF f=some o->c.ti o.ty=some I->w.ownsRow 0 o.ty I.size (e.E f) o.xs.length cells-> ∀aQ,(e.E f).ownBlock=some aQ-> ∀j,j<cells.length->φ' aQ j=cells[j]?):=by
 induction fs with
 |nil=>
  intro e st h _;refine ⟨e.φ,st.aF,.refl _,λ_ _ _=>rfl,?_,(by simp_all),λf hf=>by simp at hf⟩;have hm:e.m=st.aF:=h.m;have he:({e with φ:=e.φ,m:=st.aF}:Env)=e:=by cases e;simp at hm⊢;exact hm.symm
  simp_all
 |cons g gs ih=>
  intro e st h hp;cases hg:aB st.aF g with
  |none=>grind
  |some og=>
   obtain ⟨φ1,k1,k2,k3,_,k5⟩:=freeze h hg (hp g aaS og hg);obtain ⟨φ',m',h1,h2,h3,h4,h5⟩:=ih k3 (by intro f hf o ho;have ho:aB (ct st.aF g ⟨og.ty,true,og.xs⟩) f=some o:=ho;rw [aW] at ho;grind);refine ⟨φ',m',k1.trans h1,(by grind),h3,λf=> ?_,λf hf o I cells ho hI dI aQ hb j hj=> ?_⟩
   .rw [h4];show Option.map _ (aB (ct st.aF g ⟨og.ty,true,og.xs⟩) f)=_;grind [aW]
   .by_cases hfg:f=g
    .subst hfg;rw [hg] at ho;cases ho;exact h1.DP (by grind) hj
    .rcases AT.1 hf with rfl|hf
     .grind
     .refine h5 f hf o I cells ?_ hI dI aQ hb j hj;show aB (ct st.aF g ⟨og.ty,true,og.xs⟩) f=_;simp_all [aW,if_neg]
end
def uY {l k:List Nat}(h:meets l k=false): ∀x∈l,x∉k:=by
 induction l with
 |nil=>simp
 |cons y l ih=>
  simp only [meets] at h;cases hm:bB k y with
  |true=>grind
  |false=>grind [bm]
theorem JB {ks:List Nat}{r:Fr}: ∀t∈aG (oe ks r),t∈ks:=by
 induction r with
 |nil=>simp [aG,oe]
 |cons p r ih=>
  have ⟨k,x⟩:=p;simp only [oe];cases hb:bB ks k&&!df x with
  |false=>grind
  |true=>
   intro t ht;simp only [cond_true,aG,aic,AT] at ht;rcases ht with rfl|ht
   .grind [bm]
   .exact ih t ht
def Nu {qs:List Nat}{r:Fr}:aG (Tk qs r)=aG r:=by simp [aG,Tk]
def G4 {ks fs qs:List Nat}{m:List (Nat×n8)}{f:Nat}: aB (sL ks fs qs m) f=if f∈ks then (aB m f).map λo=>if f∈fs/\f∉qs then ⟨o.ty,true,o.xs⟩ else o else none:=by
 induction m with
 |nil=>simp [sL,aB]
 |cons p m ih=>
  have ⟨k,o⟩:=p;simp only [sL];by_cases hk:k=f
  .cases hm:bB ks k with
   |false=>
    have:k∉ks:=by rw [<-bm,hm];simp
    grind
   |true=>
    cases hc:bB fs k&&!bB qs k with
    |true=>grind [bm,aB,eQ]
    |false=>grind [bm,bB,absurd,aB,eQ]
  .cases hm:bB ks k with
   |false=>simp_all [cond_false,aB,eQ,decide_false]
   |true=>simp only [cond_true,aB,eQ,hk,decide_false,cond_false];grind
def uZ (m n:List (Nat×n8))(f:Nat):aB (m++n) f=(match aB m f with|some o=>some o|none=>aB n f):=by
 induction m with
 |nil=>simp [aB]
 |cons p m ih=>grind [aB,eQ]
def rv:Slot->List ax
 | .sc l=>[l]
 | .ag cs=>cs
 | .tg cs=>cs
 | .box cs=>cs
 |_=>[]
section
variable {P:Program}{c:Ctx}{Z Zb Zi:bn}{e e':Env}{st bG B:St}{a a':Act}{w w':World}{R:Type}{K:St->Option R}{r:R}{Q:Exit->Act->World->Prop}{o:Oper}{hn:eE}{e3:Env}{jQ:St}
structure wA (c:Ctx) (Zb Zi:bn) (e:Env) (B:St) (hn:eE) (a:Act) (w:World):Prop where
 sU:bC c Zb e B a w
 sub: ∀b,Zi.In b->Zb.In b
 new: ∀b,w.heap.size<=b->Zi.In b
 ca: ∀t∈Zb.ca,t∈Zi.ca
 T: ∀t∈Zi.ca,a.tmps.getD t undef=Zi.T t
 keys: ∀t∈aG B.fr,t∈Zi.ca
 box: ∀t cs,ap B.fr t= .box cs-> ¬Zi.In (e.B t)
 fJ: ∀f o b,aB B.aF f=some o->(e.E f).ownBlock=some b-> ¬Zi.In b
 ajs: ∀t∈du hn.all,t∉Zb.ca/\t∉Zi.ca
 aeZ: ∀f∈bO hn.all,f∉Zb.ch/\aB B.aF f=none
 ptr: ∀t,df (ap B.fr t)=false
 men: ∀t f,ax.own f∈rv (ap B.fr t)->f∉bO hn.all
def wA.later {φ':Ph}(h:wA c Zb Zi e B hn a w)(ht:Trans Zi.In e.φ w φ' w')(hi:ni φ' w')(hd:a'.defers=[])(hs:a'.tmps.size=c.n)(hT: ∀t∈Zi.ca,a'.tmps.getD t undef=Zi.T t): wA c Zb Zi {e with φ:=φ'} B hn a' w':=by
 have h1:=h.sU.called (Z':=Zi.In) h.sub h.box h.fJ ht hi;refine ⟨?_,h.sub,λb hb=>h.new b (ahe ht.size hb),h.ca,hT,h.keys,h.box,h.fJ,h.ajs,h.aeZ,h.ptr,h.men⟩;have kW: ∀t∈Zi.ca,a'.tmps.getD t undef=a.tmps.getD t undef:=λt ht=>(hT t ht).trans (h.T t ht).symm;refine ⟨⟨hd,h1.defers.2.1,h1.defers.2.2.1,λt ht=>(kW t (h.ca t ht)).trans (h1.defers.2.2.2 t ht)⟩,hs,h1.m,h1.key,h1.nodup,?_,h1.root,h1.fJ,h1.bb,h1.bf,h1.ff,h1.jU,h1.bI⟩;intro t;by_cases hk:t∈aG B.fr
 .rw [kW t (h.keys t hk)];exact h1.slot t
 grind [sw,dy,af]
theorem XJ {K2:St->St->Option R}(h:bC c Z e st a w)(hK:Th c hn st K2=some r): ∃Zi e1 e2 cz cj,bC c Zi e1 cz a w/\Trans Z.In e.φ w e1.φ w/\e2.φ=e1.φ/\e2.key=e1.key/\wA c Z Zi e2 (CC st cj) hn a w/\wA c Zi Zi e2 cj hn a w/\(∀b,Zi.In b->Z.In b)/\et c hn.all=true/\K2 cz cj=some r:=by
 obtain ⟨p,q,fr,m⟩:=st;unfold Th at hK;simp only [xm,aem,aiO,aay] at hK;obtain ⟨XK,hK⟩:=oz hK;simp only [IT,afh] at XK;obtain ⟨⟨⟨⟨m0,m1⟩,m2⟩,m3⟩,m4⟩:=XK;have m1:=uY m1;have m2:=uY m2;have m3:=uY m3;have m4:=uY m4;have hpq:p=Z.ca/\q=Z.ch:=⟨h.defers.2.1,h.defers.2.2.1⟩
 let mp:=sL hn.ch hn.fH q m;let mo:=sL (bO hn.all) hn.fH q m;let rp:=Tk hn.ch (oe hn.ca fr);let ro:=oe (du hn.all) fr;let fs:=hn.ch.filter λf=>match aB mp f with|some o=>o.fH|none=>false
 have Ff: ∀f o,aB mp f=some o->f∈hn.ch/\ ∃o0,aB m f=some o0/\o0.ty=o.ty/\o0.xs=o.xs/\(o0.fH=true->o.fH=true)/\(f∈q->o=o0):=by
  intro f o ho;have ho:aB (sL hn.ch hn.fH q m) f=some o:=ho;rw [G4] at ho;split at ho
  .cases h0:aB m f with
   |none=>grind
   |some o0=>grind
  .cases ho
 have hmo: ∀f o,aB mo f=some o->f∈bO hn.all/\ ∃o0,aB m f=some o0/\o0.ty=o.ty/\o0.xs=o.xs/\(o0.fH=true->o.fH=true):=by
  intro f o ho;have ho:aB (sL (bO hn.all) hn.fH q m) f=some o:=ho;rw [G4] at ho;split at ho
  .cases h0:aB m f with
   |none=>grind
   |some o0=>grind
  .cases ho
 obtain ⟨φ',m',f1,f2,f3,f4,f5⟩:=XI (fs:=fs) h (by grind);let Zi:bn:=⟨λb=>Z.In b/\(∀t cs,ap rp t= .box cs->e.B t≠b)/\(∀f o,aB mp f=some o->(e.E f).ownBlock≠some b),hn.ca++p,hn.ch++q,λt=>a.tmps.getD t undef,False,λ_=>True⟩
 have uw: ∀b,w.heap.size<=b->Zi.In b:=by
  intro b hb;refine ⟨f3.bI b hb,λt cs ht=> ?_,λf o ho LX=> ?_⟩
  .have hrp:ap rp t=Mc hn.ch (ap (oe hn.ca fr) t):=M9 _ _ _;rw [hrp,CG _ _ h.nodup] at ht;split at ht
   .have: ∃HG,ap fr t= .box HG:=by generalize ap fr t=s at ht;cases s<;>simp only [Mc] at ht<;>first|grind|grind
    have ⟨HG,h0⟩:=this;have:=sR (st:=⟨p,q,fr,m⟩) h h0;omega
   grind [Mc,SS]
  .have ⟨_,o0,g1,_⟩:=Ff f o ho;have:=sS (st:=⟨p,q,fr,m⟩) h g1 LX;omega
 have ae0: ∀t,ap rp t=if bB hn.ca t&&!df (ap fr t) then Mc hn.ch (ap fr t) else .sc .un:=by intro t;have hrp:ap rp t=Mc hn.ch (ap (oe hn.ca fr) t):=M9 _ _ _;rw [hrp,CG _ _ h.nodup];split<;>rfl
 have amS: ∀t,ap ro t=if bB (du hn.all) t&&!df (ap fr t) then ap fr t else .sc .un:=λt=>CG _ _ h.nodup t
 have arA: ∀t∈aG rp,t∈hn.ca:=by intro t ht;have ht:t∈aG (Tk hn.ch (oe hn.ca fr)):=ht;rw [Nu] at ht;exact JB t ht
 have TS: ∀t cs,ap rp t= .box cs->t∈hn.ca/\ ∃HG,ap fr t= .box HG:=by
  intro t cs ht;rw [ae0] at ht;split at ht
  .rename_i hc;simp at hc;refine ⟨(bm _ _).1 hc.1,?_⟩;generalize ap fr t=s at ht;cases s<;>simp only [Mc] at ht<;>first|grind|grind
  .cases ht
 have awl: ∀f o,aB mp f=some o->o.fH=true->f∈fs:=by intro f o ho hz;simp only [fs,List.mem_filter];exact (by grind)
 have hm': ∀f o0,aB m f=some o0->aB m' f=some (if f∈fs then ⟨o0.ty,true,o0.xs⟩ else o0):=by intro f o0 h0;rw [f4];show Option.map _ (aB m f)=_;rw [h0];rfl
 have ahC: ∀f o,aB (mp++mo) f=some o-> ∃o1,aB m' f=some o1/\o1.ty=o.ty/\o1.xs=o.xs/\(o1.fH=true->o.fH=true):=by
  intro f o ho;rw [uZ] at ho;cases hmf:aB mp f with
  |some o1=>simp only [hmf,No] at ho;have ⟨_,o0,g1,g2,g3,g4,_⟩:=Ff f o1 hmf;grind
  |none=>grind
 have amT: ∀f o,aB mp f=some o-> ∃o1,aB m' f=some o1/\o1.ty=o.ty/\o1.xs=o.xs/\(o1.fH=true->o.fH=true):=by intro f o ho;exact ahC f o (by rw [uZ,ho])
 have amA: ∀f o I cells b,aB mp f=some o->o.fH=true->c.ti o.ty=some I->w.ownsRow 0 o.ty I.size (e.E f) o.xs.length cells->(e.E f).ownBlock=some b-> ∀j,j<cells.length->φ' b j=cells[j]? :=by intro f o I cells b ho hz hI dI hb j hj;obtain ⟨_,o0,g1,g2,g3,_⟩:=Ff f o ho;exact (by grind)
 have amU:(hn.ca++p)=Zi.ca/\(hn.ch++q)=Zi.ch/\ ∀t∈Zi.ca,a.tmps.getD t undef=Zi.T t:=(by grind)
 have hkd:(aG rp).Nodup:=by have:aG rp=aG (oe hn.ca fr):=Nu;rw [this];exact (xn _ _).nodup h.nodup
 have ajv: ∀t,ap rp t= .sc .un\/(df (ap fr t)=false/\(ap rp t=ap fr t\/ ∃qs,ap rp t=Mc qs (ap fr t))):=by
  intro t;rw [ae0];cases hc:bB hn.ca t&&!df (ap fr t) with
  |false=>grind
  |true=>grind
 have ahD: ∀(Zb:bn) (pb qb:List Nat),pb=Zb.ca->qb=Zb.ch->(∀t∈Zb.ca,a.tmps.getD t undef=Zb.T t)->(∀t∈Z.ca,t∈Zb.ca)->(∀t cs,ap rp t= .box cs->(t∈Zb.ca/\Zb.Pr (e.B t))\/Zb.In (e.B t))-> (∀f o b,aB mp f=some o->(e.E f).ownBlock=some b->(f∈Zb.ch/\Zb.Pr b)\/Zb.In b)->(∀b,w.heap.size<=b->Zb.In b)->bC c Zb {e with φ:=φ',m:=mp} ⟨pb,qb,rp,mp⟩ a w:=by intro Zb pb qb h1 h2 h3 hpp h4 h5 h6;exact f3.sub (bG:=⟨pb,qb,rp,mp⟩) hpp ⟨h1,h2,h3⟩ hkd ajv amT h4 h5 (by grind) h6
 have ajw: ∀t f,ax.own f∈rv (ap rp t)->f∉bO hn.all:=by
  intro t f hf;have:f∈hn.ch:=by
   rw [ae0] at hf;split at hf
   .generalize ap fr t=s at hf;cases s<;>simp only [Mc,rv,AT,ae9,List.not_mem_nil,or_false] at hf
    .exact OD hn.ch _ f hf.symm
    .have ⟨l,_,hl⟩:=hf;exact OD hn.ch l f hl
    .have ⟨l,_,hl⟩:=hf;exact OD hn.ch l f hl
    .have ⟨l,_,hl⟩:=hf;exact OD hn.ch l f hl
   .grind [rv]
  exact λho=>m4 f ho this
 have aaP: ∀t,df (ap rp t)=false:=by
  intro t;rw [ae0];split
  .rename_i hc;generalize ap fr t=s at hc;cases s<;>simp [df] at hc<;>rfl
  .rfl
 have ahE: ∀b,Zi.In b->Z.In b:=λb hb=>hb.1;refine ⟨Zi,{e with φ:=φ',m:=mp++mo},{e with φ:=φ',m:=mp},⟨hn.ca++p,hn.ch++q,rp++ro,mp++mo⟩,⟨hn.ca++p,hn.ch++q,rp,mp⟩,?_,⟨f1,λ_ _ _=>rfl,f2,aeP _,.refl _⟩,rfl,rfl,?_,?_,ahE,m0,hK⟩
 .have hkk: ∀t,ap (rp++ro) t=ap rp t\/(t∈du hn.all/\ap rp t= .sc .un/\ap (rp++ro) t=ap ro t):=by
   intro t;rw [zP];by_cases hk:t∈aG rp
   .simp [hk]
   .have h0:=sw rp t hk;by_cases TF:t∈du hn.all
    .grind
    .rw [h0,amS];have:bB (du hn.all) t=false:=by cases hq:bB (du hn.all) t with|false=>rfl|true=>grind [absurd,bm]
     simp [this]
  refine f3.sub (bG:=⟨hn.ca++p,hn.ch++q,rp++ro,mp++mo⟩) (by grind) amU ?_ ?_ ahC ?_ ?_ ?_ uw
  .grind [aG,List.nodup_append,xn,h.nodup,JB]
  .grind
  .intro t cs ht;rcases hkk t with hk|⟨hk1,TF,hk⟩
   .grind
   .rw [hk,amS] at ht;split at ht
    .right;refine ⟨?_,?_,?_⟩
     .have hs:=h.slot t;have QH:ap (St.fr ⟨p,q,fr,m⟩) t= .box cs:=ht;rw [QH] at hs;refine QD hs.2.bI ?_;grind
     .intro t2 Ih Nv QF;have ⟨g1,HG,g2⟩:=TS t2 Ih Nv;exact h.bb t2 t HG cs g2 ht (by grind) QF
     .intro f o ho QF;have ⟨_,o0,g1,_⟩:=Ff f o ho;exact h.bf t cs f o0 ht g1 QF
    .cases ht
  .intro f o b ho hb;rw [uZ] at ho;cases hmf:aB mp f with
   |some o1=>grind
   |none=>
    right;simp only [hmf] at ho;have ⟨g0,o0,g1,_⟩:=hmo f o ho;have ⟨I,cells,_,_,_,_,g5⟩:=(h.fJ f o0 g1).row;refine ⟨QD (g5 b hb).1 (by grind),?_,?_⟩
    .intro t cs ht QF;have ⟨_,HG,k2⟩:=TS t cs ht;exact h.bf t HG f o0 k2 g1 (by grind)
    .intro f2 o2 cV QF;have ⟨k0,o20,k1,_⟩:=Ff f2 o2 cV;have:=h.ff f f2 o0 o20 b g1 k1 hb QF;grind
  .intro f o I cells b ho hp hz hI dI hb j hj;rw [uZ] at ho;grind
 .refine ⟨ahD Z p q hpq.1 hpq.2 h.defers.2.2.2 (λ_ h=>h) ?_ ?_ f3.bI,ahE,uw,(by grind),λ_ _=>rfl,λt ht=>adZ _ (arA t ht),?_,?_,?_,?_,aaP,ajw⟩
  .intro t cs ht;have ⟨_,HG,g2⟩:=TS t cs ht;have hs:=h.slot t;have g2':ap (St.fr ⟨p,q,fr,m⟩) t= .box HG:=g2;rw [g2'] at hs;exact hs.2.bI
  .intro f o b ho hb;have ⟨_,o0,g1,_⟩:=Ff f o ho;have ⟨I,cells,_,_,_,_,g5⟩:=(h.fJ f o0 g1).row;exact (g5 b hb).1
  .intro t cs ht hz;exact hz.2.1 t cs ht rfl
  .intro f o b ho hb hz;exact hz.2.2 f o ho hb
  .grind
  .intro f hf;refine ⟨by grind,?_⟩;cases hmf:aB mp f with
   |none=>first|exact hmf|rfl
   |some o1=>grind
 .refine ⟨ahD Zi _ _ rfl rfl (λ_ _=>rfl) (by grind) ?_ ?_ uw,λb hb=>hb,uw,λt ht=>ht,λ_ _=>rfl,(by grind),?_,?_,?_,?_,aaP,ajw⟩
  .grind
  .grind
  .grind
  .grind
  .grind
  .intro f hf;cases hmf:aB mp f with
   |none=>grind
   |some o1=>grind
def Ea {K2:St->St->Option R}(h:bC c Z e st a w)(hK:Fk c hn st K2=some r): ∃Zi e1 e2 cz cj,bC c Zi e1 cz a w/\Trans Z.In e.φ w e1.φ w/\e2.φ=e1.φ/\e2.key=e1.key/\wA c Z Zi e2 (CC st cj) hn a w/\wA c Zi Zi e2 cj hn a w/\(∀b,Zi.In b->Z.In b)/\et c hn.all=true/\K2 cz cj=some r:=by grind [Fk,XJ,Jm,Q0,h.nodup]
structure Ev (S:Nat->Prop) (e e':Env):Prop where
 key:e'.key=e.key
 φ:e'.φ=e.φ
 fJ: ∀f o,aB e'.m f=some o->S f->(∃o0,aB e.m f=some o0)/\e'.E f=e.E f
def Ev.refl (S:Nat->Prop)(e:Env):Ev S e e:=⟨rfl,rfl,(by grind)⟩
theorem Ev.trans {S:Nat->Prop} {e e' e'':Env}(h:Ev S e e') (h':Ev S e' e''):Ev S e e'':=⟨h'.key.trans h.key,h'.φ.trans h.φ,λf o ho hs=>by have ⟨⟨o1,g1⟩,g2⟩:=h'.fJ f o ho hs;have ⟨g3,g4⟩:=h.fJ f o1 g1 hs;grind⟩
def Ev.amV {S S':Nat->Prop} {e e':Env}(h:Ev S e e')(hs: ∀f,S' f->S f):Ev S' e e':=⟨h.key,h.φ,λf o ho hf=>h.fJ f o ho (hs f hf)⟩
def aP.ev {S:Nat->Prop}(h:Ev S e e'){vs:List Value}{l:ax}(hl: ∀f,l= .own f->S f)(hr:aP e vs l):aP e' vs l:=by
 cases l with
 |own f=>obtain ⟨v,rfl,hv,hf⟩:=hr;refine ⟨v,rfl,hv,λo' CH=> ?_⟩;have ⟨⟨o,ho⟩,hE⟩:=h.fJ f o' CH (hl f rfl);grind
 |p m=>exact ⟨hr.1,by rw [h.key,h.φ];exact hr.2⟩
 |_=>exact hr
def ar.ev {S:Nat->Prop}(h:Ev S e e'){cs:List ax}: ∀{vs:List Value},(∀f,ax.own f∈cs->S f)->ar e vs cs->ar e' vs cs:=by
 induction cs with
 |nil=>intro vs _ hr;exact hr
 |cons l r ih=>intro vs hl hr;obtain ⟨v,u,rfl,h1,h2⟩:=hr;exact ⟨v,u,rfl,h1.ev h (by grind),(by grind)⟩
def jZ.ev {S:Nat->Prop}(h:Ev S e e'){ob:Obj}{cs:List ax}(hl: ∀f,ax.own f∈cs->S f)(hr:jZ e ob cs):jZ e' ob cs:=by
 cases ob with
 |cells arr T z=>exact ⟨hr.1,hr.2.ev h hl⟩
 |map es clock=>exact hr
 |stringIter x pos=>exact hr
 |_=>exact hr.elim
def af.ev {S:Nat->Prop}(h:Ev S e e'){v:Value}{s:Slot}(hp:df s=false)(hl: ∀f,ax.own f∈rv s->S f)(hr:af e v s):af e' v s:=by
 have aa9:jT (λ_=>False) (λ_=>False) e e':=⟨h.key,by rw [h.φ];exact .refl _,λ_ hf=>hf.elim,λ_ _ _ hf=>hf.elim⟩
 cases s with
 |sc l=>
  cases l<;>first|exact hr|skip
  .exact aP.ev (l:= .p _) h (λf hf=>by cases hf) hr
  .rename_i f;exact aP.ev (l:= .own f) h (by grind [rv]) hr
 |ag cs=>have ⟨arr,h1,h2⟩:=hr;exact ⟨arr,h1,h2.ev h (λf hf=>hl f hf)⟩
 |tg cs=>have ⟨arr,h1,h2⟩:=hr;exact ⟨arr,h1,h2.ev h (λf hf=>hl f hf)⟩
 |ptr=>grind [df]
 |zK=>grind [df]
 |rp=>grind [df]
 |hp=>grind [df]
 |ep=>grind [df]
 |_=>exact hr.on aa9 (by simp [fO])
theorem Ba {fr:Fr}{s:Slot}(h:df s=false):cM fr s:=by cases s<;>simp [df] at h<;>trivial
def bC.ae2 {t:Nat}{s:Slot}(h:bC c Z e st a w)(hp: ∀t,df (ap st.fr t)=false)(hs:df s=false)(hb:cg s=false)(hr:af e (a.tmps.getD t undef) s): bC c Z e {st with fr:=dM st.fr t s} a w:=by
 have hg: ∀t',ap (dM st.fr t s) t'=if t'=t then s else ap st.fr t':=(by grind [bA])
 have vP: ∀t' cs,ap (dM st.fr t s) t'= .box cs->t'≠t/\ap st.fr t'= .box cs:=by
  intro t' cs ht;rw [hg] at ht;by_cases wu:t'=t
  .simp_all [if_pos,cg]
  .grind
 refine ⟨h.defers,h.size,h.m,h.key,dg h.nodup,?_,?_,h.fJ,?_,?_,h.ff,h.jU,h.bI⟩
 .intro t';rw [hg];by_cases wu:t'=t
  .simp_all;cases s<;>first|exact hr|grind
  .simp only [wu,if_false];exact h.slot t'
 .intro t';by_cases wu:t'=t;all_goals simp_all [if_true,Ba,if_false]
 .intro t1 t2 c1 c2 h1 h2 dt;exact h.bb t1 t2 c1 c2 (vP t1 c1 h1).2 (vP t2 c2 h2).2 dt
 .intro t1 c1 f o h1 h2;exact h.bf t1 c1 f o (vP t1 c1 h1).2 h2
def bC.ajx {t aQ:Nat}{cs:List ax}(h:bC c Z e st a w)(hp: ∀t,df (ap st.fr t)=false)(hv:tied Z t (a.tmps.getD t undef) cs aQ)(Ip:uS (Z.bz t) e w aQ cs)(h1: ∀t' gl,ap st.fr t'= .box gl->t'≠t->e.B t'≠aQ)(h2: ∀f o,aB st.aF f=some o->(e.E f).ownBlock≠some aQ): bC c Z (e.BM t aQ) {st with fr:=dM st.fr t (.box cs)} a w:=by
 have sB:jT (λ_=>True) (λ_=>False) e (e.BM t aQ):=⟨rfl,.refl _,λr hr=>hr.elim,λf o ho _=>⟨o,ho,rfl,rfl⟩⟩
 have hg: ∀t',ap (dM st.fr t (.box cs)) t'=if t'=t then .box cs else ap st.fr t':=(by grind [bA])
 refine ⟨h.defers,h.size,h.m,h.key,dg h.nodup,?_,?_,λf o ho=>(h.fJ f o ho).env rfl rfl,?_,?_,h.ff,h.jU,h.bI⟩
 .intro t';rw [hg];by_cases wu:t'=t
  .subst wu;simp only [if_true,dy,Env.BM];exact ⟨hv,Ip.env rfl rfl rfl rfl⟩
  .simp only [wu,if_false];have hs:=h.slot t';have VL:=hp t';generalize ap st.fr t'=s at hs VL;cases s<;>simp only [dy] at hs⊢ <;>first|(simp [df] at VL;done)|exact hs.on sB (by simp [fO,iZ])|skip
   simp only [Env.BM,wu,if_false];exact ⟨hs.1,hs.2.env rfl rfl rfl rfl⟩
 .intro t';rw [hg];by_cases wu:t'=t
  .simp_all;trivial
  simp_all [if_false,Ba]
 .intro t1 t2 c1 c2 g1 g2 dt;rw [hg] at g1 g2;simp only [Env.BM];by_cases k1:t1=t
  .grind
  .rw [if_neg k1] at g1;by_cases k2:t2=t
   .grind
   .simp_all;exact h.bb t1 t2 c1 c2 g1 g2 dt
 .intro t1 c1 f o g1 g2;rw [hg] at g1;simp only [Env.BM];by_cases k1:t1=t
  .grind
  .simp_all;exact h.bf t1 c1 f o g1 g2
def Env.O1 (e:Env)(f:Nat)(v:Value)(fo:n8):Env:={e with E:=λg=>if g=f then v else e.E g,m:=ct e.m f fo}
def bC.abl {f:Nat}{v:Value}{fo:n8}(h:bC c Z e st a w)(hp: ∀t,df (ap st.fr t)=false)(Cc:f∉Z.ch)(fQ:bU c Z.nc e w v fo)(hb: ∀b,v.ownBlock=some b->(∀t cs,ap st.fr t= .box cs->e.B t≠b)/\(∀g o,g≠f->aB st.aF g=some o->(e.E g).ownBlock≠some b))(Md:Ev (λg=> ∃t,ax.own g∈rv (ap st.fr t)) e (e.O1 f v fo)):bC c Z (e.O1 f v fo) {st with aF:=ct st.aF f fo} a w:=by
 refine ⟨h.defers,h.size,by show ct e.m f _=ct st.aF f _;rw [h.m],h.key,h.nodup,?_,h.root,?_,h.bb,?_,?_,h.jU,h.bI⟩
 .intro t;have hs:=h.slot t;have hl: ∀f,ax.own f∈rv (ap st.fr t)-> ∃t,ax.own f∈rv (ap st.fr t):=λf hf=>⟨t,hf⟩
  have hpt:=hp t;generalize ap st.fr t=s at hs hpt hl;by_cases S0: ∃cs,s= .box cs
  .obtain ⟨cs,rfl⟩:=S0;have ⟨o2,h1,h2⟩:=hs.2.obj;exact ⟨hs.1,hs.2.bI,⟨o2,h1,h2.ev Md hl⟩,hs.2.free⟩
  .have zf:af e (a.tmps.getD t undef) s:=by cases s<;>simp only [dy] at hs<;>first|exact hs|grind
   have h2:=zf.ev Md hpt hl;cases s<;>first|exact h2|grind
 .intro f2 o2 cV;rw [aW] at cV;show bU c (Z.fz f2) _ w (if f2=f then v else e.E f2) o2;by_cases jt:f2=f
  .rw [if_pos jt];rw [if_pos jt] at cV;cases cV;rw [jt];exact (fQ.to Cc).env rfl rfl
  .rw [if_neg jt];rw [if_neg jt] at cV;exact (h.fJ f2 o2 cV).env rfl rfl
 .intro t c1 f2 o2 h1 h2;rw [aW] at h2;show (if f2=f then v else e.E f2).ownBlock≠some (e.B t);by_cases jt:f2=f
  .grind
  .rw [if_neg jt] at h2⊢;exact h.bf t c1 f2 o2 h1 h2
 .intro f1 f2 o1 o2 k h1 h2 h3 h4;have h3:(if f1=f then v else e.E f1).ownBlock=some k:=h3;have h4:(if f2=f then v else e.E f2).ownBlock=some k:=h4;rw [aW] at h1 h2;by_cases k1:f1=f
  .grind
  .rw [if_neg k1] at h3 h1;by_cases k2:f2=f
   .grind
   .rw [if_neg k2] at h4 h2;exact h.ff f1 f2 o1 o2 k h1 h2 h3 h4
inductive TK (st:St) (ps:List (Nat×Nat)):LK->ax->MV->List (Nat×Nat)->Prop
 |OZ:TK st ps (.k .l) .nil (.list []) ps
 |hs (k:IntKind) (n:Nat) (x:List Int):TK st ps (.k (.h k n)) (.hs k n x) (.h k n x) ps
 |p (x:Kd) (m:MV):TK st ps (.k x) (.p m) m ps
 |own (f ty:Nat) (fH:Bool) (g:Nat) (o:n8):aB st.aF g=some o->o.ty=ty->(o.fH=true->fH=true)->g∉st.ch->pF ps f (g+1)=true->TK st ps (.own f ty fH) (.own g) (.list o.xs) ((f,g+1)::ps)
 |xy (f ty:Nat) (fH:Bool):pF ps f 0=true->TK st ps (.own f ty fH) .nil (.list []) ((f,0)::ps)
def TT {k:Kd}{m:MV} {K':ax->Option R}(h:iq k m K'=some r): ∃l,K' l=some r:=by have ⟨l,_,h⟩:=nB (e:=⟨λn=>n,λ_ _=>none,λ_=>undef,λ_=>0,[]⟩) (vs:=[]) h;grind
def Q9 {ps:List (Nat×Nat)}{k:LK}{l:ax} {K':MV->List (Nat×Nat)->Option R}(h:Ox st ps k l K'=some r): ∃m jW,TK st ps k l m jW/\K' m jW=some r:=by
 unfold Ox at h;split at h
 .exact ⟨_,_,.OZ,h⟩
 .have ⟨hq,h⟩:=ob h;simp only [sh,decide_eq_true_eq] at hq;have ⟨rfl,hq⟩:=hq;have hq:=bo hq;subst hq;exact ⟨_,_,.hs _ _ _,h⟩
 .have ⟨_,h⟩:=TT h;exact ⟨_,_,.p _ _,h⟩
 .rename_i f ty fH g;cases ho:aB st.aF g with
  |none=>grind
  |some o=>simp only [ho] at h;have ⟨hc,h⟩:=oz h;simp at hc;have ⟨⟨⟨h1,h2⟩,h3⟩,h4⟩:=hc;refine ⟨_,_,.own f ty fH g o ho (by simp_all) ?_ ?_ h4,h⟩;all_goals grind [bm]
 .rename_i f ty fH;cases hc:pF ps f 0 with
  |false=>grind
  |true=>simp only [hc,cond_true] at h;exact ⟨_,_,.xy f ty fH hc,h⟩
 .simp at h
def G5 {ps:List (Nat×Nat)}{f g:Nat}(h:pF ps f g=true):(∀b,(f,b)∈ps->b=g/\g≠0)/\(∀x,(x,g)∈ps->x≠f->g=0):=by
 induction ps with
 |nil=>simp
 |cons p ps ih=>simp only [pF,sh,eQ] at h;grind
structure Inv (c:Ctx) (Zb Zi:bn) (e3:Env) (jQ:St) (F:List Nat) (ps:List (Nat×Nat)) (e:Env) (st:St) (a:Act) (w:World):Prop where
 sU:bC c Zb e st a w
 φ:e.φ=e3.φ
 box: ∀t cs,ap st.fr t= .box cs-> ¬Zi.In (e.B t)\/(e.B t=e3.B t/\ ∃xz,ap jQ.fr t= .box xz)
 fJ: ∀f o b,aB st.aF f=some o->(e.E f).ownBlock=some b-> ¬Zi.In b\/ ∃g,(f,g+1)∈ps
 pair: ∀f g,(f,g+1)∈ps->e.E f=e3.E g/\ ∃o3,aB jQ.aF g=some o3
 has: ∀f x,(f,x)∈ps-> ∃o,aB st.aF f=some o
 own: ∀f∈F,∀o,aB st.aF f=some o-> ∃x,(f,x)∈ps
 ptr: ∀t,df (ap st.fr t)=false
 men: ∀t f,ax.own f∈rv (ap st.fr t)->f∉F\/ ∃x,(f,x)∈ps
theorem XL {F:List Nat}{ps jW:List (Nat×Nat)}{k:LK}{l:ax}{m:MV}{vs:List Value} {K':ax->St->Option R}(hi:Inv c Zb Zi e3 jQ F ps e st a w)(h3:bC c Zi e3 jQ a w)(gD: ∀b,Zi.In b->Zb.In b)(hF: ∀f∈bx [k],f∈F/\f∉Zb.ch)(hl:aP e3 vs l)(ht:TK jQ ps k l m jW)(hK:kJ st k m K'=some r)(ll: ∀f ty fH,k= .own f ty fH-> ∃I,c.ti ty=some I/\I.bR=[]): ∃e' bG l',K' l' bG=some r/\Inv c Zb Zi e3 jQ F jW e' bG a w/\aP e' vs l'/\bG.fr=st.fr/\Ev (λf=>f∉F\/ ∃x,(f,x)∈ps) e e'/\(∀p∈ps,p∈jW)/\(∀f,l'= .own f-> ∃x,(f,x)∈jW)/\e'.B=e.B/\l'≠ .un:=by
 have hkφ: ∀{vs m},il e3.key e3.φ vs m->il e.key e.φ vs m:=by intro vs m h;rw [hi.φ,hi.sU.key,<-h3.key];exact h
 have simple: ∀{x:Kd} {m:MV},il e3.key e3.φ vs m->(iq x m λl=>K' l st)=some r-> ∃e' bG l',K' l' bG=some r/\Inv c Zb Zi e3 jQ F ps e' bG a w/\aP e' vs l'/\bG.fr=st.fr/\Ev (λf=>f∉F\/ ∃x,(f,x)∈ps) e e'/\(∀p∈ps,p∈ps)/\(∀f,l'= .own f-> ∃x,(f,x)∈ps)/\e'.B=e.B/\l'≠ .un:=by
  intro x m hr hK;obtain ⟨l',Mk,hK⟩:=nB (e:=e) (vs:=vs) hK;refine ⟨e,st,l',hK,hi,Mk.rep (hkφ hr),rfl,.refl _ _,λp hp=>hp,λf hf=> ?_,rfl,λhu=> ?_⟩
  .grind [Mk.ZJ,uP]
  .grind [Mk.ZJ,uP]
 cases ht with
 |OZ=>subst hl;exact simple (x:= .l) (.list none 0 [] 0 0 0 (λ_=>[]) aaS aaS aaS aaS aaS) hK
 |hs k n x=>obtain ⟨rfl,hl⟩:=hl;exact simple (x:= .h k n) (.h k n x hl) hK
 |p x m=>exact simple hl.2 hK
 |own f ty fH g o3 ho amW hfz hg hpo=>
  obtain ⟨v,rfl,hv,hE⟩:=hl;have hE:=hE o3 (by rw [h3.m];exact ho);obtain ⟨hfF,hfp⟩:=hF f (by simp [bx]);have ⟨p1,p2⟩:=G5 hpo;simp only [kJ,gL,oh] at hK;have hgz:g∉Zi.ch:=by rw [<-h3.defers.2.2.1];exact hg
  have ⟨I,cells,q1,q2,q3,q4,q5⟩:=(h3.fJ g o3 ho).row;have zY: ∀b,v.ownBlock=some b->Zi.In b:=λb hb=>QD (q5 b (by rw [<-hE];exact hb)).1 hgz;have fQ:bU c Zb.nc e w v ⟨ty,fH,o3.xs⟩:=by refine ⟨I,cells,by rw [<-amW];exact q1,q2,by rw [<-amW,hE];exact q3,by rw [hi.φ,hi.sU.key,<-h3.key];exact q4,λaQ hb=>⟨gD _ (zY aQ hb),λoff u hu=> ?_,λhc=>hc.elim⟩⟩;rw [hi.φ] at hu;obtain ⟨k1,k2⟩:=(q5 aQ (by rw [<-hE];exact hb)).2.1 off u hu;exact ⟨hfz k1,k2⟩
  have hold: ∀x,(f,x)∈ps->e.E f=v:=by intro x hx;have:=(p1 x hx).1;subst this;rw [(hi.pair f g hx).1,hE]
  have abm: ∀S:Nat->Prop,(S f-> ∃x,(f,x)∈ps)->Ev S e (e.O1 f v ⟨ty,fH,o3.xs⟩):=by
   intro S hS;refine ⟨rfl,rfl,λf2 o2 cV hs=> ?_⟩;have cV:aB (ct e.m f ⟨ty,fH,o3.xs⟩) f2=some o2:=cV;rw [aW] at cV;by_cases jt:f2=f
   .subst jt;have ⟨x,hx⟩:=hS hs;have ⟨o0,h0⟩:=hi.has f2 x hx;exact ⟨(by grind [hi.sU.m]),by simp only [Env.O1,if_true];grind⟩
   .rw [if_neg jt] at cV;exact ⟨⟨o2,cV⟩,by simp only [Env.O1,jt,if_false]⟩
  have LX: ∀b,v.ownBlock=some b->(∀t cs,ap st.fr t= .box cs->e.B t≠b)/\(∀g' o',g'≠f->aB st.aF g'=some o'->(e.E g').ownBlock≠some b):=by
   intro b hb;refine ⟨λt cs Ip hbt=> ?_,λg' o' dt hog hbg=> ?_⟩
   .rcases hi.box t cs Ip with h0|⟨h0,xz,h1⟩
    .exact h0 (by rw [hbt];exact zY b hb)
    .exact h3.bf t xz g o3 h1 ho (by rw [<-hE,<-h0,hbt];exact hb)
   .rcases hi.fJ g' o' b hog hbg with h0|⟨x,h0⟩
    .grind
    .have ⟨h5,o5,h6⟩:=hi.pair g' x h0;rw [h5] at hbg;have:=h3.ff g x o3 o5 b ho h6 (by rw [<-hE];exact hb) hbg;grind
  have lm:=hi.sU.abl hi.ptr hfp fQ LX (abm _ (λ⟨t,hm⟩=>(hi.men t f hm).resolve_left (λhn=>hn hfF)));refine ⟨_,_,.own f,hK,⟨lm,hi.φ,hi.box,?_,?_,?_,?_,hi.ptr,?_⟩,?_,rfl,(by grind),λp hp=>by simp [hp],(by grind),rfl,λhu=>by cases hu⟩
  .intro f2 o2 b cV hb;have hb:(if f2=f then v else e.E f2).ownBlock=some b:=hb;rw [aW] at cV;by_cases jt:f2=f
   .grind
   .rw [if_neg jt] at cV hb;rcases hi.fJ f2 o2 b cV hb with h0|⟨x,h0⟩;all_goals grind
  .intro f2 g2 hp;show (if f2=f then v else e.E f2)=_/\_;rcases AT.1 hp with ZI|ZI
   .simp at ZI;have ⟨rfl,rfl⟩:=ZI;simp;exact ⟨hE,o3,ho⟩
   .by_cases jt:f2=f
    .subst jt;have:=(p1 _ ZI).1;have:g2=g:=aah
     subst this;simp;exact ⟨hE,o3,ho⟩
    .rw [if_neg jt];exact hi.pair f2 g2 ZI
  .intro f2 x hp;rw [aW];by_cases jt:f2=f
   .grind
   .rw [if_neg jt];rcases AT.1 hp with hp|hp
    .grind
    .exact hi.has f2 x hp
  .intro f2 DZ o2 cV;rw [aW] at cV;by_cases jt:f2=f
   .grind
   .rw [if_neg jt] at cV;have ⟨x,hx⟩:=hi.own f2 DZ o2 cV;grind
  .intro t f2 hm;rcases hi.men t f2 hm with h0|⟨x,hx⟩;all_goals grind
  .exact ⟨v,rfl,hv,(by grind [Env.O1])⟩
 |xy f ty fH hpo=>
  have hl:vs=[.slice none 0 0]:=hl;subst hl;obtain ⟨hfF,hfp⟩:=hF f (by simp [bx]);obtain ⟨p1,_⟩:=G5 hpo;have Ra: ∀x,(f,x)∉ps:=(by grind)
  simp only [kJ,gL,oh] at hK;obtain ⟨I,hI,SX⟩:=ll f ty fH rfl;have fQ:bU c Zb.nc e w (.slice none 0 0) ⟨ty,fH,[]⟩:=⟨I,[],hI,SX,⟨aaS,.inl ⟨rfl,rfl⟩⟩,rfl,(by grind [AS])⟩
  have abm: ∀S:Nat->Prop,(S f->False)->Ev S e (e.O1 f (.slice none 0 0) ⟨ty,fH,[]⟩):=by
   intro S hS;refine ⟨rfl,rfl,λf2 o2 cV hs=> ?_⟩;have cV:aB (ct e.m f ⟨ty,fH,[]⟩) f2=some o2:=cV;rw [aW] at cV;by_cases jt:f2=f
   .grind
   .simp_all [if_neg,Env.O1,if_false]
  have lm:=hi.sU.abl hi.ptr hfp fQ (by grind [AS]) (abm _ (λ⟨t,hm⟩=>(hi.men t f hm).elim (λhn=>hn hfF) (by grind)));refine ⟨_,_,.own f,hK,⟨lm,hi.φ,hi.box,?_,?_,?_,?_,hi.ptr,?_⟩,?_,rfl,(by grind),λp hp=>by simp [hp],(by grind),rfl,λhu=>by cases hu⟩
  .intro f2 o2 b cV hb;have hb:(if f2=f then aeF none 0 0 else e.E f2).ownBlock=some b:=hb;rw [aW] at cV;by_cases jt:f2=f
   .simp_all [if_pos,AS]
   .rw [if_neg jt] at cV hb;rcases hi.fJ f2 o2 b cV hb with h0|⟨x,h0⟩;all_goals grind
  .intro f2 g2 hp;show (if f2=f then aeF none 0 0 else e.E f2)=_/\_;rcases AT.1 hp with ZI|ZI
   .simp at ZI
   .by_cases jt:f2=f
    .grind
    .rw [if_neg jt];exact hi.pair f2 g2 ZI
  .intro f2 x hp;rw [aW];by_cases jt:f2=f
   .simp_all
   .rw [if_neg jt];rcases AT.1 hp with hp|hp
    .grind
    .exact hi.has f2 x hp
  .intro f2 DZ o2 cV;rw [aW] at cV;by_cases jt:f2=f
   .grind
   .rw [if_neg jt] at cV;have ⟨x,hx⟩:=hi.own f2 DZ o2 cV;grind
  .intro t f2 hm;rcases hi.men t f2 hm with h0|⟨x,hx⟩;all_goals grind
  .exact ⟨_,rfl,rfl,(by grind [Env.O1])⟩
end
def TU {c:Ctx}{ks:List LK}(h:gn c ks=true): ∀f ty fH,LK.own f ty fH∈ks-> ∃I,c.ti ty=some I/\I.bR=[]:=by
 induction ks with
 |nil=>grind
 |cons k ks ih=>
  cases k with
  |k x=>grind [gn]
  |own f' ty' arm=>grind [gn,aM]
theorem G6 (k:LK)(ks:List LK):bx (k::ks)=bx [k]++bx ks:=by cases k<;>simp [bx]
section
variable {P:Program}{c:Ctx}{Z Zb Zi:bn}{e e' e3:Env}{st bG jQ B:St}{a a':Act}{w w':World}{R:Type}{K:St->Option R}{r:R}{Q:Exit->Act->World->Prop}{o:Oper}{hn:eE}
inductive TKs (st:St):List (Nat×Nat)->List LK->List ax->List MV->List (Nat×Nat)->Prop
 |nil (ps):TKs st ps [] [] [] ps
 |cons {ps ps1 ps2 k l m ks ls ms}:TK st ps k l m ps1->TKs st ps1 ks ls ms ps2->TKs st ps (k::ks) (l::ls) (m::ms) ps2
def xB {ks:List LK}: ∀{ps:List (Nat×Nat)} {ls:List ax} {K':List MV->List (Nat×Nat)->Option R},kT st ps ks ls K'=some r-> ∃ms jW,TKs st ps ks ls ms jW/\K' ms jW=some r:=by
 induction ks with
 |nil=>
  intro ps ls K' h;cases ls with
  |nil=>exact ⟨[],ps,.nil ps,h⟩
  |cons=>grind [kT]
 |cons k ks ih=>
  intro ps ls K' h;cases ls with
  |nil=>grind [kT]
  |cons l ls=>have ⟨m,ps1,h1,h⟩:=Q9 h;have ⟨ms,ps2,h2,h⟩:=ih h;exact ⟨m::ms,ps2,.cons h1 h2,h⟩
def z7 {F:List Nat}{ks:List LK}: ∀{ps jW:List (Nat×Nat)} {ls:List ax} {ms rest:List MV} {vs:List Value} {e:Env} {st:St} {K':List ax->List MV->St->Option R},Inv c Zb Zi e3 jQ F ps e st a w->bC c Zi e3 jQ a w->(∀b,Zi.In b->Zb.In b)-> (∀f∈bx ks,f∈F/\f∉Zb.ch)->gn c ks=true->ar e3 vs ls->TKs jQ ps ks ls ms jW->ck st ks (ms++rest) K'=some r-> ∃e' bG yR,K' yR rest bG=some r/\Inv c Zb Zi e3 jQ F jW e' bG a w/\ar e' vs yR/\bG.fr=st.fr/\Ev (λf=>f∉F\/ ∃x,(f,x)∈ps) e e'/\(∀p∈ps,p∈jW)/\(∀f,ax.own f∈yR-> ∃x,(f,x)∈jW)/\e'.B=e.B/\(∀l∈yR,l≠ .un):=by
 induction ks with
 |nil=>intro ps jW ls ms rest vs e st K' hi h3 gD hF ll hl ht hK;cases ht;exact ⟨e,st,[],hK,hi,hl,rfl,.refl _ _,λp hp=>hp,λf hf=>by simp at hf,rfl,aaS⟩
 |cons k ks ih=>
  intro ps jW ls ms rest vs e st K' hi h3 gD hF ll hl ht hK;cases ht with
  |cons ht1 Nv=>
   obtain ⟨v,u,rfl,GR,uR⟩:=hl;simp only [ck,afR,gC] at hK;have rV:=TU ll;have ⟨e1,cz,l',qH,wh,CJ,DX,ae4,ajy,JC,hB1,ajz⟩:=XL hi h3 gD (by grind [G6,adZ]) GR ht1 hK (by grind);have abn:gn c ks=true:=by
    cases k with
    |k x=>exact ll
    |own f ty fH=>grind [gn]
   have ⟨e2,cj,yR,rq,hi2,QG,QN,amY,awq,auf,hB2,aws⟩:=ih wh h3 gD (by grind [G6,ad5]) abn uR Nv qH;refine ⟨e2,cj,l'::yR,rq,hi2,⟨v,u,rfl,?_,QG⟩,QN.trans DX,ae4.trans (amY.amV ?_),(by grind),?_,hB2.trans hB1,by grind⟩
   .exact CJ.ev amY (by grind)
   all_goals grind
inductive TO (st:St):List (Nat×Nat)->List (Nat×OK)->List MV->Prop
 |nil (ps):TO st ps [] []
 |sc {ps jW t k l ms r ns}:ap st.fr t= .sc l->TKs st ps [k] [l] ms jW->TO st jW r ns->TO st ps ((t,.sc k)::r) (ms++ns)
 |ag {ps jW t ks ls ms r ns}:ap st.fr t= .ag ls->TKs st ps ks ls ms jW->TO st jW r ns->TO st ps ((t,.ag ks)::r) (ms++ns)
 |box {ps jW t ks ls ms r ns}:ap st.fr t= .box ls->TKs st ps ks ls ms jW->TO st jW r ns->TO st ps ((t,.box ks)::r) (ms++ns)
 |mp {ps t s es r ns}:ap st.fr t= .box [.mp s es]->TO st ps r ns->TO st ps ((t,.mp s)::r) (.list es::ns)
 |pt {ps t root off r ns}:ap st.fr t= .ptr root off->A0 root=false->Fg (ap st.fr root)=true->TO st ps r ns->TO st ps ((t,.pt root off)::r) ns
def pJ {os:List (Nat×OK)}: ∀{ps:List (Nat×Nat)} {R:Type} {r:R} {K':List MV->Option R},dL st ps os K'=some r-> ∃ms,TO st ps os ms/\K' ms=some r:=by
 induction os with
 |nil=>intro ps R r K' h;exact ⟨[],.nil ps,h⟩
 |cons p os ih=>
  intro ps R r K' h;have ⟨t,k⟩:=p;simp only [dL] at h;split at h
  .rename_i k l hf;have ⟨ms,jW,h1,h⟩:=xB h;have ⟨ns,h2,h⟩:=ih h;simp only [xm] at h;exact ⟨_,.sc hf h1 h2,h⟩
  .rename_i ks ls hf;have ⟨ms,jW,h1,h⟩:=xB h;have ⟨ns,h2,h⟩:=ih h;simp only [xm] at h;exact ⟨_,.ag hf h1 h2,h⟩
  .rename_i ks ls hf;have ⟨ms,jW,h1,h⟩:=xB h;have ⟨ns,h2,h⟩:=ih h;simp only [xm] at h;exact ⟨_,.box hf h1 h2,h⟩
  .rename_i s s' es hf;cases hm:msB s s' with
   |false=>grind
   |true=>simp only [hm,cond_true] at h;have:=aa4 hm;subst this;have ⟨ns,h2,h⟩:=ih h;exact ⟨_,.mp hf h2,h⟩
  .rename_i root off aam Tg hf;cases hc:AI root aam&&(AI off Tg&&(!A0 root&&Fg (ap st.fr root))) with
   |false=>grind
   |true=>rw [hc] at h;simp only [sh,ad8] at hc;have ⟨k1,k2,k3,k4⟩:=hc;have k1:=bo k1;have k2:=bo k2;subst k1 k2;have ⟨ns,h2,h⟩:=ih h;exact ⟨_,.pt hf k3 k4 h2,h⟩
  .simp at h
def abo {os:List (Nat×OK)}: ∀{ps:List (Nat×Nat)} {ms:List MV} {st:St},bC c Zb e st a w->bC c Zi e3 jQ a w->TO jQ ps os ms->aan os ms st K=some r-> ∃bG,bC c Zb e bG a w/\K bG=some r:=by
 induction os with
 |nil=>intro ps ms st h h3 ht hK;cases ht;exact ⟨st,h,hK⟩
 |cons p os ih=>
  have ⟨t,k⟩:=p;intro ps ms st h h3 ht hK;cases k with
  |pt root off=>
   cases ht with
   |pt hf hp hb Nv=>
    have ⟨pr,q,fr,m⟩:=st;simp only [aan] at hK;cases hc:!A0 root&&(Fg (ap fr root)&&!cg (ap fr t)) with
    |false=>grind
    |true=>
     rw [hc] at hK;simp at hc;have ⟨_,ru,hn⟩:=hc;simp only [cond_true,kU] at hK;have ⟨cs,TD,_⟩:=A6 ru;have hB:=QZ h3 h hp hb ru;have hv:af e (a.tmps.getD t undef) (.ptr root off):=by have:=h3.slot t;rw [hf] at this;simp only [dy,af] at this⊢;rw [hB];exact this
     exact ih (h.aa3 TD hn hv) h3 Nv hK
  |_=>grind [aan]
theorem XM {F:List Nat}{os:List (Nat×OK)}: ∀{ps:List (Nat×Nat)} {ms:List MV} {e:Env} {st:St},Inv c Zb Zi e3 jQ F ps e st a w->bC c Zi e3 jQ a w->(∀b,Zi.In b->Zb.In b)-> (∀f∈bO os,f∈F/\f∉Zb.ch)->(∀t∈du os,t∉Zi.ca)->et c os=true->TO jQ ps os ms->od st os ms K=some r-> ∃e' bG,bC c Zb e' bG a w/\e'.φ=e3.φ/\K bG=some r:=by
 induction os with
 |nil=>intro ps ms e st hi h3 gD hF hk ll ht hK;cases ht;exact ⟨e,st,hi.sU,hi.φ,hK⟩
 |cons p os ih=>
  intro ps ms e st hi h3 gD hF hk ll ht hK;obtain ⟨t,k⟩:=p;have h3t:=h3.slot t;have next: ∀{jW:List (Nat×Nat)} {s:Slot} {e1:Env} {cz:St} {ns:List MV},Inv c Zb Zi e3 jQ F jW e1 cz a w->df s=false->cg s=false->af e1 (a.tmps.getD t undef) s->(∀f,ax.own f∈rv s-> ∃x,(f,x)∈jW)-> (∀f∈bO os,f∈F/\f∉Zb.ch)->et c os=true->TO jQ jW os ns->(L9 cz t s λst=>od st os ns K)=some r-> ∃e' bG,bC c Zb e' bG a w/\e'.φ=e3.φ/\K bG=some r:=by
   intro jW s e1 cz ns wh hp hb hr ajw hF2 abn Nv hK;simp only [L9,kU] at hK;have hg: ∀t',ap (dM cz.fr t s) t'=if t'=t then s else ap cz.fr t':=(by grind [bA])
   refine ih ⟨wh.sU.ae2 wh.ptr hp hb hr,wh.φ,?_,wh.fJ,wh.pair,wh.has,wh.own,?_,?_⟩ h3 gD hF2 (by grind [du]) abn Nv hK
   .intro t' cs Ip;rw [hg] at Ip;by_cases wu:t'=t
    .simp_all [if_pos,cg]
    .rw [if_neg wu] at Ip;exact wh.box t' cs Ip
   .intro t';rw [hg];by_cases wu:t'=t
    .grind
    .rw [if_neg wu];exact wh.ptr t'
   .intro t' f hm;rw [hg] at hm;by_cases wu:t'=t
    .grind
    .rw [if_neg wu] at hm;exact wh.men t' f hm
  have abp: ∀{jW:List (Nat×Nat)} {ls yR:List ax} {ob:Obj} {e1:Env} {cz:St} {ns:List MV},Inv c Zb Zi e3 jQ F jW e1 cz a w->ap jQ.fr t= .box ls->tied Zb t (a.tmps.getD t undef) yR (e3.B t)->w.heap[e3.B t]? =some ob->jZ e1 ob yR-> (∀f,ax.own f∈yR-> ∃x,(f,x)∈jW)->(∀f∈bO os,f∈F/\f∉Zb.ch)->et c os=true->TO jQ jW os ns->(L9 cz t (.box yR) λst=>od st os ns K)=some r-> ∃e' bG,bC c Zb e' bG a w/\e'.φ=e3.φ/\K bG=some r:=by
   intro jW ls yR ob e1 cz ns wh hf hv bW CJ JC hF2 abn Nv qH;rw [hf] at h3t;have Ip:=h3t.2;simp only [L9,kU] at qH;have htp:t∉Zi.ca:=hk t (by simp [du]);have zY:Zi.In (e3.B t):=QD Ip.bI htp;have hg: ∀t',ap (dM cz.fr t (.box yR)) t'=if t'=t then .box yR else ap cz.fr t':=(by grind [bA])
   have ja:=wh.sU.ajx (t:=t) (aQ:=e3.B t) (cs:=yR) wh.ptr hv ⟨.inr (gD _ zY),⟨ob,bW,CJ⟩,λoff=>by rw [wh.φ];exact Ip.free off⟩ (by
     intro t' gl Nf dt ZM;rcases wh.box t' gl Nf with h0|⟨h0,xz,h1⟩
     .grind
     .exact h3.bb t' t xz ls h1 hf dt (by grind))
    (by
     intro f o ho ZM;rcases wh.fJ f o _ ho ZM with h0|⟨g,h0⟩
     .exact h0 zY
     .have ⟨h5,o5,h6⟩:=wh.pair f g h0;rw [h5] at ZM;exact h3.bf t ls g o5 hf h6 ZM)
   refine ih (e:=e1.BM t (e3.B t)) ⟨ja,wh.φ,?_,wh.fJ,wh.pair,wh.has,wh.own,?_,?_⟩ h3 gD hF2 (by grind [du]) abn Nv qH
   .intro t' cs Nf;rw [hg] at Nf;show¬Zi.In (if t'=t then e3.B t else e1.B t')\/((if t'=t then e3.B t else e1.B t')=e3.B t'/\_);by_cases wu:t'=t
    .grind
    .rw [if_neg wu] at Nf⊢;exact wh.box t' cs Nf
   .intro t';rw [hg];by_cases wu:t'=t
    .rw [if_pos wu];rfl
    .rw [if_neg wu];exact wh.ptr t'
   .intro t' f hm;rw [hg] at hm;by_cases wu:t'=t
    .rw [if_pos wu] at hm;exact .inr (JC f hm)
    .rw [if_neg wu] at hm;exact wh.men t' f hm
  cases ht with
  |sc hf ht1 Nv=>
   rename_i jW k l ms ns;rw [hf] at h3t;simp only [et] at ll;cases Rb:gn c [k] with
   |false=>grind
   |true=>
    simp only [Rb,cond_true] at ll;have hF1: ∀f∈bx [k],f∈F/\f∉Zb.ch:=(by grind [bO,adZ])
    have hF2: ∀f∈bO os,f∈F/\f∉Zb.ch:=(by grind [bO,ad5])
    simp only [od] at hK;have qE: ∃vs,aP e3 vs l/\ ∀(e1:Env) (l':ax),aP e1 vs l'->(∀m,l'= .p m->m.one=true)->l'≠ .un->af e1 (a.tmps.getD t undef) (.sc l'):=by
     have h3s:af e3 (a.tmps.getD t undef) (.sc l):=h3t;cases ht1 with
     |cons hk1 _=>
      generalize a.tmps.getD t undef=v at h3s;by_cases hh: ∃k n x,l= .hs k n x
      .obtain ⟨k,n,x,rfl⟩:=hh;have ⟨hv,Ty⟩:=h3s;refine ⟨bE k x,⟨rfl,Ty⟩,λe1 l' Mk ho hu=> ?_⟩;have hlen:=cA k x;cases l' with
       |un=>grind
       |hs k2 n2 y=>have ⟨Mk,h2⟩:=Mk;refine ⟨?_,h2⟩;grind
       |nil=>have Mk:bE k x=[_]:=Mk;grind
       |mp s es=>exact Mk.elim
       |own f=>have ⟨u,hu2,_⟩:=Mk;grind
       |p m=>have ⟨u,hu2,_⟩:=Mk.2.one (ho m rfl);grind
      .have hun:l≠ .un:=by intro he;subst he;cases hk1
       have eu:aP e3 [v] l:=(by grind [af.aiP])
       refine ⟨[v],eu,λe1 l' Mk ho hu=> ?_⟩;cases l' with
       |un=>grind
       |hs k2 n2 y=>have ⟨Mk,h2⟩:=Mk;grind [cA]
       |nil=>exact Mk
       |mp s es=>exact Mk
       |own f=>exact Mk
       |p m=>exact Mk
    have ⟨vs,pi,am0⟩:=qE;have ⟨e1,cz,yR,qH,wh,CJ,DX,ae4,ajy,JC,hB1,ajz⟩:=z7 (vs:=vs) hi h3 gD hF1 Rb (show ar e3 vs [l] from ⟨vs,[],aaS,pi,rfl⟩) ht1 hK;split at qH
    .rename_i l';have ⟨v1,u1,hvu,GR,hu1⟩:=CJ;subst hu1;have hvu:vs=v1:=by simpa using hvu
     subst hvu;refine next wh rfl rfl ?_ (by grind [rv]) hF2 ll Nv qH
     refine am0 e1 l' GR ?_ ?_
     .intro m hm;subst hm;exact GR.1
     grind
    .cases qH
  |ag hf ht1 Nv=>
   rename_i jW ks ls ms ns;rw [hf] at h3t;simp only [et] at ll;cases Rb:gn c ks with
   |false=>grind
   |true=>simp only [Rb,cond_true] at ll;have h3s:af e3 (a.tmps.getD t undef) (.ag ls):=h3t;have ⟨arr,hv,pi⟩:=h3s;have ⟨e1,cz,yR,qH,wh,CJ,DX,ae4,ajy,JC,hB1,ajz⟩:=z7 hi h3 gD (by grind [bO,adZ]) Rb pi ht1 hK;exact next (s:= .ag yR) wh rfl rfl ⟨arr,hv,CJ⟩ JC (by grind [bO,ad5]) ll Nv qH
  |box hf ht1 Nv=>
   rename_i jW ks ls ms ns;rw [hf] at h3t;simp only [et] at ll;cases Rb:gn c ks with
   |false=>grind
   |true=>
    simp only [Rb,cond_true] at ll;simp only [od] at hK;have zG:dx ls=false:=by
     cases hm:dx ls with
     |false=>rfl
     |true=>obtain ⟨s,es,rfl⟩:=Ig hm;cases ht1;rename_i h1 _;cases h1
    have ⟨hv,Ip⟩:=h3t;cases GV:A0 t&&!bB st.ca (posOf t) with
    |true=>grind
    |false=>
    simp only [GV,cond_false] at hK;have lC: ∀yR,dx yR=false->tied Zb t (a.tmps.getD t undef) yR (e3.B t):=λyR hm'=>⟨λhp=>by rw [hv.1 hp,sN zG,sN hm'],λhp=>by
     have ⟨k1,k2⟩:=hv.2 hp;rw [hp] at GV;have k3:posOf t∈Zb.ca:=by rw [<-hi.sU.defers.2.1,<-bm];simpa using GV
     exact ⟨k3,by rw [<-hi.sU.defers.2.2.2 _ k3,h3.defers.2.2.2 _ k1,k2]⟩⟩
    have ⟨arr,T,bW,pi⟩:=Ip.cells zG;have ⟨e1,cz,yR,qH,wh,CJ,DX,ae4,ajy,JC,hB1,ajz⟩:=z7 hi h3 gD (by grind [bO,adZ]) Rb pi ht1 hK;exact abp wh hf (lC _ CJ.zS) bW ⟨rfl,CJ⟩ JC (by grind [bO,ad5]) ll Nv qH
  |mp hf Nv=>
   rename_i s es ns;rw [hf] at h3t;simp only [od] at hK;cases GV:A0 t with
   |true=>grind
   |false=>
   simp only [GV,cond_false,gC,gL] at hK;have ⟨ZP,Ip⟩:=h3t;have hv:tied Zb t (a.tmps.getD t undef) [ax.mp s es] (e3.B t):= .own GV (ZP.1 GV);have ⟨ob,bW,hob⟩:=Ip.obj;cases ob with
   |cells arr T z=>exact absurd hob.2.zS (by simp [dx])
   |map arr n=>exact abp hi hf hv bW hob (by grind) (by grind [bO]) ll Nv hK
   |stringIter x n=>exact abp hi hf hv bW hob (by grind) (by grind [bO]) ll Nv hK
   |_=>exact hob.elim
  |pt hf hp hb Nv=>have ⟨bG,g1,g2⟩:=abo hi.sU h3 (.pt hf hp hb Nv) hK;grind [hi.φ]
def Eb {os:List (Nat×OK)}{ms:List MV}(hJ:wA c Zb Zi e B hn a w)(h3:bC c Zi e3 jQ a w) (hφ:e3.φ=e.φ)(hos:(∀t∈du os,t∈du hn.all)/\(∀f∈bO os,f∈bO hn.all))(ll:et c os=true)(ht:TO jQ [] os ms)(hK:od B os ms K=some r): ∃e' bG,bC c Zb e' bG a w/\e'.φ=e.φ/\K bG=some r:=by
 rw [<-hφ];refine XM (F:=bO hn.all) ⟨hJ.sU,hφ.symm,λt cs hb=> .inl (hJ.box t cs hb),λf o b ho hb=> .inl (hJ.fJ f o b ho hb),(by grind),(by grind),?_,hJ.ptr,λt f hm=> .inl (hJ.men t f hm)⟩ h3 hJ.sub ?_ ?_ ll ht hK
 .intro f hf o ho;rw [(hJ.aeZ f hf).2] at ho;cases ho
 .intro f hf;exact ⟨hos.2 f hf,(hJ.aeZ f (hos.2 f hf)).1⟩
 .intro t QH;exact (hJ.ajs t (hos.1 t QH)).2
end
theorem G7 {os:List (Nat×OK)}{t:Nat}:t∈du os↔ ∃k,(t,k)∈os:=by
 induction os with
 |nil=>simp [du]
 |cons p os ih=>simp only [du,AT,ih,aey];grind
def abq:OK->List Nat
 | .sc k=>bx [k]
 | .ag ks=>bx ks
 | .box ks=>bx ks
 | .mp _=>[]
 | .pt _ _=>[]
theorem O2 (t:Nat)(k:OK)(os:List (Nat×OK)):bO ((t,k)::os)=abq k++bO os:=by cases k<;>rfl
theorem G8 {os:List (Nat×OK)}{f:Nat}:f∈bO os↔ ∃p∈os,f∈abq p.2:=by
 induction os with
 |nil=>simp [bO]
 |cons p os ih=>grind [O2]
def JD (c:Ctx):OK->Bool
 | .sc k=>gn c [k]
 | .ag ks=>gn c ks
 | .box ks=>gn c ks
 | .mp _=>true
 | .pt _ _=>true
def Rc {c:Ctx}(t:Nat)(k:OK)(os:List (Nat×OK)):et c ((t,k)::os)=(JD c k&&et c os):=by
 cases k with
 |sc k=>grind [et,JD,gn]
 |ag k=>grind [et,JD,gn]
 |box k=>grind [et,JD,gn]
 |mp s=>simp only [et,JD,afA]
 |pt r o=>simp only [et,JD,afA]
theorem JE {c:Ctx}{os:List (Nat×OK)}:et c os=true↔ ∀p∈os,JD c p.2=true:=by
 induction os with
 |nil=>simp [et]
 |cons p os ih=>rw [Rc,sh,ih,List.forall_mem_cons]
def abr {l:List (Nat×List (Nat×OK))}{e:Nat}{p:Nat×OK}(h:p∈Z4 l e):p∈VA l:=by
 induction l with
 |nil=>grind [Z4]
 |cons q l ih=>grind [Z4,VA,AI]
def O3 {hn:eE}{e:Nat}:(∀t∈du (hn.ex e),t∈du hn.all)/\(∀f∈bO (hn.ex e),f∈bO hn.all)/\ ∀{c:Ctx},et c hn.all=true->et c (hn.ex e)=true:=by have hm: ∀p∈hn.ex e,p∈hn.all:=λp hp=>ad5 _ (abr hp);grind [G7,G8,JE]
def abt {hn:eE}:(∀t∈du hn.outs,t∈du hn.all)/\(∀f∈bO hn.outs,f∈bO hn.all)/\ ∀{c:Ctx},et c hn.all=true->et c hn.outs=true:=by have hm: ∀p∈hn.outs,p∈hn.all:=λp hp=>adZ _ hp;grind [G7,G8,JE]
def Re {R:Type}{r:R}{l:List Nat}{e:Nat}{K:Nat->Option R}(h:L2 l e K=some r):K e=some r:=by
 induction l with
 |nil=>grind [L2]
 |cons p l ih=>
  cases l with
  |nil=>grind [L2,eQ]
  |cons q l=>simp only [L2,eQ] at h;grind
def XN {σ R:Type}{r:R}{body:σ->Option (Sum σ R)}{k:Nat}{s:σ}(h:sG k body s=some r): ∃n,iter body n s=some r:=by
 unfold sG at h;split at h
 .grind
 .split at h;all_goals grind
def xC:Nat->Exit
 |0=> .normal
 |1=> .ret
 |n+2=> .exit n
section
variable {P:Program}{c:Ctx}{Z Zb Zi:bn}{e e' e3:Env}{st bG jQ B:St}{a a':Act}{w w':World}{R:Type}{r:R}{Q:Exit->Act->World->Prop}{o:Oper}{hn:eE}
def O4 (P:Program)(c:Ctx)(id:Nat)(ops:Array Oper)(d:Bool)(l:List Oper):Prop:=∀{Z:bn} {e:Env} {st:St} {a:Act} {w:World} {R:Type} {K:St->Option R} {r:R} {Q:Exit->Act->World->Prop},bC c Z e st a w->DN c ops.toList l st K=some r-> (∀a' w',Out c Z K r e.φ w a' w'->Q .normal a' w')->(ahr id ops d).wp P Q a w
def XO (hG:Good P c)(id:Nat)(ops:Array Oper):O4 P c id ops false ops.toList:=by intro Z e st a w R K r Q h hK hQ;refine wp_region (ajr hG (os:=ops.toList) ?_ h hK (.refl _ _ _) hQ);apply ahK;grind
def Nw {id:Nat}{ops:Array Oper}{d:Bool}{l:List Oper}{K:St->Option R}(hr:O4 P c id ops d l)(h:bC c Z e st a w)(hK:Ic c id ops.toList l st K=some r)(hQ: ∀a' w',Out c Z K r e.φ w a' w'->Q .normal a' w'):(ahr id ops d).wp P Q a w:=by
 unfold Ic at hK;cases hg:guarded ops.toList with
 |false=>simp only [hg,cond_false] at hK;have ⟨bG,h',hK⟩:=qJ h hK;exact hr h' hK hQ
 |true=>
  simp only [hg,cond_true] at hK;have ⟨Zi,e1,e2,cz,cj,h1,t1,hφ,hk,j1,j2,gD,ll,hK⟩:=Ea h hK;have ⟨vs,hv,hK⟩:=ng hK;have ⟨arG,Ij,hv⟩:=qJ h1 hv;refine hr Ij hv ?_;rintro a' w' ⟨e3,jQ,h3,t3,hv3⟩;have ⟨ms,ht,OU⟩:=pJ hv3;cases OU;have t3':Trans Zi.In e2.φ w e3.φ w':=by rw [hφ];exact t3
  have jl:=j1.later t3' h3.jU h3.defers.1 h3.size h3.defers.2.2.2;have ⟨s1,s2,s3⟩:=O3 (hn:=c.dO id) (e:=0);have ⟨e5,st5,g1,g2,g3⟩:=Eb jl h3 rfl ⟨s1,s2⟩ (s3 ll) ht hK;refine hQ a' w' ⟨e5,st5,g1,?_,g3⟩;rw [g2];exact t1.trans ⟨t3.ph,λb hb=>t3.heap b (by grind),λb o hb=>t3.free b o (by grind),t3.size,t3.rest⟩
def Trans.sup {I J:Nat->Prop} {φ φ':Ph}(h:Trans I φ w φ' w')(hs: ∀b,I b->J b):Trans J φ w φ' w':=⟨h.ph,λb hb=>h.heap b (λhz=>hb (hs b hz)),λb o hb=>h.free b o (λhz=>hb (hs b hz)),h.size,h.rest⟩
def Ny {n:Nat}{next:Act->World->Prop}(hn:n≠0):Exit.then next Q (xC n)=Q (xC n):=by
 match n,hn with
 |1,_=>rfl
 |n+2,_=>rfl
def Rf (P:Program)(c:Ctx)(id:Nat)(ops:Array Oper):Prop:=∀{Z:bn} {e:Env} {st:St} {a:Act} {w:World} {R:Type} {K:St->Option R} {r:R} {Q:Exit->Act->World->Prop},bC c Z e st a w->aar c id ops.toList st K=some r-> (∀a' w',Out c Z K r e.φ w a' w'->Q .normal a' w')->(ahr id ops false).wp P Q a w
def Rg (P:Program)(c:Ctx):Prop:=(∀(id:Nat) (ops:Array Oper),Rf P c id ops)/\(∀(id:Nat) (ops:Array Oper) (l:List Oper),sK c ops (c.ord id)=true->qn ops.toList (c.ord id)=some l->O4 P c id ops true l)/\ ∀(id:Nat) (ops:Array Oper) (k:Nat) (l:List Nat) {Z:bn} {e:Env} {st:St} {a:Act} {w:World} {R:Type} [B7 R] {K:St->Option R} {r:R} {Q:Exit->Act->World->Prop},bC c Z e st a w->I7 c st K k ops l=some r-> (∀a' w',Out c Z K r e.φ w a' w'->Q .normal a' w')->(ahr id ops true).wp P Q a w
def XP {R:Type}[B7 R]{x y:Option R}{r:R}(h:both x y=some r):x=some r/\y=some r:=by grind [Vz]
def TV {n:Nat}{l o1 o2:List Nat}{A B:Nat}(h:aas n l=some (o1,o2,A,B)):A≠B/\A<n/\B<n:=by
 unfold aas at h;split at h
 .rename_i m A' B' _;cases hb:AI A' B'||(ae8 n A'||ae8 n B') with
  |true=>grind
  |false=>grind [IT,eQ,ahp]
 .cases h
def ajB {ts:List Nat}{K:St->Option R}(h:bC c Z e st a w)(hK:fzK c ts st K=some r): ∃e' bG,bC c Z e' bG a w/\Trans Z.In e.φ w e'.φ w/\K bG=some r:=by
 unfold fzK at hK;split at hK
 .exact ⟨e,st,h,.refl _ _ _,hK⟩
 .have ⟨e',bG,ms,h1,h2,_,h3,_⟩:=sP h hK;grind [h2.tr]
theorem Bb (hG:Good P c)(hD:Rg P c): ∀(code:Code) {R:Type} [B7 R] {r:R} {Z:bn} {e:Env} {st:St} {a:Act} {w:World} {K:Nat->St->Option R} {Q:Exit->Act->World->Prop},bC c Z e st a w->lu c code R st K=some r-> (∀n e' bG a' w',bC c Z e' bG a' w'->Trans Z.In e.φ w e'.φ w'->K n bG=some r->Q (xC n) a' w')->code.wp P Q a w:=by
 intro code;induction code with
 |skip=>intro R _ r Z e st a w K Q h hK hQ;exact wp_skip (hQ 0 e st a w h (.refl _ _ _) hK)
 |exit id=>intro R _ r Z e st a w K Q h hK hQ;exact wp_exit (hQ (id+2) e st a w h (.refl _ _ _) hK)
 |ret=>intro R _ r Z e st a w K Q h hK hQ;exact wp_ret (hQ 1 e st a w h (.refl _ _ _) hK)
 |region id ops d=>
  intro R _ r Z e st a w K Q h hK hQ;have XQ: ∀a' w',Out c Z (λst=>K 0 st) r e.φ w a' w'->Q .normal a' w':=by rintro a' w' ⟨e2,cj,h1,h2,h3⟩;exact hQ 0 e2 cj a' w' h1 h2 h3
  simp only [lu,VG] at hK;have ⟨e0,A4,h0,t0,hK⟩:=ajB h hK;have XQ: ∀a' w',Out c Z (λst=>K 0 st) r e0.φ w a' w'->Q .normal a' w':=by rintro a' w' ⟨e2,cj,h1,h2,h3⟩;exact XQ a' w' ⟨e2,cj,h1,t0.trans h2,h3⟩
  replace h:=h0
  cases d with
  |false=>exact hD.1 id ops h hK XQ
  |true=>
   cases h2:!AI (c.ord id).length ops.toList.length with
   |true=>
    simp only [h2,cond_true] at hK;unfold al7 at hK;cases hg:guarded ops.toList with
    |true=>
     simp only [hg,cond_true] at hK;have ⟨Zi,e1,e2,cz,cj,h1,t1,hφ,hk,j1,j2,gD,ll,hK⟩:=Ea h hK;have ⟨vs,hv,hK⟩:=ng hK;have ⟨arG,Ij,hv⟩:=qJ h1 hv;refine hD.2.2 id ops _ _ Ij hv ?_;rintro a' w' ⟨e3,jQ,h3,t3,hv3⟩;have ⟨ms,ht,OU⟩:=pJ hv3;cases OU;have t3':Trans Zi.In e2.φ w e3.φ w':=by rw [hφ];exact t3
     have jl:=j1.later t3' h3.jU h3.defers.1 h3.size h3.defers.2.2.2;have ⟨s1,s2,s3⟩:=O3 (hn:=c.dO id) (e:=0);have ⟨e5,st5,g1,g2,g3⟩:=Eb jl h3 rfl ⟨s1,s2⟩ (s3 ll) ht hK;refine XQ a' w' ⟨e5,st5,g1,?_,g3⟩;rw [g2];exact t1.trans ⟨t3.ph,λb hb=>t3.heap b (by grind),λb o hb=>t3.free b o (by grind),t3.size,t3.rest⟩
    |false=>simp only [hg,cond_false] at hK;have ⟨bG,h',hK⟩:=qJ h hK;exact hD.2.2 id ops _ _ h' hK XQ
   |false=>
   simp only [h2,cond_false] at hK;have ⟨hd,hK⟩:=ob hK;cases hp:qn ops.toList (c.ord id) with
   |none=>grind
   |some l=>simp only [hp] at hK;exact Nw (hD.2.1 id ops l hd hp) h hK XQ
 |seq x y ihx ihy=>
  intro R _ r Z e st a w K Q h hK hQ;refine wp_seq (ihx h hK ?_);intro n e1 cz a1 w1 h1 t1 qH;by_cases hn:n=0
  .subst hn;exact ihy h1 qH (λn e2 cj a2 w2 h2 t2 rq=>hQ n e2 cj a2 w2 h2 (t1.trans t2) rq)
  .rw [Ny hn];have:AI n 0=false:=by rw [eQ];simp [hn]
   grind
 |cond x y z ihy ihz=>
  intro R _ r Z e st a w K Q h hK hQ;simp only [lu] at hK;have ⟨hx,_⟩:=h.eval x;split at hK
  .rename_i v hv;rw [hv] at hx;have hxv:=Nc hx;refine wp_cond hxv ?_;cases hj:bB (lr y) 0&&bB (lr z) 0 with
   |false=>
    simp only [hj,cond_false] at hK;cases v with
    |true=>exact ihy h hK hQ
    |false=>exact ihz h hK hQ
   |true=>
    simp only [hj,cond_true] at hK;generalize hh:c.eg ((eZ (.seq y z)).getD 0)=hn at hK;have ⟨Zi,e1,e2,cz,cj,h1,t1,hφ,hk,j1,j2,gD,ll,hK⟩:=Ea h hK;have ⟨⟨n,vs⟩,hv,hK⟩:=ng hK;have hK:=Re hK;have fin: ∀n' e3 jQ a3 w3,bC c Zi e3 jQ a3 w3->Trans Zi.In e1.φ w e3.φ w3->dL jQ [] (hn.ex n') (λvs=>some (n',vs))=some (n,vs)->Q (xC n') a3 w3:=by
     intro n' e3 jQ a3 w3 h3 t3 hv3;obtain ⟨ms,ht,OU⟩:=pJ hv3;cases OU;have t3':Trans Zi.In e2.φ w e3.φ w3:=by rw [hφ];exact t3
     have jl:=j1.later t3' h3.jU h3.defers.1 h3.size h3.defers.2.2.2;obtain ⟨s1,s2,s3⟩:=O3 (hn:=hn) (e:=n);obtain ⟨e5,st5,g1,g2,g3⟩:=Eb jl h3 rfl ⟨s1,s2⟩ (s3 ll) ht hK;refine hQ n e5 st5 a3 w3 g1 ?_ g3;rw [g2];exact t1.trans (t3.sup gD)
    cases v with
    |true=>exact ihy h1 hv fin
    |false=>exact ihz h1 hv fin
  .simp at hK
 |block id b ih=>
  intro R _ r Z e st a w K Q h hK hQ;refine wp_block (ih h hK ?_);intro n e1 cz a1 w1 h1 t1 qH;by_cases hn:n=id+2
  .subst hn;simp at qH;grind [xC,Exit.inBlock]
  .simp only [eQ,hn,decide_false,cond_false] at qH;have:=hQ n e1 cz a1 w1 h1 t1 qH;match n,hn,this with
   |0,_,this=>exact this
   |1,_,this=>exact this
   |i+2,hn,this=>grind [xC,Exit.inBlock]
 |loop b ih=>
  intro R _ r Z e st a w K Q h hK hQ;simp only [lu] at hK;generalize hh:c.ec ((eZ b).getD 0)=hn at hK;have ⟨Zi,e1,e2,cz,cj,h1,t1,hφ,hk,j1,j2,gD,ll,hK⟩:=Ea h hK;have ⟨vs,ht,hK⟩:=pJ hK;have ⟨⟨n,ms⟩,hl,hK⟩:=ng hK;have ⟨k,TF⟩:=XN hl;have hK:=Re hK;refine wp_loop_rounds k ?_;have key: ∀(k:Nat) (vs:List MV) (e2 e3:Env) (jQ:St) (a3:Act) (w3:World),bC c Zi e3 jQ a3 w3->e3.φ=e2.φ->TO jQ [] hn.outs vs->wA c Z Zi e2 (CC st cj) hn a3 w3->wA c Zi Zi e2 cj hn a3 w3->Trans Z.In e.φ w e2.φ w3-> iter (λms=>od cj hn.outs ms λst=>lu c b (Sum (List MV) (Nat×List MV)) st λe st=>bif AI e 0 then dL st [] hn.outs λvs=>some (.inl vs) else dL st [] (hn.ex e) λvs=>some (.inr (e,vs))) k vs=some (n,ms)->Code.rounds P b Q k a3 w3:=by
   intro k;induction k with
   |zero=>grind [iter]
   |succ k ihk=>
    intro vs e2 e3 jQ a3 w3 h3 hφ3 ht3 j1 j2 t3 hi;simp only [iter] at hi;have ⟨s1,s2,s3⟩:=abt (hn:=hn);rw [rounds_succ];have go: ∀(res:Sum (List MV) (Nat×List MV)),(od cj hn.outs vs λst=>lu c b (Sum (List MV) (Nat×List MV)) st λe st=>
     bif AI e 0 then dL st [] hn.outs λvs=>some (.inl vs) else dL st [] (hn.ex e) λvs=>some (.inr (e,vs)))=some res->
     (∀QL,res= .inl QL->iter (λms=>od cj hn.outs ms λst=>lu c b (Sum (List MV) (Nat×List MV)) st λe st=>bif AI e 0 then dL st [] hn.outs λvs=>some (.inl vs) else dL st [] (hn.ex e) λvs=>some (.inr (e,vs))) k QL=some (n,ms))->
     (∀q,res= .inr q->q=(n,ms))->b.wp P (Exit.then (Code.rounds P b Q k) Q) a3 w3:=by
     intro res pk hl hr;obtain ⟨e5,st5,g1,g2,g3⟩:=Eb j2 h3 hφ3 ⟨s1,s2⟩ (s3 ll) ht3 pk;refine ih g1 g3 ?_;intro n' e6 st6 a6 w6 h6 t6 hK6;have t6':Trans Zi.In e2.φ w3 e6.φ w6:=by rw [<-g2];exact t6
     have jl1:=j1.later t6' h6.jU h6.defers.1 h6.size h6.defers.2.2.2;have jl2:=j2.later t6' h6.jU h6.defers.1 h6.size h6.defers.2.2.2;by_cases hn0:n'=0
     .subst hn0;have ⟨QL,ht6,hv6⟩:=pJ hK6;cases hv6;exact ihk QL {e2 with φ:=e6.φ} e6 st6 a6 w6 h6 rfl ht6 jl1 jl2 (t3.trans (t6'.sup gD)) (hl QL rfl)
     .rw [Ny hn0];have:AI n' 0=false:=by rw [eQ];simp [hn0]
      simp only [this,cond_false] at hK6;have ⟨QL,ht6,hv6⟩:=pJ hK6;cases hv6;cases hr _ rfl;have ⟨x1,x2,x3⟩:=O3 (hn:=hn) (e:=n);have ⟨e7,st7,q1,q2,q3⟩:=Eb jl1 h6 rfl ⟨x1,x2⟩ (x3 ll) ht6 hK;refine hQ n e7 st7 a6 w6 q1 ?_ q3;rw [q2];exact t3.trans (t6'.sup gD)
    grind
  grind
 |_=>grind [lu]
def G9 {ts:List Nat}: ∀{n:Nat} {vs:List Value} {ms:List MV} {K:Fr->List MV->Option R},aL e.key e.φ vs ms->I8 c ts n ms K=some r-> ∃fr rest Ce JF,K fr rest=some r/\vs=Ce++JF/\Ce.length=ts.length/\aL e.key e.φ JF rest/\aG fr=ahs n ts.length/\ (∀p∈fr,df p.2=false/\cg p.2=false/\ ∃v,Ce[p.1-n]? =some v/\af e v p.2):=by
 induction ts with
 |nil=>intro n vs ms K h hK;exact ⟨[],ms,[],vs,hK,rfl,rfl,h,rfl,aaS⟩
 |cons t ts ih=>
  intro n vs ms K h hK;simp only [I8] at hK;cases hI:c.tv t with
  |none=>grind
  |some I=>
   simp only [hI] at hK;cases ms with
   |nil=>grind [gC]
   |cons m ms=>
    simp only [gC] at hK;obtain ⟨v,u,rfl,h1,h2⟩:=h;have ⟨s,g1,g2,hK⟩:=xx h1 hK;obtain ⟨fr,rest,Ce,JF,hK,rfl,q1,q2,q3,q4⟩:=ih h2 hK;refine ⟨(n,s)::fr,rest,v::Ce,JF,hK,rfl,by simp [q1],q2,?_,?_⟩
    .grind [aG,afS,agt]
    .intro p hp;rcases AT.1 hp with rfl|hp
     .refine ⟨?_,?_,v,aaS,g1⟩
      .cases s<;>simp [Ca] at g2<;>rfl
      .cases s<;>simp [Ca] at g2<;>rfl
     .have hk:p.1∈aG fr:=ae9.2 ⟨p,hp,rfl⟩;grind
def Nz {mP:List (List Kd)}: ∀{n:Nat} {vs:List Value} {ms:List MV} {K:Fr->Option R},aL e.key e.φ vs ms->Tj mP n ms K=some r-> ∃fr,K fr=some r/\vs.length=mP.length/\aG fr=ahs n mP.length/\ (∀p∈fr,df p.2=false/\(∀cs,p.2≠ .box cs)/\ ∃v,vs[p.1-n]? =some v/\af e v p.2):=by
 induction mP with
 |nil=>
  intro n vs ms K h hK;cases ms with
  |nil=>cases h;exact ⟨[],hK,rfl,rfl,aaS⟩
  |cons m ms=>grind [Tj,gN]
 |cons ks mP ih=>
  intro n vs ms K h hK;cases ms with
  |nil=>grind [Tj,gC]
  |cons m ms=>
   simp only [Tj,gC] at hK;obtain ⟨v,u,rfl,h1,h2⟩:=h;unfold gP at hK;split at hK
   .rename_i cs;have ⟨_,h1⟩:=h1;have ⟨aQ,off,us,hv,hr,hφ⟩: ∃aQ off us,v= .pointer (some ⟨aQ,off,none⟩)/\fq e.key e.φ us cs/\ ∀j,j<us.length->e.φ aQ (off+j)=us[j]? :=by
     generalize DH:[v]=ws at h1;cases h1 with
     |rp aQ off us _ hr hφ=>grind
    have ⟨ls,LW,hK⟩:=xv (e:=e) (vs:=us) hK;have ⟨fr,hK,q1,q3,q4⟩:=ih h2 hK;refine ⟨(n,.IK ls)::fr,hK,by simp [q1],?_,?_⟩
    .grind [aG,afS,agt]
    .intro p hp;rcases AT.1 hp with rfl|hp
     .refine ⟨rfl,(by grind),v,aaS,?_⟩;exact ⟨aQ,off,us,hv,LW.rep hr,LW.ZJ,hφ⟩
     .have hk:p.1∈aG fr:=ae9.2 ⟨p,hp,rfl⟩;grind
   .simp at hK
def Ed {r:Fr}{t:Nat}(ht:t∈aG r):(t,ap r t)∈r:=by
 induction r with
 |nil=>grind [aG]
 |cons p r ih=>
  have ⟨k,x⟩:=p;simp only [ap,eQ];by_cases h:k=t
  .simp [h]
  .simp only [h,decide_false,cond_false];simp only [aG,aic,AT] at ht;exact ab3 _ (ih (ht.resolve_left (λe=>h e.symm)))
def fB (tmps:Array Value):ResultVar->Sem Value
 | .tmp t=>pure (tmps.getD t undef)
 | .cell a t=>do loadVar t (<-asAddr (tmps.getD a undef))
def XR {rs:List ResultVar}(hT:fw P c.ti): ∀{e:Env} {st:St} {K:List MV->Option R},bC c Z e st a w->OA c st none rs K=some r-> ∃e' bG ms vs,bC c Z e' bG a w/\Ext Z.In e e'/\(rs.mapM (fB a.tmps)).run P w= .ok vs w/\aL e'.key e'.φ vs ms/\K ms=some r:=by
 induction rs with
 |nil=>intro e st K h hK;exact ⟨e,st,[],[],h,.refl _ _,aaS,rfl,hK⟩
 |cons x rs ih=>
  intro e st K h hK;have go: ∀(s:Slot) (v:Value),af e v s->(fB a.tmps x).run P w= .ok v w->(nz st s λm st=>OA c st none rs λms=>K (m::ms))=some r-> ∃e' bG ms vs,bC c Z e' bG a w/\Ext Z.In e e'/\((x::rs).mapM (fB a.tmps)).run P w= .ok vs w/\aL e'.key e'.φ vs ms/\K ms=some r:=by
   intro s v hs bF hK;obtain ⟨e1,cz,m,h1,h2,h3,h4,hK⟩:=lE h hs hK;obtain ⟨e2,cj,ms,vs,q1,q2,q3,q4,hK⟩:=ih h1 hK;refine ⟨e2,cj,m::ms,v::vs,q1,h2.trans q2,?_,⟨v,vs,rfl,?_,q4⟩,hK⟩
   .simp_all
   .have:=h4.mono q2.on.φ;grind [q2.on.key]
  simp only [OA] at hK;cases x with
  |tmp t=>
   simp only at hK;split at hK
   .have ⟨e1,cz,ns,h1,h2,h3,hK,h5⟩:=sP h hK;cases ns with
    |nil=>cases hK
    |cons m ns=>
    cases ns with
    |cons=>cases hK
    |nil=>
    have ⟨e2,cj,ms,vs,q1,q2,q3,q4,hK⟩:=ih h1 hK;refine ⟨e2,cj,m::ms,a.tmps.getD t undef::vs,q1,h2.trans q2,?_,⟨_,vs,rfl,?_,q4⟩,hK⟩
    .have:(fB a.tmps (.tmp t)).run P w= .ok (a.tmps.getD t undef) w:=rfl;simp_all
    .have hm:=h5 m aaS;generalize hv:List.map a.eval [.tmp t]=us at h3;cases h3 with
     |cons v1 _ Ce _ g1 g2=>
     cases g2;rw [ahT] at hv;subst hv;have g1:=g1.mono q2.on.φ;rw [<-q2.on.key] at g1;cases m<;>first|exact ⟨rfl,g1⟩|grind [MV.one]
   have hs:=h.slot t;by_cases hb: ∃cs,ap st.fr t= .box cs
   .grind [nz]
   .refine go (ap st.fr t) (a.tmps.getD t undef) ?_ rfl hK;generalize ap st.fr t=s at hs hb;cases s<;>first|exact hs|grind
  |cell b t=>
   simp only at hK;have hs:=h.slot b;split at hK
   .rename_i I cs hI hb;have ⟨OI,Qk⟩:=aM hI;rw [hb] at hs;have ⟨hv,Ip⟩:=hs;cases Ff:dx cs||A0 b with
    |true=>grind
    |false=>
    have ⟨zG,hpb⟩:=IT.1 Ff;simp only [Ff,cond_false] at hK;have hv:=hv.1 hpb;rw [sN zG] at hv;have ⟨arr,T,bW,pi⟩:=Ip.cells zG;have hm:w.rangeAt (e.B b) 0 arr.toList:=by intro j v hj;rw [aea,cell_of bW];simpa using hj
    have ⟨v,s,h1,h2,h3,h4⟩:=fP (P:=P) (st:=st) (s:= .skip) (hT t I OI) Qk pi hm hK;grind [fB,asAddr,ahn,afo]
   .simp at hK
def NA {rs:List ResultVar}(hT:fw P c.ti)(h:bC c Z e st a w): ∀{K:List MV->Option R},QB c st rs K=some r-> ∃ms vs,(rs.mapM (fB a.tmps)).run P w= .ok vs w/\aL e.key e.φ vs ms/\ms.length=rs.length/\K ms=some r:=by
 induction rs with
 |nil=>intro K hK;exact ⟨[],[],aaS,rfl,rfl,hK⟩
 |cons x rs ih=>
  intro K hK;have go: ∀(s:Slot) (v:Value),af e v s->(fB a.tmps x).run P w= .ok v w->(match s with
   | .sc (.p m)=>QB c st rs λms=>K (m::ms)
   |_=>none)=some r-> ∃ms vs,((x::rs).mapM (fB a.tmps)).run P w= .ok vs w/\aL e.key e.φ vs ms/\ms.length=(x::rs).length/\K ms=some r:=by
   intro s v hs bF hK;split at hK
   .rename_i m;have ⟨ms,vs,q1,q2,q3,hK⟩:=ih hK;have ⟨g1,g2⟩:m.one=true/\il e.key e.φ [v] m:=hs;exact ⟨m::ms,v::vs,by simp_all,⟨v,vs,rfl,by cases m<;>simp [MV.one] at g1<;>exact ⟨rfl,g2⟩,q2⟩,by simp [q3],hK⟩
   .cases hK
  simp only [QB] at hK;cases x with
  |tmp t=>
   have hs:=h.slot t;by_cases hb: ∃cs,ap st.fr t= .box cs
   .grind
   .refine go (ap st.fr t) (a.tmps.getD t undef) ?_ rfl hK;generalize ap st.fr t=s at hs hb;cases s<;>first|exact hs|grind
  |cell b t=>
   simp only at hK;have hs:=h.slot b;split at hK
   .rename_i I cs hI hb;have ⟨OI,Qk⟩:=aM hI;rw [hb] at hs;have ⟨hv,Ip⟩:=hs;cases Ff:dx cs||A0 b with
    |true=>grind
    |false=>
    have ⟨zG,hpb⟩:=IT.1 Ff;simp only [Ff,cond_false] at hK;have hv:=hv.1 hpb;rw [sN zG] at hv;have ⟨arr,T,bW,pi⟩:=Ip.cells zG;have hm:w.rangeAt (e.B b) 0 arr.toList:=by intro j v hj;rw [aea,cell_of bW];simpa using hj
    have ⟨v,s,h1,h2,h3,h4⟩:=fP (P:=P) (st:=st) (s:= .skip) (hT t I OI) Qk pi hm hK;grind [fB,asAddr,ahn,afo]
   .simp at hK
def XS {x:ResultVar}{rs:List ResultVar}{ty:Nat}{I:TI}{K:List MV->Option R}(hI:c.tv ty=some I)(hT:fw P c.ti)(Cc:Z.ch=[])(h:bC c Z e st a w)(hK:OA c st (some ty) (x::rs) K=some r): ∃v xs us ms,((x::rs).mapM (fB a.tmps)).run P w= .ok (v::us) w/\bU c Z.nc e w v ⟨ty,false,xs⟩/\aL e.key e.φ us ms/\ms.length=rs.length/\K (.fresh xs::ms)=some r:=by
 have ⟨lC,hc⟩:=aM hI;have go: ∀(s:Slot) (v:Value),af e v s->(fB a.tmps x).run P w= .ok v w->(match s with
  | .sc (.own f)=>(match aB st.aF f with|some o=>bif o.fH||!AI o.ty ty then none else QB c st rs λms=>K (.fresh o.xs::ms)|none=>none)
  | .sc .nil=>QB c st rs λms=>K (.fresh []::ms)
  |_=>none)=some r-> ∃v xs us ms,((x::rs).mapM (fB a.tmps)).run P w= .ok (v::us) w/\bU c Z.nc e w v ⟨ty,false,xs⟩/\aL e.key e.φ us ms/\ms.length=rs.length/\K (.fresh xs::ms)=some r:=by
  intro s v hs bF hK;have hr: ∀{us:List Value},(rs.mapM (fB a.tmps)).run P w= .ok us w->((x::rs).mapM (fB a.tmps)).run P w= .ok (v::us) w:=(by simp_all)
  split at hK
  .rename_i f;cases hf:aB st.aF f with
   |none=>grind
   |some o=>
    simp only [hf] at hK;have ⟨hb,hK⟩:=oz hK;have ⟨ms,us,q1,q2,q3,hK⟩:=NA hT h hK;have ll:o.ty=ty:=(by simp_all)
    have ⟨hv,_⟩:=rW h hs hf;have ⟨J,cells,k1,k2,k3,k4,k5⟩:=(h.fJ f o hf).row;refine ⟨v,o.xs,us,ms,hr q1,⟨J,cells,by grind,k2,by grind,k4,λaQ hb=> ?_⟩,q2,q3,hK⟩;rw [hv] at hb;have ⟨q1,q2,_⟩:=k5 aQ hb;refine ⟨QD q1 (by grind),λoff u hu=> ?_,λhc=>hc.elim⟩;grind
  .have ⟨ms,us,q1,q2,q3,hK⟩:=NA hT h hK;have hs:[v]=[aeF none 0 0]:=hs;simp at hs;refine ⟨v,[],us,ms,hr q1,⟨I,[],lC,hc,by rw [hs];exact World.ownsRow_nil w 0 ty I.size,rfl,λaQ hb=> ?_⟩,q2,q3,hK⟩;grind [AS]
  .cases hK
 simp only [OA] at hK;cases x with
 |tmp t=>
  have hs:=h.slot t;by_cases hb: ∃cs,ap st.fr t= .box cs
  .grind
  .refine go (ap st.fr t) (a.tmps.getD t undef) ?_ rfl hK;generalize ap st.fr t=s at hs hb;cases s<;>first|exact hs|grind
 |cell b t=>
  simp only at hK;have hs:=h.slot b;split at hK
  .rename_i I cs hI hb;have ⟨OI,Qk⟩:=aM hI;rw [hb] at hs;have ⟨hv,Ip⟩:=hs;cases Ff:dx cs||A0 b with
   |true=>grind
   |false=>
   have ⟨zG,hpb⟩:=IT.1 Ff;simp only [Ff,cond_false] at hK;have hv:=hv.1 hpb;rw [sN zG] at hv;have ⟨arr,T,bW,pi⟩:=Ip.cells zG;have hm:w.rangeAt (e.B b) 0 arr.toList:=by intro j v hj;rw [aea,cell_of bW];simpa using hj
   have ⟨v,s,h1,h2,h3,h4⟩:=fP (P:=P) (st:=st) (s:= .skip) (hT t I OI) Qk pi hm hK;grind [fB,asAddr,ahn,afo]
  .simp at hK
theorem abu {X:Code->St->(Nat->St->Option MV)->Option MV}{b:Code}(hX: ∀{r:MV}{Z:bn}{e:Env}{st:St}{a:Act}{w:World}{K:Nat->St->Option MV}{Q:Exit->Act->World->Prop},bC c Z e st a w->X b st K=some r-> (∀n e' bG a' w',bC c Z e' bG a' w'->Trans Z.In e.φ w e'.φ w'->K n bG=some r->Q (xC n) a' w')->b.wp P Q a w){f:FuncId}{fn:Func}{m:MV}{Z:Nat->Prop} {φ:Ph}{e:Env}{st:St}{a:Act}{w:World}{vs:List Value}(hG:Good P c){fresh:Option Nat}(zT: ∀ty,fresh=some ty->ty=c.lq (c.key f)/\1<=fn.results.toList.length/\ ∃I,c.tv ty=some I)(lm:bC c (bn.plain Z) e st a w) (hφ:e.φ=φ)(hb:X b st (λe st=>bif ae8 e 1 then OA c st fresh fn.results.toList λms=>(match ms with|[m]=>some m|ms=>some (.cT ms)) else none)=some m): b.wp P (bodyPost P fn λe W=> ∃v,e= .returned v/\ ∃φ',Trans Z φ w φ' W/\ni φ' W/\sQ c Z φ' W (c.key f) vs v m) a w:=by
 subst hφ;refine hX lm hb ?_;intro n e' bG a' w' h' t' hK;have ⟨hle,hK⟩:=ob hK;have arJ: ∃φ' us,Trans Z e'.φ w' φ' w'/\ni φ' w'/\(fn.results.toList.mapM (fB a'.tmps)).run P w'= .ok us w'/\fA c Z φ' w' (c.key f) (if h:us.toArray.size=1 then us.toArray[0] else .tuple us.toArray) m:=by
  cases fresh with
  |some ty=>
   have ⟨h1,h2,I,h3⟩:=zT ty rfl;match hrs:fn.results.toList,h2 with
   |x::rs,_=>
    rw [hrs] at hK;have ⟨v,xs,us,ms,g1,g2,g4,g5,g3⟩:=XS (P:=P) h3 hG.ti rfl h' hK;have g2':bU c (bn.plain Z) (mT c.key e'.φ) w' v ⟨c.lq (c.key f),false,xs⟩:=by rw [<-h1];exact g2.env (e':=mT c.key e'.φ) h'.key.symm rfl
    rw [h'.key] at g4;refine ⟨e'.φ,v::us,.refl _ _ _,h'.jU,g1,?_⟩;cases ms with
    |nil=>cases g3;have:us=[]:=g4;subst this;exact g2'
    |cons m1 ms=>cases g3;obtain ⟨u1,us1,rfl,g6,g7⟩:=g4;exact ⟨v,u1::us1,rfl,g2',u1,us1,rfl,g6,g7⟩
  |none=>
  have ⟨e2,cj,ns,us,q1,q2,q3,q4,hK⟩:=XR (P:=P) hG.ti h' hK;refine ⟨e2.φ,us,q2.tr,q1.jU,q3,?_⟩;have TF:e2.key=c.key:=q1.key;rw [TF] at q4;split at hK
  .cases hK;obtain ⟨v,u,rfl,g1,g2⟩:=q4;subst g2;cases m<;>first|exact g1|exact absurd g1.1 (by simp [MV.one])
  .cases hK;have dt:us.toArray.size≠1:=by
    intro h1;cases us with
    |nil=>simp at h1
    |cons v us=>
     cases us with
     |cons=>simp at h1
     |nil=>
      cases ns with
      |nil=>cases q4
      |cons m1 ns1=>
       have ⟨v',u',h2,g1,g2⟩:=q4;obtain ⟨rfl,rfl⟩:=h2;cases ns1 with
       |nil=>grind
       |cons=>have ⟨_,_,h3,_⟩:=g2;simp at h3
   rw [dif_neg dt];exact Ml.args (by grind)
 have ⟨φ2,us,p1,p2,q3,p4⟩:=arJ;have pk:(results fn a'.tmps).run P w'= .ok (if h:us.toArray.size=1 then us.toArray[0] else .tuple us.toArray) w':=by
  have hm:(fn.results.mapM (fB a'.tmps)).run P w'= .ok us.toArray w':=by rw [afu];simp [q3]
  have SU:results fn a'.tmps=(do let vs<-fn.results.mapM (fB a'.tmps);pure (if h:vs.size=1 then vs[0] else .tuple vs)):=by unfold results;congr 1
  rw [SU];simp [hm]
 have Rh: ∃φ',Trans Z e.φ w φ' w'/\ni φ' w'/\fA c Z φ' w' (c.key f) (if h:us.toArray.size=1 then us.toArray[0] else .tuple us.toArray) m:=⟨φ2,t'.trans p1,p2,p4⟩
 match n,hle with
 |0,_=>exact ⟨h'.defers.1,_,pk,_,rfl,Rh.imp λφ' h=>⟨h.1,h.2.1,.plain h.2.2⟩⟩
 |1,_=>exact ⟨h'.defers.1,_,pk,_,rfl,Rh.imp λφ' h=>⟨h.1,h.2.1,.plain h.2.2⟩⟩
 |n+2,hle=>simp_all
theorem Ri {X:Code->St->(Nat->St->Option MV)->Option MV}{fn:Func}(hX: ∀(b:Code),fn.body=some b-> ∀{r:MV}{Z:bn}{e:Env}{st:St}{a:Act}{w:World}{K:Nat->St->Option MV}{Q:Exit->Act->World->Prop},bC c Z e st a w->X b st K=some r-> (∀n e' bG a' w',bC c Z e' bG a' w'->Trans Z.In e.φ w e'.φ w'->K n bG=some r->Q (xC n) a' w')->b.wp P Q a w)
 {f:FuncId} {aJ:List (List Kd)} {ms:List MV} {m:MV} (hG:Good P c) (hf:P.funcs[f]? =some fn) (z8:(fn.name== "runtime.NumGoroutine")=false)
 (hn:c.n=fn.ntmps) (uw:fn.params.size+aJ.length<=fn.ntmps) (hg:c.bK (c.key f)=false) {fresh:Option Nat} (zT: ∀ty,fresh=some ty->ty=c.lq (c.key f)/\1<=fn.results.toList.length/\ ∃I,c.tv ty=some I) (hb:VH X c aJ fresh fn ms=some m):dJ P c f ms m:=by
 intro φ w Z vs hz di iu;simp only [cv,hg,ad4,if_false] at di;unfold VH at hb;cases mG:fn.body with
 |none=>grind
 |some b=>
  simp only [mG] at hb;have bF:(callFunc f vs.toArray).run P w= .ok (.enter f vs.toArray) w:=by
   have Ik: ¬fn.name= "runtime.NumGoroutine" :=by simpa using z8
   simp [callFunc,hf,Ik,mG]
  unfold da;rw [bF];refine calls_of_wp hf mG ?_;let e:Env:=mT c.key φ;have di:aL e.key e.φ vs ms:=di;obtain ⟨fr,rest,Ce,JF,hb,rfl,l1,a2,k1,s1⟩:=G9 di hb;obtain ⟨xi,hb,l2,k2,s2⟩:=Nz a2 hb;simp only [xm] at hb;have htn:(Ce++JF).toArray.size=fn.params.size+aJ.length:=by simp [l1,l2]
  let a:Act:={tmps:=(Ce++JF).toArray++ae1 (fn.ntmps-(Ce++JF).toArray.size) undef,defers:=[]}
  have Ql: ∀(t:Nat) (v:Value),(Ce++JF)[t]? =some v->a.tmps.getD t undef=v:=by
   intro t v ht;have dh:t<(Ce++JF).length:=(by grind)
   rw [ad2];show (((Ce++JF).toArray++ae1 _ undef)[t]?).getD undef=v;rw [aeh (by grind)];simp only [ahq];rw [ht];rfl
  have Rj: ∀t,df (ap (fr++xi) t)=false/\(∀cs,ap (fr++xi) t≠ .box cs)/\af e (a.tmps.getD t undef) (ap (fr++xi) t):=by
   intro t;rw [zP];by_cases h1:t∈aG fr
   .simp only [h1,if_true];have ⟨g1,g2,v,g3,g4⟩:=s1 _ (Ed h1);refine ⟨g1,?_,?_⟩
    .grind [cg]
    grind
   .simp only [h1,if_false];by_cases h2:t∈aG xi
    .have ⟨g1,g2,v,g3,g4⟩:=s2 _ (Ed h2);grind
    .rw [sw _ _ h2];exact ⟨rfl,(by grind),by simp [af]⟩
  have lm:bC c (bn.plain Z) e ⟨[],[],fr++xi,[]⟩ a w:=by
   refine ⟨⟨rfl,rfl,rfl,(by grind [bn.plain])⟩,?_,rfl,rfl,?_,?_,(by grind [Ba]),(by grind [aB]),(by grind),(by grind),(by grind [aB]),iu,hz⟩
   .grind
   .have:aG (fr++xi)=aG fr++aG xi:=by simp [aG]
    grind [List.nodup_range']
   .intro t;have ⟨g1,g2,g3⟩:=Rj t;generalize ap (fr++xi) t=s at g1 g2 g3;cases s<;>first|exact g3|grind
  exact abu (hX b mG) hG zT lm rfl hb
def ae5 {f:FuncId}{fn:Func}{aJ:List (List Kd)}{ms:List MV}{m:MV}(hG:Good P c)(hD:Rg P c)(hf:P.funcs[f]? =some fn)(z8:(fn.name== "runtime.NumGoroutine")=false)
 (hn:c.n=fn.ntmps) (uw:fn.params.size+aJ.length<=fn.ntmps) (hg:c.bK (c.key f)=false) {fresh:Option Nat} (zT: ∀ty,fresh=some ty->ty=c.lq (c.key f)/\1<=fn.results.toList.length/\ ∃I,c.tv ty=some I) (hb:qB c aJ fresh fn ms=some m):dJ P c f ms m:=
 Ri (λb _=>λh hK hQ=>Bb hG hD b h hK hQ) hG hf z8 hn uw hg zT hb
def XT {rs:List ResultVar}(hT:fw P c.ti): ∀{e:Env} {st:St} {K:List MV->St->Option R},bC c Z e st a w->Xn c st rs K=some r-> ∃e' bG ms vs,bC c Z e' bG a w/\Ext Z.In e e'/\(rs.mapM (fB a.tmps)).run P w= .ok vs w/\aL e'.key e'.φ vs ms/\K ms bG=some r:=by
 induction rs with
 |nil=>intro e st K h hK;exact ⟨e,st,[],[],h,.refl _ _,aaS,rfl,hK⟩
 |cons x rs ih=>
  intro e st K h hK;have go: ∀(s:Slot) (v:Value),af e v s->(fB a.tmps x).run P w= .ok v w->(nz st s λm st=>Xn c st rs λms st=>K (m::ms) st)=some r-> ∃e' bG ms vs,bC c Z e' bG a w/\Ext Z.In e e'/\((x::rs).mapM (fB a.tmps)).run P w= .ok vs w/\aL e'.key e'.φ vs ms/\K ms bG=some r:=by
   intro s v hs bF hK;obtain ⟨e1,cz,m,h1,h2,h3,h4,hK⟩:=lE h hs hK;obtain ⟨e2,cj,ms,vs,q1,q2,q3,q4,hK⟩:=ih h1 hK;refine ⟨e2,cj,m::ms,v::vs,q1,h2.trans q2,?_,⟨v,vs,rfl,?_,q4⟩,hK⟩
   .simp_all
   .have:=h4.mono q2.on.φ;grind [q2.on.key]
  simp only [Xn] at hK;cases x with
  |tmp t=>
   have hs:=h.slot t;by_cases hb: ∃cs,ap st.fr t= .box cs
   .grind [nz]
   .refine go (ap st.fr t) (a.tmps.getD t undef) ?_ rfl hK;generalize ap st.fr t=s at hs hb;cases s<;>first|exact hs|grind
  |cell b t=>
   simp only at hK;have hs:=h.slot b;split at hK
   .rename_i I cs hI hb;have ⟨OI,Qk⟩:=aM hI;rw [hb] at hs;have ⟨hv,Ip⟩:=hs;cases Ff:dx cs||A0 b with
    |true=>grind
    |false=>
    have ⟨zG,hpb⟩:=IT.1 Ff;simp only [Ff,cond_false] at hK;have hv:=hv.1 hpb;rw [sN zG] at hv;have ⟨arr,T,bW,pi⟩:=Ip.cells zG;have hm:w.rangeAt (e.B b) 0 arr.toList:=by intro j v hj;rw [aea,cell_of bW];simpa using hj
    have ⟨v,s,h1,h2,h3,h4⟩:=fP (P:=P) (st:=st) (s:= .skip) (hT t I OI) Qk pi hm hK;grind [fB,asAddr,ahn,afo]
   .simp at hK
def bC.am4 {t:Nat}{cs gl:List ax}(h:bC c Z e st a w)(hf:ap st.fr t= .box cs)(hm:dx cs=false) (hm':dx gl=false)(hl: ∀arr T,w.heap[e.B t]? =some (.cells arr T (0,0))->ar e arr.toList gl):bC c Z e {st with fr:=dM st.fr t (.box gl)} a w:=by
 have hg: ∀t',ap (dM st.fr t (.box gl)) t'=if t'=t then .box gl else ap st.fr t':=by grind [bA]
 have hb: ∀t',cg (ap (dM st.fr t (.box gl)) t')=cg (ap st.fr t'):=by
  intro t';rw [hg];by_cases wu:t'=t
  .rw [if_pos wu,wu,hf];rfl
  .rw [if_neg wu]
 have hx: ∀t1 c1,ap (dM st.fr t (.box gl)) t1= .box c1-> ∃c2,ap st.fr t1= .box c2:=by
  intro t1 c1 h1;rw [hg] at h1;by_cases wu:t1=t
  .exact ⟨cs,by rw [wu];exact hf⟩
  .rw [if_neg wu] at h1;exact ⟨c1,h1⟩
 refine ⟨h.defers,h.size,h.m,h.key,dg h.nodup,λt'=> ?_,λt'=> ?_,h.fJ,λt1 t2 c1 c2 h1 h2 dt=> ?_,λt1 c1 f o h1 h2=> ?_,h.ff,h.jU,h.bI⟩
 .rw [hg];by_cases wu:t'=t
  .subst wu;rw [if_pos rfl];have hs:=h.slot t';rw [hf] at hs;have ⟨q1,q2⟩:=hs;have ⟨arr,T,q3,q4⟩:=q2.cells hm;have e1:lk cs=false:=by unfold lk;unfold dx at hm;grind
   have e2:lk gl=false:=by unfold lk;unfold dx at hm';grind
   exact ⟨q1.lk (by rw [e1,e2]),q2.bI,⟨_,q3,rfl,hl _ _ q3⟩,q2.free⟩
  .rw [if_neg wu];exact h.slot t'
 .have hr:=h.root t';rw [hg];by_cases wu:t'=t
  .rw [if_pos wu];trivial
  .rw [if_neg wu];generalize ap st.fr t'=s at hr;cases s<;>simp only [cM,hb] at hr⊢ <;>exact hr
 .obtain ⟨d1,h1⟩:=hx _ _ h1;obtain ⟨d2,h2⟩:=hx _ _ h2;exact h.bb t1 t2 d1 d2 h1 h2 dt
 .obtain ⟨d1,h1⟩:=hx _ _ h1;exact h.bf t1 d1 f o h1 h2
def ar.am5 {ls:List ax}{vs:List Value}(h:ar e vs ls):dx ls=false:=by
 cases hm:dx ls with
 |false=>rfl
 |true=>obtain ⟨s,ms,rfl⟩:=Ig hm;obtain ⟨v,u,rfl,h1,h2⟩:=h;exact h1.elim
def TW {ks:List LK}: ∀{ls:List ax} {e:Env} {st:St} {vs:List Value} {K:List ax->St->Option R},bC c Z e st a w->ar e vs ls->I9 ks st ls K=some r-> ∃e' bG yR,bC c Z e' bG a w/\Ext Z.In e e'/\bG.fr=st.fr/\ar e' vs yR/\K yR bG=some r:=by
 induction ks with
 |nil=>intro ls e st vs K h hl hK;exact ⟨e,st,ls,h,.refl _ _,rfl,hl,by simpa only [I9] using hK⟩
 |cons k ks ih=>
  intro ls e st vs K h hl hK;cases ls with
  |nil=>exact ⟨e,st,_,h,.refl _ _,rfl,hl,by simpa only [I9] using hK⟩
  |cons l ls=>
   obtain ⟨v,u,rfl,h1,h2⟩:=hl;unfold I9 at hK;cases hc:aiM k l with
   |false=>rw [hc,cond_false] at hK;have ⟨e2,cj,ls2,Il,SZ,QN,uR,rq⟩:=ih h h2 hK;exact ⟨e2,cj,l::ls2,Il,SZ,QN,⟨v,u,rfl,h1.on SZ.on (λf _=>trivial),uR⟩,rq⟩
   |true=>rw [hc,cond_true] at hK;have ⟨e1,cz,m,xt,GU,DX,CJ,qH,_,_,j0⟩:=jV h h1 hK;have ⟨e2,cj,ls2,Il,SZ,QN,uR,rq⟩:=ih xt (h2.on GU.on (λl _ f _=>trivial)) qH;refine ⟨e2,cj,.p m::ls2,Il,GU.trans SZ,QN.trans DX,⟨v,u,rfl,⟨j0 (λk n x hx=>by subst hx;cases k<;>simp [aiM] at hc),?_⟩,uR⟩,rq⟩;have:=CJ.mono SZ.on.φ;rw [<-SZ.on.key] at this;exact this
def JG {key:Nat->Nat} {φ:Ph}{v:Value}{m:MV}(h:cG key φ v (.cell m)):False:=by have:=h.1;grind [MV.one]
def am6 (off pos:Nat):A0 (1000000+off *1000+pos)=true:=ahp aah
theorem abv {f pos:Nat}{ks ko:List LK}{fn:Func}{aJ:List (List Kd)}{ms:List MV}{m:MV}(hG:Good P c)(hD:Rg P c)(hf:P.funcs[f]? =some fn)(z8:(fn.name== "runtime.NumGoroutine")=false)
 (hn:c.n=fn.ntmps) (hnp:fn.ntmps<=1000000) (uw:fn.params.size+aJ.length<=fn.ntmps) (hg:c.bK (c.key f)=true) (zh:c.sig (c.key f)=some (pos,ks,ko)) (hb:DO c aJ pos ks ko fn ms=some m):dJ P c f ms m:=by
 intro φ w Z vs hz di iu;unfold DO at hb;cases mG:fn.body with
 |none=>simp [mG] at hb
 |some b=>
 simp only [mG] at hb;split at hb;rotate_left
 .simp at hb
 rename_i b' off ls Nf Ff;cases Nf;cases pz:!gn c ks||!gn c ko||!ae8 pos 999 with
 |true=>simp [pz] at hb
 |false=>
 simp only [pz,cond_false] at hb;simp only [IT,afh] at pz;obtain ⟨⟨_,ll⟩,fj⟩:=pz;have fj:=aed fj;simp only [cv,hg,if_true] at di;have hC:ahx c Z φ w (c.key f) vs ms:=by
  rcases di with ⟨v0,v1,v2,xs,m1,ys,_,rfl,_,h4,_⟩|⟨v0,v1,v2,xs,m1,m2,_,rfl,_,_,h4,h5⟩|h
  .exfalso;rcases pos with _|_|_|pos<;>simp at Ff;subst Ff;exact JG h4
  .exfalso;rcases pos with _|_|_|pos<;>simp at Ff
   .subst Ff;exact JG h4
   .subst Ff;exact JG h5
  .exact h
 obtain ⟨pos',ks',ko',Tg,yR,aQ,zf,hvp,ajD,wB,qE⟩:=hC;rw [zh] at zf;simp only [No,aey] at zf;obtain ⟨rfl,rfl,rfl⟩:=zf;rw [Ff] at ajD;simp only [No,MV.cell.injEq,MV.func.injEq] at ajD;obtain ⟨rfl,rfl⟩:=ajD;obtain ⟨cs,mm,E,arr,T,Fu,bW,hzb,pv,pi,fQ,jt⟩:=qE;let e:Env:=⟨c.key,φ,E,λ_=>aQ,mm⟩
 have bF:(callFunc f vs.toArray).run P w= .ok (.enter f vs.toArray) w:=by
  have Ik: ¬fn.name= "runtime.NumGoroutine" :=by simpa using z8
  simp [callFunc,hf,Ik,mG]
 unfold da;rw [bF];refine calls_of_wp hf mG ?_;have wB:aL e.key e.φ vs (ms.set pos (.rp [])):=wB;obtain ⟨fr,rest,Ce,JF,hb,rfl,l1,a2,k1,s1⟩:=G9 wB hb;have ⟨xi,hb,l2,k2,s2⟩:=Nz a2 hb;simp only [xm] at hb;have ⟨gl,am7,A4,g1,hb⟩:=lF hb;cases am7 with
 |cons=>simp [gN] at hb
 |nil=>
 have ol:cs=gl/\mm=A4.aF:=by unfold Nk at Fu;rw [g1] at Fu;simp only [gN,No,aey] at Fu;exact ⟨Fu.1.symm,Fu.2.symm⟩
 have ⟨rfl,hmm⟩:=ol;rw [<-hmm] at hb;have htn:(Ce++JF).toArray.size=fn.params.size+aJ.length:=by simp [l1,l2]
 let a:Act:={tmps:=(Ce++JF).toArray++ae1 (fn.ntmps-(Ce++JF).toArray.size) undef,defers:=[]}
 have Ql: ∀(t:Nat) (v:Value),(Ce++JF)[t]? =some v->a.tmps.getD t undef=v:=by intro t v ht;have dh:t<(Ce++JF).length:=(ad6.1 ht).1;rw [ad2];show (((Ce++JF).toArray++ae1 _ undef)[t]?).getD undef=v;rw [aeh (by simpa using dh)];simp only [ahq];rw [ht];rfl
 have Rj: ∀t,df (ap (fr++xi) t)=false/\(∀cs,ap (fr++xi) t≠ .box cs)/\af e (a.tmps.getD t undef) (ap (fr++xi) t):=by
  intro t;rw [zP];by_cases h1:t∈aG fr
  .simp only [h1,if_true];have ⟨g1,g2,v,g3,g4⟩:=s1 _ (Ed h1);refine ⟨g1,?_,?_⟩
   .intro cs hc;simp only [hc,cg] at g2;cases g2
   .rw [Ql t v ?_];exact g4;have dh:t<Ce.length:=(ad6.1 g3).1;rw [aeo dh];exact g3
  .simp only [h1,if_false];by_cases h2:t∈aG xi
   .have ⟨g1,g2,v,g3,g4⟩:=s2 _ (Ed h2);refine ⟨g1,g2,?_⟩;rw [Ql t v ?_];exact g4;have hk:=h2;rw [k2,List.mem_range'] at hk;have GV:fn.params.size=Ce.length:=by rw [l1];simp
    rw [afj aah,<-GV];exact g3
   .rw [sw _ _ h2];exact ⟨rfl,λcs hc=>(by cases hc),by simp [af]⟩
 have ⟨q,hq⟩: ∃q,q=1000000+off *1000+pos:=⟨_,rfl⟩
 have hpq:A0 q=true:=by rw [hq];exact am6 off pos
 have hpo:posOf q=pos:=by rw [hq];unfold posOf;omega
 have hof:Qu q=off:=by rw [hq];unfold Qu;omega
 rw [<-hq] at hb;let Zc:bn:={bn.plain Z with ca:=[pos],T:=λ_=> .pointer (some ⟨aQ,off,none⟩)}
 have am8:a.tmps.getD pos undef= .pointer (some ⟨aQ,off,none⟩):=Ql pos _ hvp;have Nt: ∀t,ap ((q,Slot.box cs)::(fr++xi)) t=if t=q then .box cs else ap (fr++xi) t:=by
  intro t;simp only [ap,eQ];by_cases XU:t=q
  .subst XU;simp
  .have: ¬q=t:=λh=>XU h.symm;simp [XU,this]
 have abw:aG (fr++xi)=ahs 0 (fn.params.toList.length+aJ.length):=by
  have:aG (fr++xi)=aG fr++aG xi:=by simp [aG]
  rw [this,k1,k2];have:=List.range'_append_1 (s:=0) (m:=fn.params.toList.length) (n:=aJ.length);simpa using this
 have ahH: ∀t ds,ap ((q,Slot.box cs)::(fr++xi)) t= .box ds->t=q:=by
  intro t ds ht;rw [Nt] at ht;by_cases XU:t=q
  .exact XU
  .rw [if_neg XU] at ht;exact absurd ht ((Rj t).2.1 ds)
 have lm:bC c Zc e ⟨[pos],[],(q,.box cs)::(fr++xi),mm⟩ a w:=by
  refine ⟨⟨rfl,rfl,rfl,λt ht=> ?_⟩,?_,rfl,rfl,?_,?_,?_,λf o ho=> ?_,λt t' cs gl h1 h2 dt=> ?_,λt ds f o h1 ho=> ?_,λf f' o o' k h1 h2 h3 h4=>jt f f' o o' k h1 h2 h3 h4,iu,hz⟩
  .have:t=pos:=by simpa [Zc] using ht
   rw [this];exact am8
  .rw [Array.size_append,Array.size_replicate,htn,hn];omega
  .show (q::aG (fr++xi)).Nodup;rw [abw];refine List.nodup_cons.2 ⟨λhm=> ?_,List.nodup_range'⟩;rw [List.mem_range'] at hm;have:fn.params.toList.length=fn.params.size:=aaS
   omega
  .intro t;rw [Nt];by_cases XU:t=q
   .rw [if_pos XU,XU];exact ⟨⟨λhp=>(by rw [hpq] at hp;cases hp),λ_=>⟨by rw [hpo];simp [Zc],by rw [hof]⟩⟩,⟨.inr hzb,⟨_,bW,rfl,pi⟩,pv⟩⟩
   .rw [if_neg XU];have ⟨g1,g2,g3⟩:=Rj t;generalize ap (fr++xi) t=s at g1 g2 g3;cases s<;>first|exact g3|exact absurd rfl (g2 _)
  .intro t;rw [Nt];by_cases XU:t=q
   .rw [if_pos XU];trivial
   .rw [if_neg XU];exact Ba (Rj t).1
  .have ⟨I,cells,q1,q2,q3,q4,q5⟩:=(fQ f o ho).1.row;exact ⟨I,cells,q1,q2,q3,q4,λb hb=>⟨.inr (q5 b hb).1,(q5 b hb).2.1,λhc=>by simp [Zc,bn.fz,bn.plain] at hc⟩⟩
  .exact absurd ((ahH t _ h1).trans (ahH t' _ h2).symm) dt
  .exact (fQ f o ho).2
 refine Bb hG hD b lm hb ?_;intro n e' bG a' w' h' t' hK;have ⟨hle,hK⟩:=ob hK;have ⟨e2,cj,ns,us,q1,q2,q3,q4,hK⟩:=XT (P:=P) hG.ti h' hK;split at hK;rotate_left
 .simp at hK
 rename_i Ih DZ;cases SU:dx Ih with
 |true=>simp [SU] at hK
 |false=>
 simp only [SU,cond_false] at hK;have hs0:=q1.slot q;rw [DZ] at hs0;have ⟨aeO,T2,hh2,Q7⟩:=hs0.2.cells SU;have ⟨e3,jQ,xz,p1,p2,p3,p4,hK⟩:=TW q1 Q7 hK;simp only [L9,kU] at hK;have q1:=p1.am4 (by rw [p3];exact DZ) SU p4.am5 (λarr T hh=>by rw [p2.on.B _ trivial,hh2] at hh;cases hh;exact p4);have q2:=q2.trans p2;have q4:=q4.mono p2.on.φ;rw [<-p2.on.key] at q4;clear DZ SU p1 p3 Q7 hs0 p2;have SU:=p4.am5;have DZ:ap (dM jQ.fr q (.box xz)) q= .box xz:=by rw [bA,if_pos rfl]
 generalize eh:({jQ with fr:=dM jQ.fr q (.box xz)}:St)=cj at q1;have DZ:ap cj.fr q= .box xz:=by rw [<-eh];exact DZ
 have ⟨outs,ps,ht,hK⟩:=CO hK;have ht:TC cj [] ko xz outs ps:=by rw [<-eh];exact ht
 simp at hK;have pk:(results fn a'.tmps).run P w'= .ok (if h:us.toArray.size=1 then us.toArray[0] else .tuple us.toArray) w':=by
  have hm:(fn.results.mapM (fB a'.tmps)).run P w'= .ok us.toArray w':=by rw [afu];simp [q3]
  have SU:results fn a'.tmps=(do let vs<-fn.results.mapM (fB a'.tmps);pure (if h:vs.size=1 then vs[0] else .tuple vs)):=by unfold results;congr 1
  rw [SU];simp [hm]
 have am9:=q1.slot q;rw [DZ] at am9;have ⟨_,hT⟩:=am9.1.2 hpq;have hB:e3.B q=aQ:=by have hT:Value.pointer (some ⟨aQ,off,none⟩)= .pointer (some ⟨e3.B q,Qu q,none⟩):=hT;simp only [Value.pointer.injEq,No,Addr.mk.injEq] at hT;exact hT.1.symm
 have ana:bB cj.ca q=false:=by
  rw [q1.defers.2.1];cases hh:bB Zc.ca q with
  |false=>rfl
  |true=>
   have:=(bm _ _).1 hh;have:q=pos:=by simpa [Zc] using this
   omega
 have hco:=(Jq q1 DZ SU ll ht).wide (D9 q1 DZ ana ht);have TF:e3.key=c.key:=q1.key;have Rh: ∃φ',Trans Z φ w φ' w'/\ni φ' w'/\sQ c Z φ' w' (c.key f) (Ce++JF) (if h:us.toArray.size=1 then us.toArray[0] else .tuple us.toArray) m:=by
  refine ⟨e3.φ,t'.trans q2.tr,q1.jU,?_⟩;rw [TF] at q4;subst hK;refine ⟨?_,pos,ks,ko,aQ,off,zh,hvp,by rw [<-hB];exact hco⟩;by_cases hns: ∃m',ns=[m']
  .obtain ⟨m',rfl⟩:=hns;obtain ⟨v,u,rfl,g1,g2⟩:=q4;subst g2;cases m'<;>first|exact g1|exact absurd g1.1 (by simp [MV.one])
  .have hm:al8 ns= .cT ns:=by
    cases ns with
    |nil=>rfl
    |cons x l=>
     cases l with
     |nil=>exact absurd ⟨x,rfl⟩ hns
     |cons=>rfl
   have dt:us.toArray.size≠1:=by intro h1;have:=q4.length;rw [List.size_toArray] at h1;rw [h1] at this;obtain ⟨m1,h2⟩:=List.length_eq_one_iff.1 this.symm;exact hns ⟨m1,h2⟩
   rw [hm,dif_neg dt];exact Ml.args (by simpa using q4)
 match n,hle with
 |0,_=>exact ⟨h'.defers.1,_,pk,_,rfl,Rh⟩
 |1,_=>exact ⟨h'.defers.1,_,pk,_,rfl,Rh⟩
 |n+2,hle=>simp [ae8] at hle
end
section
open Go.WideShapes
def Fw (W:World):Ph:=λb o=>W.cell? ⟨b,o,none⟩
def abx (W:World):ni (Fw W) W:=λb o v h=>h
def O5 (P:Program):List Field->Nat->Nat->Bool
 |[],o,n=>AI o n
 |f::fs,o,n=>AI f.offset o&&O5 P fs (o+P.cellsOf f.type) n
def okT (P:Program):Nat->TypeId->Bool
 |0,_=>false
 |d+1,t=>match P.underlying t with
  |some .bool=>true
  |some (.int _)=>true
  |some .string=>true
  |some (.slice e)=>okT P d e&&ae8 1 (P.cellsOf e)
  |some (.struct fs)=>O5 P fs.toList 0 (P.cellsOf t)&&fs.toList.all λf=>okT P d f.type
  |some (.array n e)=>AI n 32&&(match P.underlying e with|some (.int .u8)=>true|_=>false)&&AI (P.cellsOf e) 1&&AI (P.cellsOf t) 32
  |_=>false
def ME (P:Program)(F:TypeId->List MV->Prop)(e:TypeId)(x:MV):Prop:=match P.underlying e with
 |some (.struct _)=> ∃cs,x= .agg cs/\F e cs
 |_=>F e [x]
def FT (F:TypeId->List MV->Prop):List TypeId->List MV->Prop
 |[],ms=>ms=[]
 |t::ts,ms=> ∃a b,ms=a++b/\F t a/\FT F ts b
def MT (P:Program):Nat->TypeId->List MV->Prop
 |0,_,_=>False
 |d+1,t,ms=>match P.underlying t with
  |some .bool=> ∃b,ms=[.b b]
  |some (.int k)=> ∃n,ms=[.i k n]/\(Lit.int k n).wf=true
  |some .string=> ∃l:List UInt8,ms=[.s l]/\l.length<=maxLen
  |some (.slice e)=> ∃xs,ms=[.list xs]/\xs.length<=maxLen/\ ∀x∈xs,ME P (MT P d) e x
  |some (.struct fs)=>FT (MT P d) (fs.toList.map (·.type)) ms
  |some (.array _ _)=> ∃x:List Int,ms=[.h .u8 30 x]/\x.length=32/\ ∀y∈x,0<=y/\y<=255
  |_=>False
section
variable {H:Type}{enc:TypeId×Value->H}{P:Program}{W:World}{base:Nat}{sp:Nat->Bool}{held:Bool}{key:Nat->Nat}
def fq.append {key:Nat->Nat} {φ:Ph}{ms ns:List MV}: ∀{vs us:List Value},fq key φ vs ms->fq key φ us ns->fq key φ (vs++us) (ms++ns):=by
 induction ms with
 |nil=>intro vs us h h';cases h;grind
 |cons m ms ih=>
  intro vs us h h';cases h with
  |cons v _ vs _ h1 h2=>rw [List.append_assoc];exact .cons v m _ _ h1 (ih h2 h')
def fq.aby {key:Nat->Nat} {φ:Ph}{v:Value}{m:MV}(h:il key φ [v] m):fq key φ [v] [m]:=by have:=fq.cons [v] m [] [] h .nil;grind
def fq.single {key:Nat->Nat} {φ:Ph}{vs:List Value}{m:MV}(h:fq key φ vs [m]):il key φ vs m:=by
 cases h with
 |cons v _ vs _ h1 h2=>cases h2;grind
theorem Fx {a:Addr}{n:Nat}{cs:List Value}(h:W.cells? base a n=some cs):cs.length=n/\ ∀j,j<n->W.cell? (a.add j)=cs[j]? :=by
 unfold World.cells? at h;split at h
 .have hl:=mapM_some_length h;refine ⟨by grind,λj hj=> ?_⟩;exact mapM_some_get h j j (by simp [hj])
 .cases h
def Rk {F:TypeId->List MV->Prop}{fuel:Nat}{cs:List Value}: ∀(fs:List Field) (o n:Nat) (xs:List (DataW H×List MemPlace)),O5 P fs o n=true->cs.length=n-> (∀(i:Nat) (f:Field),fs[i]? =some f->DataW.trod enc P W base sp held fuel f.type ((cs.drop f.offset).take (P.cellsOf f.type))=xs[i]?)->xs.length=fs.length-> (∀f∈fs,∀gl x,DataW.trod enc P W base sp held fuel f.type gl=some x-> ∃ms,fq key (Fw W) gl ms/\F f.type ms)-> ∃ms,fq key (Fw W) (cs.drop o) ms/\FT F (fs.map (·.type)) ms:=by
 intro fs;induction fs with
 |nil=>intro o n xs hc hl _ _ _;have:o=n:=bo hc;subst this;refine ⟨[],?_,rfl⟩;rw [<-hl,List.drop_length];exact .nil
 |cons f fs ih=>
  intro o n xs hc hl hx Ty hF;simp only [O5,sh] at hc;have ho:=bo hc.1;cases xs with
  |nil=>simp at Ty
  |cons x xs=>have h0:=hx 0 f rfl;obtain ⟨m1,r1,t1⟩:=hF f aaS _ x (by simpa using h0);have ⟨m2,r2,t2⟩:=ih (o+P.cellsOf f.type) n xs hc.2 hl (λi g hg=>by have:=hx (i+1) g (by simpa using hg);simpa using this) (by simpa using Ty) (λg hg=>hF g (by simp [hg]));refine ⟨m1++m2,?_,m1,m2,rfl,t1,t2⟩;have:=r1.append r2;grind [ad9,ad0]
theorem abz: ∀(fuel D:Nat) (t:TypeId) (cs:List Value) (x:DataW H×List MemPlace),okT P D t=true->DataW.trod enc P W base sp held fuel t cs=some x-> ∃ms,fq key (Fw W) cs ms/\MT P fuel t ms:=by
 intro fuel;induction fuel with
 |zero=>simp_all [DataW.trod]
 |succ fuel ih=>
  intro D t cs x hD h;cases D with
  |zero=>grind [okT]
  |succ D=>
   unfold okT at hD;cases hu:P.underlying t with
   |none=>grind
   |some d=>
    cases d<;>simp only [hu] at hD<;>try (cases hD;done)
    case bool=>obtain ⟨b,rfl,_⟩:=DataW.trod_bool hu h;exact ⟨[.b b],.aby (.b b),by simp only [MT,hu];grind⟩
    case int k=>obtain ⟨n,rfl,_,hw⟩:=DataW.trod_int hu h;exact ⟨[.i k n],.aby (.i k n),by simp only [MT,hu];grind⟩
    case string=>obtain ⟨s,rfl,_,hw⟩:=DataW.trod_string hu h;exact ⟨[.s s.data.toList],.aby (.s s),by simp only [MT,hu];simp_all⟩
    case struct fs=>have ⟨xs,n,hn,_,hl,Ty,hx⟩:=DataW.trod_struct hu h;simp only [sh] at hD;have ⟨ms,r1,t1⟩:=Rk (F:=MT P n) (key:=key) fs.toList 0 (P.cellsOf t) xs hD.1 hl (λi f hf=>hx i f (by simpa using hf)) (by simpa using Ty) (by grind);grind [MT]
    case slice e=>
     simp only [sh] at hD;have fj:1<=P.cellsOf e:=(by simp_all)
     rcases DataW.trod_slice hu h with ⟨rfl,_⟩|⟨a,len,cap,elems,rest,n,hn,rfl,_,_,hlc,HF,hel,hx,_⟩
     .refine ⟨[.list []],.aby (.list none 0 [] 0 0 0 (λ_=>[]) aaS aaS aaS aaS aaS),?_⟩;simp only [MT,hu];grind
     .have hn:n=fuel:=aah
      subst hn;have j0: ∀i,i<len-> ∃gl m,W.cells? base (a.add (i *P.cellsOf e)) (P.cellsOf e)=some gl/\il key (Fw W) gl m/\ME P (MT P n) e m:=by
       intro i hi;have h1:=hx i hi;cases hc:W.cells? base (a.add (i *P.cellsOf e)) (P.cellsOf e) with
       |none=>grind
       |some gl=>
        rw [hc] at h1;have dh:i<elems.length:=aah
        rw [aa0 dh] at h1;have ⟨ms,r1,t1⟩:=ih D e gl _ hD.1 (by simpa using h1);by_cases hs: ∃fs,P.underlying e=some (.struct fs)
        .exact ⟨gl,.agg ms,rfl,.agg gl ms r1,by simp only [ME,hs];grind⟩
        .have h1m: ∃m,ms=[m]:=by
          cases n with
          |zero=>exact t1.elim
          |succ n=>simp only [MT] at t1;grind
         obtain ⟨m,rfl⟩:=h1m;refine ⟨gl,m,rfl,r1.single,?_⟩;grind [ME,absurd]
      let f:Nat->List Value:=λi=>(W.cells? base (a.add (i *P.cellsOf e)) (P.cellsOf e)).getD [];let g:Nat->MV:=λi=>if hi:i<len then agv (aee (j0 i hi)) else default
      have hfg: ∀i,i<len->W.cells? base (a.add (i *P.cellsOf e)) (P.cellsOf e)=some (f i)/\il key (Fw W) (f i) (g i)/\ME P (MT P n) e (g i):=by
       intro i hi;have hsp:=aee (aee (j0 i hi));have hf:f i=agv (j0 i hi):=by show (W.cells? base (a.add (i *P.cellsOf e)) (P.cellsOf e)).getD []=_;exact congrArg (λo=>o.getD []) hsp.1
       have hg:g i=agv (aee (j0 i hi)):=by show (if hi:i<len then _ else _)=_;rw [dif_pos hi]
       rw [hf,hg];exact hsp
      have anb:0<len->a=⟨a.block,a.off,none⟩:=by
       intro h0;obtain ⟨h1,_,_⟩:=hfg 0 h0;obtain ⟨BP,hcg⟩:=Fx h1;have:=hcg 0 aah;rw [Nat.zero_mul] at this;have hz:(a.add 0).add 0=a:=rfl;rw [hz] at this;have dh:0<(f 0).length:=aah
       rw [aa0 dh] at this;unfold World.cell? at this;split at this
       .cases hsp:a.spot with
        |none=>cases a;grind
        |some s=>grind
       .cases this
      have aum: ∀i j,i<len->j<P.cellsOf e->Fw W a.block (a.off+i *P.cellsOf e+j)=(f i)[j]? :=by intro i j hi hj;obtain ⟨h1,_,_⟩:=hfg i hi;obtain ⟨BP,hcg⟩:=Fx h1;have:=hcg j hj;rw [<-this];unfold Fw;congr 1;have ha:=anb aah;rw [ha];rw [aiT,aiT]
      refine ⟨[.list ((aiU len).map g)],.aby ?_,?_⟩
      .have:=il.list (key:=key) (φ:=Fw W) (some a) cap ((aiU len).map g) a.block a.off (P.cellsOf e) f (by grind) (by grind) (by grind [Fx]) (by grind) (by grind);grind
      .simp only [MT,hu];grind
    case array n e=>
     simp only [sh] at hD;have ⟨⟨⟨h1,h2⟩,h3⟩,h4⟩:=hD;have h1:=bo h1;have h3:=bo h3;have h4:=bo h4;subst h1;have ⟨xs,m,hm,_,hl,Ty,hx⟩:=DataW.trod_array hu h;rw [h4] at hl;split at h2
     .rename_i hue;have qE: ∀i (hi:i<cs.length),∃b:Int,cs[i]= .int .u8 b/\0<=b/\b<=255:=by
       intro i hi;have ai5:i<32:=aah
       have:=hx i ai5;rw [h3,Nat.mul_one] at this;have SY:(cs.drop i).take 1=[cs[i]]:=by rw [List.take_one,List.head?_drop,aa0 hi];rfl
       rw [SY,aa0 aah] at this;obtain ⟨k,hk,_,hw⟩:=DataW.trod_int hue this;simp only [aev,and_true] at hk;refine ⟨k,hk,?_⟩;simp only [Lit.wf,sh,decide_eq_true_eq] at hw;have ai1:IntKind.u8.min=0:=aaD
       have arM:IntKind.u8.max=255:=aaD
       rw [ai1,arM] at hw;exact hw
      have: ∃l:List Int,cs=l.map (ain .u8)/\ ∀y∈l,0<=y/\y<=255:=by
       clear hx hl h;induction cs with
       |nil=>simp_all
       |cons c cs ihc=>have ⟨b,hb,Cf⟩:=qE 0 aaS;have ⟨l,hl,uR⟩:=ihc (λi hi=>by have:=qE (i+1) (by grind);grind);exact ⟨b::l,by grind,(by grind)⟩
      obtain ⟨l,rfl,uR⟩:=this;have arN:l.length=32:=by simpa using hl
      refine ⟨[.h .u8 30 l],?_,by simp only [MT,hu];grind⟩;have:=fq.cons (key:=key) (φ:=Fw W) _ (.h .u8 30 l) [] [] (.h _ _ l arN) .nil;grind
     .cases h2
def abA {r:Reach}{b0 D:Nat}{t:TypeId}{v:Value}{d:DataW H}{ps:List MemPlace}(hD:okT P D t=true)(hv:afa P W r b0 t v)(h:DataW.Trod enc P W base sp held t v d ps): ∃m n,cG key (Fw W) v m/\ME P (MT P n) t m:=by
 obtain ⟨fuel,hf⟩:=h;have ⟨ms,r1,t1⟩:=abz (key:=key) fuel D t _ _ hD hf;cases fuel with
 |zero=>exact t1.elim
 |succ fuel=>
  have t2:=t1;simp only [MT] at t1;cases hu:P.underlying t with
  |none=>grind
  |some k=>
   simp only [hu] at t1;cases k<;>simp only at t1<;>try (exact t1.elim)
   case bool=>obtain ⟨b,rfl⟩:=t1;obtain ⟨b',rfl⟩:=okWide_bool hu hv;refine ⟨.b b,fuel+1,⟨rfl,r1.single⟩,by grind [ME]⟩
   case int k=>obtain ⟨n,rfl,_⟩:=t1;obtain ⟨n',rfl⟩:=okWide_int hu hv;refine ⟨.i k n,fuel+1,⟨rfl,r1.single⟩,by grind [ME]⟩
   case string=>obtain ⟨l,rfl,_⟩:=t1;obtain ⟨s',rfl⟩:=okWide_string hu hv;refine ⟨.s l,fuel+1,⟨rfl,r1.single⟩,by grind [ME]⟩
   case slice e=>
    obtain ⟨xs,rfl,_⟩:=t1;have hvc:v.cells.toList=[v]:=by simp only [afa,hu,Cell.okWide] at hv;cases v<;>simp_all [Cell.ok,aeU]
    rw [hvc] at r1;refine ⟨.list xs,fuel+1,⟨rfl,r1.single⟩,by grind [ME]⟩
   case struct fs=>obtain ⟨arr,rfl,_⟩:=okWide_struct hu hv;refine ⟨.agg ms,fuel+1,⟨arr,rfl,by grind [aeU]⟩,by unfold ME;grind⟩
   case array n e=>
    obtain ⟨h,rfl,hh,_⟩:=t1;have: ∃arr,v= .agg arr:=by simp only [afa,hu] at hv;obtain ⟨arr,rfl,_⟩:=hv;exact ⟨arr,rfl⟩
    obtain ⟨arr,rfl⟩:=this;refine ⟨.h .u8 30 h,fuel+1,?_,by grind [ME]⟩;have hr:=r1.single;simp only [aeU] at hr;generalize DH:arr.toList=vs at hr;cases hr;refine ⟨?_,hh⟩;rw [<-DH]
end
end
section
open Go.WideShapes Go.ChangeShapes Go.RowKit
section
variable {H:Type}{enc:TypeId×Value->H}{P:Program}{W W':World}{c:Ctx}
theorem Ci (hl:laidOutB P=true)(hb:Below W.heap.size W W'): ∀{ts:List TypeId} {vs:List Value} {ds:List (DataW H)} {ps:List MemPlace},(∀t∈ts,P.readableRec t=true/\t<P.types.size)-> DataW.TrodAll enc P W 0 (λ_=>true) true ts vs ds ps->(∀x∈ps,x.block<W.heap.size)->DataW.TrodAll enc P W' 0 (λb=>decide (b<W.heap.size)) true ts vs ds ps
 |[],[],[],_,_,h,_=>h
 |t::ts,v::vs,d::ds,_,ht,⟨p,q,h1,h2,e⟩,hs=>⟨p,q,(by grind [Below.trod,adZ]),Ci hl hb (by grind) h2 (by grind),e⟩
def Ee (P:Program):List TypeId->List MV->Prop
 |[],ms=>ms=[]
 |t::ts,ms=> ∃m r,ms=m::r/\(∃n,ME P (MT P n) t m)/\Ee P ts r
theorem NB {base:Nat}{sp:Nat->Bool}{held:Bool}{key:Nat->Nat}{r:Reach}{b0:Nat}: ∀{ts:List TypeId} {vs:List Value} {ds:List (DataW H)} {ps:List MemPlace},(∀t∈ts,∃D,okT P D t=true)-> (∀(j:Nat) t v,ts[j]? =some t->vs[j]? =some v->afa P W r b0 t v)->DataW.TrodAll enc P W base sp held ts vs ds ps-> ∃ms,aL key (Fw W) vs ms/\Ee P ts ms/\ds.length=ts.length
 |[],[],[],_,_,_,_=>⟨[],rfl,rfl,rfl⟩
 |t::ts,v::vs,d::ds,_,ht,hv,⟨p,q,h1,h2,e⟩=>by have ⟨D,hD⟩:=ht t (by simp);have ⟨m,n,r1,t1⟩:=abA (key:=key) hD (hv 0 t v rfl rfl) h1;have ⟨ms,r2,t2,hl⟩:=NB (key:=key) (by grind) (λj u x hu hx=>hv (j+1) u x (by grind) (by grind)) h2;exact ⟨m::ms,⟨v,vs,rfl,r1,r2⟩,⟨m,ms,rfl,⟨n,t1⟩,t2⟩,by simp [hl]⟩
theorem XV {fn:Func}{f:FuncId}{s:ChangeSpec}{args:Array Value}{ds gs:List (DataW H)}{before:List MemPlace}{tb:TypeId}{base:Nat}(hf:P.funcs[f]? =some fn)(mG:fn.body.isSome=true)(z8:(fn.name== "runtime.NumGoroutine")=false)
 (hl:laidOutB P=true) (ae6: ∀t∈fn.params.toList,(∃D,okT P D t=true)/\P.readableRec t=true/\t<P.types.size) (pk:fn.resultTypes= #[tb]) (htb:P.underlying tb=some .bool) (hv:s.vars=[])
 (hfn: ∀ds:List (DataW H),ds.length=fn.params.toList.length->s.fn H ds={results:=[.lit (.bool true)],args:=ds})
 (aa8: ∀(j:Nat) t v,fn.params[j]? =some t->args[j]? =some v->afa P W .any base t v)
 (hW:DataW.Whole enc P fn.params.toList s.vars false W args.toList ds gs before) (hg:c.bK (c.key f)=false)
 (uW: ∀ms,Ee P fn.params.toList ms->dJ P c f ms (.b true)):
 Calls P f args W λe W'=> ∃v,e= .returned v/\s.post enc P fn false true false false W args v W':=by
 have hW':=hW;obtain ⟨p,q,hA,hV,rfl,hfz,hnd⟩:=hW;rw [hv] at hV;obtain ⟨rfl,rfl⟩:=trodVars_none hV;have dh: ∀x∈p,x.block<W.heap.size:=λx hx=>by simpa using hW'.lt x (by simp [hx])
 have ⟨ms,r1,t1,Rl⟩:=NB (key:=c.key) (λt ht=>(ae6 t ht).1) (λj t v h1 h2=>aa8 j t v (by simpa using h1) (by simpa using h2)) hA;have hc:=uW ms t1 (Fw W) W (λb=>W.heap.size<=b) args.toList (λb hb=>hb) (by simp_all [cv,ad4,if_false]) (abx W);have bF:(callFunc f args).run P W= .ok (.enter f args) W:=by
  have Ik: ¬fn.name= "runtime.NumGoroutine" :=by simpa using z8
  cases hb:fn.body with
  |none=>grind
  |some b=>simp_all [callFunc]
 unfold da at hc;rw [ad7,bF] at hc;refine hc.mono ?_;rintro x W' ⟨v,rfl,φ',ht,iu,hr⟩;have hvb:v= .bool true:=by obtain ⟨_,hr⟩:=hr;generalize DH:[v]=vs at hr;cases hr;simpa using DH
 subst hvb;have ajE:Below W.heap.size W W':=⟨ht.rest.1,ht.rest.2.1,ht.rest.2.2,ht.size,λk hk=>ht.heap k (by omega) hk⟩
 have anc:=hfn (ds++[]) (by simpa using Rl);refine ⟨_,rfl,ds,[],_,[],p,[],hW',?_,?_,?_,ajE.frame _,λh=>by cases h⟩
 ·rw [anc,pk];exact trodAll_mk1 (shut_bool htb _)
 ·grind [Ci]
 ·rw [anc,hv];rfl
end
theorem VZ {α:Type}{f:α->MV}{Q:α->Prop}{R:MV->Prop}{xs:List MV}(h: ∀x,R x-> ∃y,x=f y/\Q y)(hx: ∀x∈xs,R x): ∃L:List α,xs=L.map f/\ ∀y∈L,Q y:=by
 induction xs with
 |nil=>simp_all
 |cons x xs ih=>obtain ⟨y,rfl,hq⟩:=h x (hx x (by simp));obtain ⟨L,rfl,hL⟩:=ih (by grind);exact ⟨y::L,rfl,by grind⟩
theorem abB {n:Int}(h:(Lit.int .i64 n).wf=true): -9223372036854775808<=n/\n<=9223372036854775807:=by simp only [Lit.wf,sh,decide_eq_true_eq] at h;exact h
end
theorem abC {a b:Kd}(h:kdB a b=true):a=b:=by cases a<;>cases b<;>simp [kdB,kB] at h<;>first|rfl|(subst h;rfl)|grind
def nD:List Kd->Kd->Bool
 |[k],k'=>kdB k k'
 |_,_=>false
theorem e8 {l:List Kd}{k:Kd}(h:nD l k=true):l=[k]:=by
 cases l with
 |nil=>grind [nD]
 |cons a l=>cases l with
  |nil=>grind [nD,abC]
  |cons=>grind [nD]
def Ha:List Nat->List Nat->Bool
 |[],[]=>true
 |a::l,b::m=>AI a b&&Ha l m
 |_,_=>false
theorem JH {l m:List Nat}(h:Ha l m=true):l=m:=by
 induction l generalizing m with
 |nil=>grind [Ha]
 |cons a l ih=>
  cases m with
  |nil=>grind [Ha]
  |cons b m=>simp only [Ha,sh] at h;grind [bo]
def xD {α:Type}:List α->Bool
 |[]=>true
 |_=>false
theorem qp {α:Type}{l:List α}(h:xD l=true):l=[]:=by grind [xD]
def O6 (ti:Nat->Option TI)(t:Nat):Bool:=match ti t with|some J=>xD J.bR&&ae8 1 J.size|none=>false
def NC {ti:Nat->Option TI}{t:Nat}(h:O6 ti t=true): ∃J,ti t=some J/\J.bR=[]/\0<J.size:=by
 unfold O6 at h;cases hJ:ti t with
 |none=>grind
 |some J=>simp only [hJ,sh] at h;exact ⟨J,rfl,qp h.1,aed h.2⟩
def JI (k:IntKind):List Value->Nat->Bool
 |[],n=>AI n 0
 | .int k' v::r,n+1=>kB k' k&&(decide (v=0)&&JI k r n)
 |_,_=>false
def Rm {k:IntKind}{l:List Value}{n:Nat}(h:JI k l n=true):l=IN n (.int k 0):=by
 induction l generalizing n with
 |nil=>have:=bo h;grind
 |cons v l ih=>
  cases n with
  |zero=>simp_all [JI]
  |succ n=>
   unfold JI at h;split at h
   .grind
   .simp only [kB,sh,decide_eq_true_eq] at h;grind
   .cases h
def Fy:List ax->ax->Bool
 |[.nil],.nil=>true
 |[.p (.b false)],.p (.b false)=>true
 |[.p (.i k n)],.p (.i k' m)=>kB k k'&&decide (n=m)
 |[.p (.s [])],.p (.s [])=>true
 |_,_=>false
theorem Bc {l:List ax}{x:ax}(h:Fy l x=true):l=[x]:=by unfold Fy at h;grind [kB]
def abD (k:IntKind)(m:Nat):List ax->Bool
 |[.hs k' m' x]=>kB k' k&&(AI m' m&&decide (x=zA m))
 |_=>false
def abE {k:IntKind}{m:Nat}{l:List ax}(h:abD k m l=true):l=[.hs k m (zA m)]:=by unfold abD at h;split at h;all_goals simp_all [kB,sh,decide_eq_true_eq,bo]
def abF (ti:Nat->Option TI)(P:Program)(I:TI)(z:Option Value):TypeDesc->Bool
 | .struct fs=>I.st&&xD I.bR&&ae8 1 I.size&&AI (HE I.lay) I.size&&Ha (fs.toList.map (·.offset)) I.vN&&Ha (fs.toList.map (·.type)) I.Xh&& (fs.toList.all λf=>O6 ti f.type)&&(match z with|some (.agg cs)=>uQ I.zero cs.toList&&AI cs.size I.size|_=>false)
 | .tuple ts=>Ha I.bR ts.toList&&!xD I.bR&&xD I.lay&&!I.st
 | .slice el=>!I.st&&xD I.bR&&AI I.size 1&&AI I.elem el&&O6 ti el&&(match z with|some (.slice none 0 0)=>true|_=>false)&&Fy I.zero .nil&&nD I.lay .l
 | .array n el=>!I.st&&xD I.bR&&AI I.size n&&AI I.elem el&&(match I.lay with
  |[.h k m]=>AI n (m+2)&&(match P.underlying el with|some (.int k')=>kB k' k|_=>false)&&(match P.info? el with|some i=>AI i.size 1|none=>false)&& abD k m I.zero&&(match z with|some (.agg cs)=>JI k cs.toList (m+2)|_=>false)
  |_=>false)
 | .bool=>!I.st&&xD I.bR&&AI I.size 1&&nD I.lay .b&&Fy I.zero (.p (.b false))&&(match z with|some (.bool false)=>true|_=>false)
 | .int k=>!I.st&&xD I.bR&&AI I.size 1&&nD I.lay (.i k)&&Fy I.zero (.p (.i k 0))&&(match z with|some (.int k' n)=>kB k' k&&decide (n=0)|_=>false)
 | .string=>!I.st&&xD I.bR&&AI I.size 1&&nD I.lay .s&&Fy I.zero (.p (.s []))&&(match z with|some (.string b)=>xD b.data.toList|_=>false)
 |_=>!I.st&&xD I.bR&&AI I.size 1&&nD I.lay .raw&&(match z with|some v=>v.oneCell'&&uQ I.zero [v]|none=>false)
def abG {ti:Nat->Option TI}{P:Program}{I:TI}{z:Option Value}{d:TypeDesc}(h:abF ti P I z d=true):qD ti P I z d:=by
 cases d<;>simp only [abF,sh,ad8] at h<;>simp only [qD];case struct fs=>
  have ⟨⟨⟨⟨⟨⟨⟨h1,h2⟩,h3⟩,h4⟩,h5⟩,h6⟩,h7⟩,h8⟩:=h;refine ⟨h1,qp h2,⟨aed h3,bo h4⟩,JH h5,JH h6,λk f hk=> ?_,?_⟩
  .exact NC (by grind)
  .split at h8;all_goals simp_all
 case tuple ts=>grind [JH,xD,qp]
 case slice el=>have ⟨⟨⟨⟨⟨⟨⟨h1,h2⟩,h3⟩,h4⟩,h5⟩,h6⟩,h7⟩,h8⟩:=h;refine ⟨h1,qp h2,bo h3,bo h4,NC h5,?_,Bc h7,.l,e8 h8,rfl⟩;grind
 case array n el=>
  have ⟨⟨⟨⟨h1,h2⟩,h3⟩,h5⟩,h⟩:=h;split at h;case h_2=>cases h
  rename_i k m hl;simp only [sh] at h;have ⟨⟨⟨⟨h4,h6⟩,h7⟩,h9⟩,Fz⟩:=h;refine ⟨h1,qp h2,bo h3,bo h5,k,m,bo h4,?_,hl,abE h9,?_⟩
  .split at h6
   .simp only [kB,decide_eq_true_eq] at h6;grind [bo]
   .cases h6
  .split at Fz
   .have:=Rm Fz;congr 1;congr 1;apply ad3.1;simp_all [bE]
   .cases Fz
 case bool=>grind [qp,bo,e8,Bc]
 case int k=>have ⟨⟨⟨⟨⟨h1,h2⟩,h3⟩,h4⟩,h5⟩,h6⟩:=h;refine ⟨h1,qp h2,bo h3,e8 h4,Bc h5,?_⟩;split at h6;all_goals simp_all [kB,sh,decide_eq_true_eq]
 case string=>
  have ⟨⟨⟨⟨⟨h1,h2⟩,h3⟩,h4⟩,h5⟩,h6⟩:=h;refine ⟨h1,qp h2,bo h3,e8 h4,Bc h5,?_⟩;split at h6
  .rename_i b;exact ⟨b,rfl,qp h6⟩
  .cases h6
 all_goals
  have ⟨⟨⟨⟨h1,h2⟩,h3⟩,h4⟩,h5⟩:=h;refine ⟨h1,qp h2,bo h3,e8 h4,?_⟩;split at h5
  .rename_i v;simp at h5;exact ⟨v,rfl,h5.1,h5.2⟩
  .cases h5
def ajF (ti:Nat->Option TI)(P:Program)(t:Nat)(I:TI):Bool:=match P.underlying t,P.info? t with
 |some d,some i=>(!xD I.bR||(AI i.size I.size&&AI i.bytes I.bytes))&&abF ti P I i.zero d
 |_,_=>false
def ae7 {ti:Nat->Option TI}{P:Program}{t:Nat}{I:TI}(h:ajF ti P t I=true):nQ ti P t I:=by
 unfold ajF at h;split at h
 .rename_i d i hu hi;simp at h;refine ⟨d,i,hu,hi,λhc=> ?_,abG h.2⟩;grind [xD,bo]
 .cases h
def sX:List (Nat×TI)->Nat->Option TI
 |[],_=>none
 |(k,s)::r,t=>bif AI k t then some s else sX r t
def Rn (P:Program)(tab:List (Nat×TI)):Bool:=tab.all λp=>ajF (sX tab) P p.1 p.2
def FA {l:List (Nat×TI)}{t:Nat}{I:TI}(h:sX l t=some I):(t,I)∈l:=by
 induction l with
 |nil=>grind [sX]
 |cons p l ih=>simp only [sX,eQ] at h;grind
def O7 {P:Program}{tab:List (Nat×TI)}(h:Rn P tab=true):fw P (sX tab):=λt I hI=>ae7 (aex.1 h (t,I) (FA hI))
def Hb:List (Nat×TI):=[(3,⟨false,1,8,[.i .i64],[.p (.i .i64 0)],[],[],0,[]⟩),(4,⟨false,1,1,[.b],[.p (.b false)],[],[],0,[]⟩),(5,⟨false,1,1,[.i .u8],[.p (.i .u8 0)],[],[],0,[]⟩),(9,⟨false,1,16,[.s],[.p (.s [])],[],[],0,[]⟩),(21,⟨false,1,4,[.i .i32],[.p (.i .i32 0)],[],[],0,[]⟩),(22,⟨false,1,24,[.l],[.nil],[],[],25,[]⟩),(24,⟨false,1,24,[.l],[.nil],[],[],9,[]⟩),(25,⟨false,1,24,[.l],[.nil],[],[],27,[]⟩),(27,⟨true,8,80,[.i .i64,.i .i64,.i .i64,.s,.s,.i .i64,.i .i64,.i .i64],[.p (.i .i64 0),.p (.i .i64 0),.p (.i .i64 0),.p (.s []),.p (.s []),.p (.i .i64 0),.p (.i .i64 0),.p (.i .i64 0)],[0,1,2,3,4,5,6,7],[3,3,3,9,9,3,3,3],0,[]⟩),(28,⟨false,1,8,[.i .i64],[.p (.i .i64 0)],[],[],0,[]⟩),(29,⟨false,0,0,[],[],[],[],0,[9,28]⟩),(31,⟨false,1,24,[.l],[.nil],[],[],119,[]⟩),(33,⟨true,1,24,[.l],[.nil],[0],[31],0,[]⟩),(34,⟨false,1,24,[.l],[.nil],[],[],122,[]⟩),(36,⟨true,2,32,[.i .i64,.l],[.p (.i .i64 0),.nil],[0,1],[3,34],0,[]⟩),(37,⟨false,1,24,[.l],[.nil],[],[],125,[]⟩),(39,⟨true,1,24,[.l],[.nil],[0],[37],0,[]⟩),(40,⟨false,1,24,[.l],[.nil],[],[],91,[]⟩),(42,⟨true,5,104,[.l,.i .i64,.l,.l,.l],[.nil,.p (.i .i64 0),.nil,.nil,.nil],[0,1,3,4],[33,36,39,40],0,[]⟩),(44,⟨false,0,0,[],[],[],[],0,[25,28]⟩),(46,⟨false,0,0,[],[],[],[],0,[42,40,28]⟩),(50,⟨false,1,24,[.l],[.nil],[],[],120,[]⟩),(52,⟨true,1,24,[.l],[.nil],[0],[50],0,[]⟩),(53,⟨false,1,24,[.l],[.nil],[],[],123,[]⟩),(55,⟨true,2,32,[.i .i64,.l],[.p (.i .i64 0),.nil],[0,1],[3,53],0,[]⟩),(56,⟨false,1,24,[.l],[.nil],[],[],126,[]⟩),(58,⟨true,1,24,[.l],[.nil],[0],[56],0,[]⟩),(59,⟨false,1,24,[.l],[.nil],[],[],116,[]⟩),(61,⟨true,5,104,[.l,.i .i64,.l,.l,.l],[.nil,.p (.i .i64 0),.nil,.nil,.nil],[0,1,3,4],[52,55,58,59],0,[]⟩),(65,⟨true,2,16,[.i .i64,.i .i64],[.p (.i .i64 0),.p (.i .i64 0)],[0,1],[3,3],0,[]⟩),(66,⟨false,1,24,[.l],[.nil],[],[],3,[]⟩),(68,⟨true,7,72,[.i .i64,.i .i64,.i .i64,.i .i64,.l,.i .i64,.i .i64],[.p (.i .i64 0),.p (.i .i64 0),.p (.i .i64 0),.p (.i .i64 0),.nil,.p (.i .i64 0),.p (.i .i64 0)],[0,2,3,4,5,6],[65,3,3,66,3,3],0,[]⟩),(69,⟨false,1,24,[.l],[.nil],[],[],302,[]⟩),(71,⟨true,3,40,[.i .i64,.i .i64,.l],[.p (.i .i64 0),.p (.i .i64 0),.nil],[0,1,2],[3,3,69],0,[]⟩),(72,⟨false,1,24,[.l],[.nil],[],[],199,[]⟩),(73,⟨false,32,32,[.h .u8 30],[.hs .u8 30 (zA 30)],[],[],5,[]⟩),(75,⟨true,36,80,[.i .i64,.i .i64,.l,.i .i64,.h .u8 30],[.p (.i .i64 0),.p (.i .i64 0),.nil,.p (.i .i64 0),.hs .u8 30 (zA 30)],[0,2,3,4],[65,72,3,73],0,[]⟩),(76,⟨false,1,24,[.l],[.nil],[],[],182,[]⟩),(78,⟨true,58,400,[.i .i64,.i .i64,.i .i64,.i .i64,.i .i64,.i .i64,.i .i64,.i .i64,.l,.i .i64,.i .i64,.i .i64,.i .i64,.l,.i .i64,.i .i64,.l,.i .i64,.h .u8 30,.l,.i .i64,.l,.l,.l,.l,.l,.l],[.p (.i .i64 0),.p (.i .i64 0),.p (.i .i64 0),.p (.i .i64 0),.p (.i .i64 0),.p (.i .i64 0),.p (.i .i64 0),.p (.i .i64 0),.nil,.p (.i .i64 0),.p (.i .i64 0),.p (.i .i64 0),.p (.i .i64 0),.nil,.p (.i .i64 0),.p (.i .i64 0),.nil,.p (.i .i64 0),.hs .u8 30 (zA 30),.nil,.p (.i .i64 0),.nil,.nil,.nil,.nil,.nil,.nil],[0,2,3,4,11,14,50,55,56,57],[65,3,3,68,71,75,42,24,76,25],0,[]⟩),(79,⟨false,0,0,[],[],[],[],0,[78,28]⟩),
 (81,⟨false,1,24,[.l],[.nil],[],[],93,[]⟩),
 (82,⟨false,0,0,[],[],[],[],0,[78,81]⟩),
 (84,⟨false,1,24,[.l],[.nil],[],[],89,[]⟩),
 (86,⟨true,3,32,[.i .i64,.i .i64,.s],[.p (.i .i64 0),.p (.i .i64 0),.p (.s [])],[0,1,2],[3,3,9],0,[]⟩),
 (87,⟨false,1,24,[.l],[.nil],[],[],86,[]⟩),
 (89,⟨true,6,72,[.i .i64,.i .i64,.b,.i .i64,.s,.l],[.p (.i .i64 0),.p (.i .i64 0),.p (.b false),.p (.i .i64 0),.p (.s []),.nil],[0,1,2,3,4,5],[3,3,4,3,9,87],0,[]⟩),
 (91,⟨true,6,72,[.i .i64,.i .i64,.i .i64,.s,.i .i64,.l],[.p (.i .i64 0),.p (.i .i64 0),.p (.i .i64 0),.p (.s []),.p (.i .i64 0),.nil],[0,1,2,3,4,5],[3,3,28,9,3,24],0,[]⟩),
 (93,⟨true,62,384,[.i .i64,.i .i64,.i .i64,.i .i64,.s,.l,.i .i64,.i .i64,.s,.l,.i .i64,.i .i64,.b,.i .i64,.s,.l,.h .u8 30,.i .i64,.i .i64,.i .i64,.s,.s,.i .i64,.i .i64,.i .i64,.i .i64,.i .i64,.i .i64,.s,.i .i64,.l],[.p (.i .i64 0),.p (.i .i64 0),.p (.i .i64 0),.p (.i .i64 0),.p (.s []),.nil,.p (.i .i64 0),.p (.i .i64 0),.p (.s []),.nil,.p (.i .i64 0),.p (.i .i64 0),.p (.b false),.p (.i .i64 0),.p (.s []),.nil,.hs .u8 30 (zA 30),.p (.i .i64 0),.p (.i .i64 0),.p (.i .i64 0),.p (.s []),.p (.s []),.p (.i .i64 0),.p (.i .i64 0),.p (.i .i64 0),.p (.i .i64 0),.p (.i .i64 0),.p (.i .i64 0),.p (.s []),.p (.i .i64 0),.nil],[0,1,2,3,4,5,6,9,10,16,48,56],[3,3,3,3,9,84,86,87,89,73,27,91],0,[]⟩),
 (95,⟨false,1,24,[.l],[.nil],[],[],5,[]⟩),
 (97,⟨false,1,8,[.i .u64],[.p (.i .u64 0)],[],[],0,[]⟩),
 (98,⟨false,1,8,[.raw],[.p (.raw .nilFunc)],[],[],0,[]⟩),
 (101,⟨false,0,0,[],[],[],[],0,[97,95,28]⟩),
 (103,⟨false,0,0,[],[],[],[],0,[27,95,28]⟩),
 (105,⟨false,1,24,[.l],[.nil],[],[],273,[]⟩),
 (106,⟨false,0,0,[],[],[],[],0,[42,40,105]⟩),
 (112,⟨false,1,8,[.raw],[.p (.raw .nilFunc)],[],[],0,[]⟩),
 (116,⟨true,6,72,[.i .i64,.i .i64,.i .i64,.s,.i .i64,.l],[.p (.i .i64 0),.p (.i .i64 0),.p (.i .i64 0),.p (.s []),.p (.i .i64 0),.nil],[0,1,2,3,4,5],[3,3,28,9,3,24],0,[]⟩),
 (119,⟨true,4,48,[.s,.s,.i .i64,.i .i64],[.p (.s []),.p (.s []),.p (.i .i64 0),.p (.i .i64 0)],[0,1,2,3],[9,9,3,3],0,[]⟩),
 (120,⟨true,4,48,[.s,.s,.i .i64,.i .i64],[.p (.s []),.p (.s []),.p (.i .i64 0),.p (.i .i64 0)],[0,1,2,3],[9,9,3,3],0,[]⟩),
 (122,⟨true,3,24,[.i .i64,.i .i64,.i .i64],[.p (.i .i64 0),.p (.i .i64 0),.p (.i .i64 0)],[0,1,2],[3,3,3],0,[]⟩),
 (123,⟨true,3,24,[.i .i64,.i .i64,.i .i64],[.p (.i .i64 0),.p (.i .i64 0),.p (.i .i64 0)],[0,1,2],[3,3,3],0,[]⟩),
 (125,⟨true,3,32,[.s,.i .i64,.b],[.p (.s []),.p (.i .i64 0),.p (.b false)],[0,1,2],[9,3,4],0,[]⟩),
 (126,⟨true,3,32,[.s,.i .i64,.b],[.p (.s []),.p (.i .i64 0),.p (.b false)],[0,1,2],[9,3,4],0,[]⟩),
 (127,⟨false,0,0,[],[],[],[],0,[68,28]⟩),
 (129,⟨false,1,8,[.raw],[.p (.raw (.pointer none))],[],[],131,[]⟩),
 (131,⟨true,59,424,[.i .i64,.i .i64,.i .i64,.i .i64,.i .i64,.i .i64,.i .i64,.i .i64,.l,.i .i64,.i .i64,.i .i64,.i .i64,.l,.i .i64,.i .i64,.l,.i .i64,.h .u8 30,.l,.i .i64,.l,.l,.l,.l,.l,.l,.l],[.p (.i .i64 0),.p (.i .i64 0),.p (.i .i64 0),.p (.i .i64 0),.p (.i .i64 0),.p (.i .i64 0),.p (.i .i64 0),.p (.i .i64 0),.nil,.p (.i .i64 0),.p (.i .i64 0),.p (.i .i64 0),.p (.i .i64 0),.nil,.p (.i .i64 0),.p (.i .i64 0),.nil,.p (.i .i64 0),.hs .u8 30 (zA 30),.nil,.p (.i .i64 0),.nil,.nil,.nil,.nil,.nil,.nil,.nil],[0,58],[78,81],0,[]⟩),
 (132,⟨false,0,0,[],[],[],[],0,[71,28]⟩),
 (134,⟨false,0,0,[],[],[],[],0,[75,28]⟩),
 (136,⟨false,1,8,[.raw],[.p (.raw .nilFunc)],[],[],0,[]⟩),
 (137,⟨false,1,8,[.raw],[.un],[],[],0,[]⟩),
 (138,⟨false,0,0,[],[],[],[],0,[136,4]⟩),
 (142,⟨true,2,16,[.i .i64,.i .i64],[.p (.i .i64 0),.p (.i .i64 0)],[0,1],[3,3],0,[]⟩),
 (143,⟨false,0,0,[],[],[],[],0,[68,142]⟩),
 (153,⟨false,1,8,[.i .u64],[.p (.i .u64 0)],[],[],0,[]⟩),
 (154,⟨false,1,8,[.raw],[.p (.raw (.pointer none))],[],[],156,[]⟩),
 (156,⟨true,2,32,[.l,.i .i64],[.nil,.p (.i .i64 0)],[0,1],[95,28],0,[]⟩),
 (158,⟨false,1,8,[.raw],[.p (.raw (.pointer none))],[],[],3,[]⟩),
 (160,⟨false,1,8,[.raw],[.p (.raw (.pointer none))],[],[],9,[]⟩),
 (161,⟨false,0,0,[],[],[],[],0,[42,91,105]⟩),
 (167,⟨false,1,8,[.raw],[.p (.raw .nilFunc)],[],[],0,[]⟩),
 (176,⟨true,1,24,[.l],[.nil],[0],[87],0,[]⟩),
 (178,⟨true,9,112,[.i .i64,.i .i64,.i .i64,.i .i64,.b,.i .i64,.s,.l,.l],[.p (.i .i64 0),.p (.i .i64 0),.p (.i .i64 0),.p (.i .i64 0),.p (.b false),.p (.i .i64 0),.p (.s []),.nil,.nil],[0,2,3,4,5,6,7,8],[65,3,3,4,3,9,87,176],0,[]⟩),
 (180,⟨true,7,112,[.i .i64,.i .i64,.l,.l,.l,.b,.s],[.p (.i .i64 0),.p (.i .i64 0),.nil,.nil,.nil,.p (.b false),.p (.s [])],[0,2,3,4,5,6],[65,176,176,176,4,9],0,[]⟩),
 (182,⟨true,18,256,[.i .i64,.i .i64,.i .i64,.i .i64,.b,.i .i64,.s,.l,.l,.i .i64,.i .i64,.l,.l,.l,.b,.s,.l,.i .i64],[.p (.i .i64 0),.p (.i .i64 0),.p (.i .i64 0),.p (.i .i64 0),.p (.b false),.p (.i .i64 0),.p (.s []),.nil,.nil,.p (.i .i64 0),.p (.i .i64 0),.nil,.nil,.nil,.p (.b false),.p (.s []),.nil,.p (.i .i64 0)],[0,9,16,17],[178,180,84,3],0,[]⟩),
 (184,⟨false,0,0,[],[],[],[],0,[182,28]⟩),
 (186,⟨false,1,24,[.l],[.nil],[],[],191,[]⟩),
 (187,⟨false,0,0,[],[],[],[],0,[182,186]⟩),
 (191,⟨true,15,192,[.i .i64,.i .i64,.i .i64,.s,.l,.i .i64,.i .i64,.s,.l,.i .i64,.i .i64,.b,.i .i64,.s,.l],[.p (.i .i64 0),.p (.i .i64 0),.p (.i .i64 0),.p (.s []),.nil,.p (.i .i64 0),.p (.i .i64 0),.p (.s []),.nil,.p (.i .i64 0),.p (.i .i64 0),.p (.b false),.p (.i .i64 0),.p (.s []),.nil],[0,1,2,3,4,5,8,9],[3,3,3,9,84,86,87,89],0,[]⟩),
 (199,⟨true,34,48,[.i .i64,.i .i64,.h .u8 30],[.p (.i .i64 0),.p (.i .i64 0),.hs .u8 30 (zA 30)],[0,1,2],[3,3,73],0,[]⟩),
 (200,⟨false,0,0,[],[],[],[],0,[91,4]⟩),
 (206,⟨false,1,8,[.raw],[.p (.raw (.pointer none))],[],[],142,[]⟩),
 (208,⟨false,1,24,[.l],[.nil],[],[],158,[]⟩),
 (214,⟨false,1,8,[.raw],[.p (.raw (.pointer none))],[],[],217,[]⟩),
 (215,⟨false,1,24,[.l],[.nil],[],[],269,[]⟩),
 (217,⟨true,20,280,[.l,.i .i64,.l,.l,.l,.i .i64,.i .i64,.i .i64,.s,.s,.i .i64,.i .i64,.i .i64,.i .i64,.i .i64,.i .i64,.s,.i .i64,.l,.l],[.nil,.p (.i .i64 0),.nil,.nil,.nil,.p (.i .i64 0),.p (.i .i64 0),.p (.i .i64 0),.p (.s []),.p (.s []),.p (.i .i64 0),.p (.i .i64 0),.p (.i .i64 0),.p (.i .i64 0),.p (.i .i64 0),.p (.i .i64 0),.p (.s []),.p (.i .i64 0),.nil,.nil],[0,5,13,19],[42,27,91,215],0,[]⟩),
 (218,⟨false,1,8,[.raw],[.p (.raw .nilFunc)],[],[],0,[]⟩),
 (219,⟨false,1,24,[.l],[.nil],[],[],218,[]⟩),
 (221,⟨false,0,0,[],[],[],[],0,[39,105]⟩),
 (224,⟨false,0,0,[],[],[],[],0,[3,4]⟩),
 (227,⟨false,0,0,[],[],[],[],0,[24,4]⟩),
 (229,⟨false,0,0,[],[],[],[],0,[24,28]⟩),
 (233,⟨false,1,16,[.raw],[.un],[],[],0,[]⟩),
 (234,⟨false,0,0,[],[],[],[],0,[178,28]⟩),
 (236,⟨false,0,0,[],[],[],[],0,[180,28]⟩),
 (238,⟨false,0,0,[],[],[],[],0,[178,89,4]⟩),
 (253,⟨false,0,0,[],[],[],[],0,[9,4]⟩),
 (269,⟨true,2,24,[.i .i64,.s],[.p (.i .i64 0),.p (.s [])],[0,1],[3,9],0,[]⟩),
 (273,⟨true,5,56,[.s,.i .i64,.b,.i .i64,.s],[.p (.s []),.p (.i .i64 0),.p (.b false),.p (.i .i64 0),.p (.s [])],[0,3],[125,269],0,[]⟩),
 (274,⟨false,1,8,[.raw],[.p (.raw .nilFunc)],[],[],0,[]⟩),
 (276,⟨false,1,8,[.raw],[.p (.raw .nilFunc)],[],[],0,[]⟩),
 (280,⟨false,1,8,[.raw],[.un],[],[],0,[]⟩),
 (302,⟨true,2,24,[.i .i64,.s],[.p (.i .i64 0),.p (.s [])],[0,1],[3,9],0,[]⟩),
 (319,⟨false,0,0,[],[],[],[],0,[33,28]⟩),
 (322,⟨false,0,0,[],[],[],[],0,[119,28]⟩),
 (326,⟨false,0,0,[],[],[],[],0,[36,28]⟩),
 (329,⟨false,0,0,[],[],[],[],0,[36,66,28]⟩),
 (331,⟨false,0,0,[],[],[],[],0,[39,28]⟩),
 (353,⟨false,1,8,[.raw],[.p (.raw .nilFunc)],[],[],0,[]⟩),
 (356,⟨false,0,0,[],[],[],[],0,[3,28]⟩),
 (363,⟨false,0,0,[],[],[],[],0,[33,24]⟩),
 (393,⟨false,1,8,[.raw],[.p (.raw .nilFunc)],[],[],0,[]⟩),
 (395,⟨false,1,8,[.raw],[.p (.raw .nilFunc)],[],[],0,[]⟩),
 (404,⟨false,1,4,[.i .u32],[.p (.i .u32 0)],[],[],0,[]⟩),
 (429,⟨false,1,8,[.raw],[.p (.raw .nilFunc)],[],[],0,[]⟩),
 (430,⟨false,0,0,[],[],[],[],0,[404,404]⟩),
 (453,⟨false,1,8,[.raw],[.p (.raw (.pointer none))],[],[],449,[]⟩)]
def cks:List Kd->List Kd
 |[]=>[]
 | .h k n::r=>IN (n+2) (.i k)++cks r
 |k::r=>k::cks r
def O8:Kd->Value->Bool
 | .b,.bool _=>true
 | .i k,.int k' _=>decide (k'=k)
 | .s,.string _=>true
 |_,_=>false
def jX:List Kd->List Value->Prop
 |[],vs=>vs=[]
 |k::ks,vs=> ∃v r,vs=v::r/\O8 k v=true/\jX ks r
def ceq:Value->Value->Bool
 | .bool a,.bool b=>decide (a=b)
 | .int _ a,.int _ b=>decide (a=b)
 | .string a,.string b=>decide (a.data.toList=b.data.toList)
 |_,_=>false
def ln:List Value->List Value->Bool
 |[],[]=>true
 |x::xs,y::ys=>ceq x y&&ln xs ys
 |_,_=>false
def u9 {xs ys us vs:List Value}(h:xs.length=ys.length):ln (xs++us) (ys++vs)=(ln xs ys&&ln us vs):=by
 induction xs generalizing ys with
 |nil=>grind [ln]
 |cons x xs ih=>cases ys with|nil=>simp at h|cons y ys=>grind [ln,Bool.and_assoc]
theorem jX.length {ks:List Kd}: ∀{vs:List Value},jX ks vs->vs.length=ks.length:=by
 induction ks with
 |nil=>intro vs h;cases h;rfl
 |cons k ks ih=>intro vs h;obtain ⟨v,r,rfl,_,h2⟩:=h;simp [ih h2]
def jX.append {ks js:List Kd}: ∀{vs us:List Value},jX ks vs->jX js us->jX (ks++js) (vs++us):=by
 induction ks with
 |nil=>intro vs us h h';cases h;grind
 |cons k ks ih=>intro vs us h h';obtain ⟨v,r,rfl,h1,h2⟩:=h;exact ⟨v,r++us,rfl,h1,ih h2 h'⟩
def jX.split {ks js:List Kd}: ∀{vs:List Value},jX (ks++js) vs->jX ks (vs.take ks.length)/\jX js (vs.drop ks.length):=by
 induction ks with
 |nil=>grind [jX]
 |cons k ks ih=>intro vs h;obtain ⟨v,r,rfl,h1,h2⟩:=h;have ⟨h3,h4⟩:=ih h2;exact ⟨⟨v,_,rfl,h1,h3⟩,by grind⟩
def JJ (k:IntKind)(x:List Int):jX (IN x.length (.i k)) (bE k x):=by
 induction x with
 |nil=>rfl
 |cons b l ih=>exact ⟨_,_,rfl,by simp [O8],ih⟩
def ND (k:IntKind): ∀(l m:List Int),l.length=m.length->ln (bE k l) (bE k m)=decide (l=m):=by
 intro l;induction l with
 |nil=>intro m h;cases m with|nil=>rfl|cons=>simp at h
 |cons b l ih=>
  intro m h;cases m with
  |nil=>simp at h
  |cons b' m=>grind [bE,ln,ceq]
section
variable {e:Env}
def NE {lay:List Kd}: ∀{ls:List ax} {vs:List Value},ar e vs ls->gm lay ls=true->jX (cks lay) vs:=by
 induction lay with
 |nil=>
  intro ls vs h hf;cases ls with
  |nil=>cases h;rfl
  |cons=>grind [gm]
 |cons k lay ih=>
  intro ls vs h hf;cases ls with
  |nil=>grind [gm]
  |cons l ls=>
   simp only [gm] at hf;cases h1:pD k l with
   |false=>grind
   |true=>
    simp only [h1,cond_true] at hf;obtain ⟨v,u,rfl,g1,g2⟩:=h;have hr:=ih g2 hf;have one: ∀m:MV,∀kd:Kd,l= .p m->(∀w:List Value,il e.key e.φ w m-> ∃x,w=[x]/\O8 kd x=true)->jX (kd::cks lay) (v++u):=by intro m kd hl hm;subst hl;obtain ⟨x,rfl,hx⟩:=hm v g1.2;exact ⟨x,u,rfl,hx,hr⟩
    cases k<;>cases l<;>simp only [pD] at h1<;>try (cases h1;done)
    .rename_i m;cases m<;>simp only [pD] at h1<;>try (cases h1;done)
     exact one _ _ rfl (λw hw=>by cases hw;exact ⟨_,rfl,rfl⟩)
    .rename_i k m;cases m<;>simp only [pD] at h1<;>try (cases h1;done)
     exact one _ _ rfl (λw hw=>by cases hw;exact ⟨_,rfl,h1⟩)
    .rename_i m;cases m<;>simp only [pD] at h1<;>try (cases h1;done)
     exact one _ _ rfl (λw hw=>by cases hw;exact ⟨_,rfl,rfl⟩)
    .rename_i k n k' n' x;simp only [sh,decide_eq_true_eq] at h1;have ⟨rfl,h1⟩:=h1;have h1:=bo h1;subst h1;obtain ⟨rfl,hx⟩:=g1;have:=(JJ k' x).append hr;rw [hx] at this;exact this
def Mo {l l':ax} {v v':List Value}{b:Bool}(h:aP e v l) (h':aP e v' l')(hb:IQ l l'=some b):ln v v'=b/\v.length=v'.length:=by
 unfold IQ at hb;split at hb
 .have ⟨_,h⟩:=h;have ⟨_,h'⟩:=h';cases h;cases h';exact ⟨by grind [ln,ceq],rfl⟩
 .have ⟨_,h⟩:=h;have ⟨_,h'⟩:=h';cases h;cases h';rename_i k x k' y _ _;cases hk:decide (k=k') with
  |false=>grind
  |true=>exact ⟨by grind [ln,ceq],rfl⟩
 .have ⟨_,h⟩:=h;have ⟨_,h'⟩:=h';cases h;cases h';exact ⟨by simp_all [ln,ceq],rfl⟩
 .obtain ⟨rfl,hx⟩:=h;obtain ⟨rfl,hy⟩:=h';have ⟨hq,hb⟩:=ob hb;simp_all [sh,decide_eq_true_eq,bo,ND,cA]
 .cases hb
def abI {ls:List ax}: ∀{yR:List ax} {vs QL:List Value} {b:Bool},ar e vs ls->ar e QL yR->jo ls yR=some b->ln vs QL=b:=by
 induction ls with
 |nil=>
  intro yR vs QL b h h' hb;cases yR with
  |nil=>cases h;cases h';simp [jo] at hb;subst hb;rfl
  |cons l' yR=>grind [jo]
 |cons l ls ih=>
  intro yR vs QL b h h' hb;cases yR with
  |nil=>grind [jo]
  |cons l' yR=>
   obtain ⟨v,u,rfl,h1,h2⟩:=h;obtain ⟨v',u',rfl,Ij,SW⟩:=h';have two: ∀x y,IQ l l'=some x->jo ls yR=some y->b=(x&&y)->ln (v++u) (v'++u')=b:=by intro x y hx hy hxy;obtain ⟨g1,g2⟩:=Mo h1 Ij hx;rw [u9 g2,g1,ih h2 SW hy,hxy]
   cases ls with
   |nil=>
    cases yR with
    |nil=>exact two b true hb rfl aaS
    |cons p q=>grind [jo,hb.symm]
   |cons p q=>grind [jo,hb.symm]
end
def xF (F:TypeId->Option (List Kd))(P:Program):List Field->Nat->Nat->Option (List Kd)
 |[],o,n=>bif AI o n then some [] else none
 |f::fs,o,n=>match F f.type with
  |some ks=>bif AI f.offset o&&AI ks.length (P.cellsOf f.type)&&!(f.name== "_") then (match xF F P fs (o+ks.length) n with|some r=>some (ks++r)|none=>none) else none
  |none=>none
def TX:Nat->List Kd->List Kd
 |0,_=>[]
 |n+1,ks=>ks++TX n ks
def nj (P:Program):Nat->TypeId->Option (List Kd)
 |0,_=>none
 |d+1,t=>match P.underlying t with
  |some .bool=>some [.b]
  |some (.int k)=>some [.i k]
  |some .string=>some [.s]
  |some (.array n e)=>match nj P d e with
   |some ks=>bif AI ks.length (P.cellsOf e)&&(match P.info? e with|some _=>true|none=>false) then some (TX n ks) else none
   |none=>none
  |some (.struct fs)=>bif P.stoodInHeld t then none else xF (nj P d) P fs.toList 0 (P.cellsOf t)
  |_=>none
def Mp:TypeDesc->Bool
 | .struct _=>true
 | .array _ _=>true
 |_=>false
theorem JK {F:TypeId->Option (List Kd)}{P:Program}: ∀(fs:List Field) (o n:Nat) (ks:List Kd),xF F P fs o n=some ks->o+ks.length=n:=by
 intro fs;induction fs with
 |nil=>grind [xF,AI,bo]
 |cons f fs ihf=>intro o n ks hk;simp only [xF] at hk;grind
def uA (P:Program)(t:TypeId)(v:Value)(cs:List Value):Prop:=match P.underlying t with
 |some (.struct _)|some (.array _ _)=>v= .agg cs.toArray
 |_=>cs=[v]
def Ro (n:Nat)(ks:List Kd):(TX n ks).length=n *ks.length:=by
 induction n with
 |zero=>simp [TX]
 |succ n ih=>grind [TX,List.length_append,ahJ]
section
variable {P:Program}{w:World}
def Bd {t:TypeId}{xs:Array Value}{off:Nat}{n:Nat}{d:TypeDesc}(hu:P.underlying t=some d)(hn:P.cellsOf t=n)(j0:Mp d=false->n=1)(hl:off+n<=xs.size): ∃v,(Go.part t xs off).run P w= .ok v w/\uA P t v ((xs.toList.drop off).take n):=by
 have ⟨i,hi⟩:=info_of_underlying hu;have uw:i.size=n:=by rw [<-hn];simp [Program.cellsOf,hi]
 cases hd:Mp d with
 |true=>
  refine ⟨.agg (xs.extract off (off+n)),?_,?_⟩
  .cases d<;>simp [Mp] at hd<;>simp [Go.part,isAgg,run_underlying hu,Go.sizeOf,typeInfo,hi,uw]
  .have he:(xs.extract off (off+n))=((xs.toList.drop off).take n).toArray:=by apply ad3.1;rw [Array.toList_extract];simp [List.extract]
   unfold uA;cases d<;>simp [Mp] at hd<;>simp only [hu]<;>rw [he]
 |false=>
  have Nd:=j0 hd;have dh:off<xs.size:=aah
  refine ⟨xs[off],?_,?_⟩
  .cases d<;>simp [Mp] at hd<;>simp [Go.part,isAgg,run_underlying hu,dh]
  grind [List.take_one,List.head?_drop,uA,Mp]
def XW {F:TypeId->Option (List Kd)}{dd:Nat}{xs ys:Array Value}: ∀(fs:List Field) (o n:Nat) (ks:List Kd),xF F P fs o n=some ks->xs.size=n->ys.size=n->jX ks (xs.toList.drop o)->jX ks (ys.toList.drop o)-> (∀f∈fs,∀js,F f.type=some js->(∃d,P.underlying f.type=some d/\(Mp d=false->js.length=1))/\ ∀(x y:Value) (us vs:List Value),uA P f.type x us->uA P f.type y vs->jX js us->jX js vs->(ah7 dd f.type x y).run P w= .ok (ln us vs) w)-> (Op.eqFields dd xs ys fs).run P w= .ok (ln (xs.toList.drop o) (ys.toList.drop o)) w:=by
 intro fs;induction fs with
 |nil=>
  intro o n ks hk hx hy _ _ _;simp only [xF] at hk;cases hb:AI o n with
  |false=>grind
  |true=>simp_all [bo,List.drop_eq_nil_of_le,Op.eqFields,ln]
 |cons f fs ih=>
  intro o n ks hk hx hy fx fy hF;simp only [xF] at hk;cases hf:F f.type with
  |none=>grind
  |some js=>
   simp only [hf] at hk;have ⟨hc,hk⟩:=ob hk;simp only [sh,ad8] at hc;have ⟨⟨h1,h2⟩,h3⟩:=hc;have h1:=bo h1;have h2:=bo h2
   have h3:f.name≠ "_" :=by intro he;rw [he] at h3;simp at h3
   cases hr:xF F P fs (o+js.length) n with
   |none=>grind
   |some rs=>
    simp only [hr,No] at hk;subst hk;have ⟨fx1,fx2⟩:=fx.split;have ⟨fy1,fy2⟩:=fy.split;rw [ad9] at fx2 fy2;have lx:=fx.length;have ⟨⟨d,hu,j0⟩,ol⟩:=hF f aaS js hf;by_cases hz:o+js.length<=xs.size/\o+js.length<=ys.size
    .have ⟨x,px,wx⟩:=Bd (w:=w) (xs:=xs) (off:=f.offset) hu h2.symm j0 (by grind);have ⟨y,py,wy⟩:=Bd (w:=w) (xs:=ys) (off:=f.offset) hu h2.symm j0 (by grind);rw [h1] at wx wy;have he:=ol x y _ _ wx wy fx1 fy1;have vc:=ih (o+js.length) n rs hr hx hy fx2 fy2 (λg hg=>hF g (by simp [hg]));simp only [Op.eqFields,h3,ne_eq,not_false_eq_true,if_true,ae3,px,py,he,ahO];have JA:ln (xs.toList.drop o) (ys.toList.drop o)=(ln ((xs.toList.drop o).take js.length) ((ys.toList.drop o).take js.length)&&ln (xs.toList.drop (o+js.length)) (ys.toList.drop (o+js.length))):=by rw [<-ad9,<-ad9,<-u9 (by grind),ad0,ad0]
     rw [JA];cases ln ((xs.toList.drop o).take js.length) ((ys.toList.drop o).take js.length)
     .simp
     grind
    grind [JK]
def abJ {e:TypeId}{dd:Nat}{xs ys:Array Value}{js:List Kd}(Mf:js.length=P.cellsOf e)(hd: ∃d,P.underlying e=some d/\(Mp d=false->js.length=1))(ol: ∀(x y:Value)(us vs:List Value),uA P e x us->uA P e y vs->jX js us->jX js vs->(ah7 dd e x y).run P w= .ok (ln us vs) w): ∀(m i:Nat),xs.size=(i+m) *js.length->ys.size=(i+m) *js.length->jX (TX m js) (xs.toList.drop (i *js.length))->jX (TX m js) (ys.toList.drop (i *js.length))-> (Op.eqItems dd e (P.cellsOf e) xs ys (ahs i m)).run P w= .ok (ln (xs.toList.drop (i *js.length)) (ys.toList.drop (i *js.length))) w:=by
 intro m;induction m with
 |zero=>
  intro i hx hy _ _;have h1:xs.toList.drop (i *js.length)=[]:=(by simp_all)
  have h2:ys.toList.drop (i *js.length)=[]:=(by simp_all)
  rw [h1,h2];simp [Op.eqItems,ln]
 |succ m ih=>
  intro i hx hy fx fy;have ⟨fx1,fx2⟩:=fx.split;have ⟨fy1,fy2⟩:=fy.split;have hmul:i *js.length+js.length=(i+1) *js.length:=by rw [ahJ]
  rw [ad9,hmul] at fx2 fy2;have ⟨d,hu,j0⟩:=hd;have hle:(i+1) *js.length<=(i+(m+1)) *js.length:=(by grind)
  have ⟨x,px,wx⟩:=Bd (w:=w) (xs:=xs) (off:=i *js.length) hu Mf.symm j0 aah;have ⟨y,py,wy⟩:=Bd (w:=w) (xs:=ys) (off:=i *js.length) hu Mf.symm j0 aah;have he:=ol x y _ _ wx wy fx1 fy1;have vc:=ih (i+1) (by rw [hx];congr 1;omega) (by rw [hy];congr 1;omega) fx2 fy2;rw [agt];simp only [Op.eqItems,ae3,<-Mf,px,py,he,ahO];have JA:ln (xs.toList.drop (i *js.length)) (ys.toList.drop (i *js.length))=(ln ((xs.toList.drop (i *js.length)).take js.length) ((ys.toList.drop (i *js.length)).take js.length)&&ln (xs.toList.drop ((i+1) *js.length)) (ys.toList.drop ((i+1) *js.length))):=by rw [<-hmul,<-ad9,<-ad9,<-u9 (by grind),ad0,ad0]
  rw [JA];cases ln ((xs.toList.drop (i *js.length)).take js.length) ((ys.toList.drop (i *js.length)).take js.length);all_goals simp_all
def NF: ∀(d:Nat) (t:TypeId) (ks:List Kd),nj P d t=some ks-> ∃k,P.underlying t=some k/\(Mp k=false->ks.length=1):=by
 intro d t ks h;cases d with
 |zero=>grind [nj]
 |succ d=>
  simp only [nj] at h;cases hu:P.underlying t with
  |none=>grind
  |some k=>grind [No,Mp]
def Hc: ∀(d:Nat) (t:TypeId) (ks:List Kd),nj P d t=some ks-> ∀(m:Nat) (x y:Value) (us vs:List Value),uA P t x us->uA P t y vs->jX ks us->jX ks vs-> (ah7 (m+d) t x y).run P w= .ok (ln us vs) w:=by
 intro d;induction d with
 |zero=>grind [nj]
 |succ d ih=>
  intro t ks h m x y us vs hx hy fx fy;simp only [nj] at h;have hmd:m+(d+1)=(m+d)+1:=rfl;rw [hmd];cases hu:P.underlying t with
  |none=>grind
  |some k=>
   cases k<;>simp only [hu] at h<;>try (cases h;done)
   case bool=>simp at h;subst h;simp only [uA,hu] at hx hy;subst hx;subst hy;have ⟨v,r,h1,h2,h3⟩:=fx;have ⟨v',r',Ij,SW,ZH⟩:=fy;simp at h1 Ij;have ⟨rfl,_⟩:=h1;have ⟨rfl,_⟩:=Ij;cases x<;>simp [O8] at h2;cases y<;>simp [O8] at SW;grind [run_equalIn_bool',ln,ceq]
   case int k=>simp at h;subst h;simp only [uA,hu] at hx hy;subst hx;subst hy;have ⟨v,r,h1,h2,h3⟩:=fx;have ⟨v',r',Ij,SW,ZH⟩:=fy;simp at h1 Ij;have ⟨rfl,_⟩:=h1;have ⟨rfl,_⟩:=Ij;cases x<;>simp [O8] at h2;cases y<;>simp [O8] at SW;subst h2;subst SW;rw [run_equalIn_int w _ t _ _ _ _ hu];simp only [ln,ceq,aih];congr 1
   case string=>simp at h;subst h;simp only [uA,hu] at hx hy;subst hx;subst hy;have ⟨v,r,h1,h2,h3⟩:=fx;have ⟨v',r',Ij,SW,ZH⟩:=fy;obtain ⟨rfl,_⟩:=h1;obtain ⟨rfl,_⟩:=Ij;cases x<;>simp [O8] at h2;cases y<;>simp [O8] at SW;simp_all [run_equalIn_string,ln,ceq,aih,toList_data,Bool.beq_eq_decide_eq]
   case array n e=>
    cases hke:nj P d e with
    |none=>grind
    |some js=>
     simp only [hke] at h;have ⟨hc,h⟩:=ob h;simp at h;subst h;simp only [sh] at hc;have Mf:=bo hc.1;have ⟨i,hi⟩: ∃i,P.info? e=some i:=by grind
     simp only [uA,hu] at hx hy;subst hx;subst hy;rw [run_equalIn_array w (m+d) us.toArray vs.toArray hu hi,List.range_eq_range'];have l1:=fx.length;have l2:=fy.length;rw [Ro] at l1 l2;have:=abJ (w:=w) (xs:=us.toArray) (ys:=vs.toArray) (js:=js) (dd:=m+d) Mf (NF d e js hke) (by grind) n 0 (by grind) (by grind) (by grind) (by grind);grind
   case struct fs=>
    have ⟨eh,h⟩:=oz h;simp only [uA,hu] at hx hy;subst hx;subst hy;have hfs:P.fieldsOf t=fs:=by simp [Program.fieldsOf,hu]
    rw [run_equalIn_struct w (m+d) t us.toArray vs.toArray (by grind) eh,hfs];have hl:=JK _ _ _ _ h;have:=XW (w:=w) (dd:=m+d) (xs:=us.toArray) (ys:=vs.toArray) fs.toList 0 (P.cellsOf t) ks h (by grind [fx.length]) (by grind [fy.length]) (by grind) (by grind) (λf hf js hjs=>⟨NF d f.type js hjs,(by grind)⟩);grind
end
def V0 {l m:List Kd}(h:HC l m=true):l=m:=by
 induction l generalizing m with
 |nil=>grind [HC]
 |cons a l ih=>
  cases m with
  |nil=>grind [HC]
  |cons b m=>simp only [HC,sh] at h;grind [abC]
def TY:List Kd->Bool
 |[]=>true
 | .l::_=>false
 | .raw::_=>false
 |_::r=>TY r
def eqB (P:Program)(t:Nat)(I:TI):Bool:=!TY I.lay||!xD I.bR||((match nj P 20 t with|some ks=>HC ks (cks I.lay)|none=>false)&&!P.eqGuardType P.depth t&& (match P.underlying t with|some (.struct _)=>I.st|some (.array _ _)=>!I.st&&(match I.lay with|[.h _ _]=>true|_=>false)|some .bool=>!I.st&&nD I.lay .b|some (.int k)=>!I.st&&nD I.lay (.i k)|some .string=>!I.st&&nD I.lay .s|_=>false))
def ajG (P:Program)(tab:List (Nat×TI)):Bool:=tab.all λp=>eqB P p.1 p.2&&(!Z5 p.2.zero||(match P.underlying p.1 with|some (.pointer _)=>true|_=>false))
def XX {lay:List Kd}: ∀{ls:List ax},gm lay ls=true->TY lay=true:=by
 induction lay with
 |nil=>intro ls _;rfl
 |cons k lay ih=>
  intro ls h;cases ls with
  |nil=>grind [gm]
  |cons l ls=>
   simp only [gm] at h;cases h1:pD k l with
   |false=>grind
   |true=>simp only [h1,cond_true] at h;have:=ih h;cases k<;>first|exact this|grind [pD]
def XY {t:TypeId}{x y:Value}(h:(∃b,x= .bool b)\/ ∃cs,x= .agg cs)(op:BinOp): (op= .eql->binOp op t x y=(do pure (.bool (<-afK t x y))))/\(op= .neq->binOp op t x y=(do pure (.bool (!(<-afK t x y))))):=by rcases h with ⟨b,rfl⟩|⟨cs,rfl⟩<;>refine ⟨?_,?_⟩<;>rintro rfl<;>cases y<;>rfl
theorem XZ {P:Program}{tab:List (Nat×TI)}(h:ajG P tab=true):QK P (sX tab):=by
 refine ⟨λt I hI hz=> ?_,?_⟩
 .have hr:=aex.1 h (t,I) (FA hI);grind
 intro t I hI hc e w vx vy sx sy b rx ry fx fy shx shy hb n1 n2;have hr:=aex.1 h (t,I) (FA hI);simp at hr;replace hr:=hr.1;simp only [eqB,XX fx,aer,aii] at hr;rw [hc] at hr;simp only [xD,aer,aii,sh,ad8] at hr;have ⟨⟨hk,hg⟩,hd⟩:=hr;cases hks:nj P 20 t with
 |none=>grind
 |some ks=>
  simp only [hks] at hk;have hk:=V0 hk;subst hk;have cells: ∀(v:Value) (s:Slot),af e v s->gm I.lay (aD s)=true->pE I.st s=true->(∃us,uA P t v us/\ar e us (aD s))/\((∃b,v= .bool b)\/(∃cs,v= .agg cs)\/(∃k n,s= .sc (.p (.i k n)))\/ ∃l,s= .sc (.p (.s l))):=by
   intro v s hv hf hs;cases s<;>simp only [pE] at hs<;>try (cases hs;done)
   .rename_i l;have eh:I.st=false:=by simpa using hs
    cases hu:P.underlying t with
    |none=>grind
    |some d=>
     simp only [hu] at hd;cases d<;>simp only [eh,ahU,afA] at hd<;>try (cases hd;done)
     .have hl:=e8 hd;rw [hl] at hf;simp only [aD,gm] at hf;cases l<;>simp [pD] at hf;rename_i m;cases m<;>simp [pD] at hf;have:=Nc hv;exact ⟨⟨[v],by simp [uA,hu],[v],[],rfl,hv,rfl⟩,.inl ⟨_,this⟩⟩
     .have hl:=e8 hd;rw [hl] at hf;simp only [aD,gm] at hf;cases l<;>simp [pD] at hf;exact ⟨⟨[v],by simp [uA,hu],[v],[],rfl,hv,rfl⟩,(by grind)⟩
     .have hl:=e8 hd;rw [hl] at hf;simp only [aD,gm] at hf;cases l<;>simp [pD] at hf;exact ⟨⟨[v],by simp [uA,hu],[v],[],rfl,hv,rfl⟩,(by grind)⟩
     .split at hd;case h_2=>cases hd
      rename_i kk n hl;rw [hl] at hf;simp only [aD,gm] at hf;cases l<;>simp [pD] at hf;rename_i k' n' x;have ⟨hv,hx⟩:=hv;exact ⟨⟨bE k' x,by grind [uA],bE k' x,[],aaS,⟨rfl,hx⟩,rfl⟩,.inr (.inl ⟨_,hv⟩)⟩
   .cases hu:P.underlying t with
    |none=>grind
    |some d=>
     simp only [hu] at hd;cases d<;>simp only [hs,aer,Bool.false_and] at hd<;>try (cases hd;done)
     have ⟨arr,hv,pi⟩:=hv;exact ⟨⟨arr.toList,by simp_all [uA],pi⟩,.inr (.inl ⟨_,hv⟩)⟩
  have ⟨⟨us,wx,lx⟩,kx⟩:=cells vx sx rx fx shx;have ⟨⟨vs,wy,ly⟩,ky⟩:=cells vy sy ry fy shy;have ol:(afK t vx vy).run P w= .ok b w:=by have:=Hc (P:=P) (w:=w) 20 t _ hks 9980 vx vy us vs wx wy (NE lx fx) (NE ly fy);rw [abI lx ly hb] at this;exact this
  refine ⟨ol,λx y op=> ?_⟩;have hxk:(∃b,vx= .bool b)\/ ∃cs,vx= .agg cs:=by
   rcases kx with h1|h1|⟨k,n,h1⟩|⟨l,h1⟩
   .exact .inl h1
   .exact .inr h1
   .subst h1;cases hu:P.underlying t with
    |none=>grind
    |some d=>
     simp only [aD] at fx fy hb;cases ze:I.lay with
     |nil=>grind [gm]
     |cons k0 r0=>
      rw [ze] at fx fy;simp only [gm] at fx;cases k0<;>simp [pD] at fx;cases sy<;>simp only [pE] at shx shy<;>try (cases shy;done)
      .rename_i l;simp only [aD,gm] at fy;cases l<;>simp [pD] at fy;simp_all
      grind
   .subst h1;simp only [aD] at fx fy hb;cases ze:I.lay with
    |nil=>grind [gm]
    |cons k0 r0=>
     rw [ze] at fx fy;simp only [gm] at fx;cases k0<;>simp [pD] at fx;cases sy<;>simp only [pE] at shx shy<;>try (cases shy;done)
     .rename_i l;simp only [aD,gm] at fy;cases l<;>simp [pD] at fy;simp_all
     grind
  refine ⟨?_,XY hxk op⟩;have hg':P.eqGuardType P.depth t=false:=hg;rcases hxk with ⟨bb,rfl⟩|⟨cs,rfl⟩
  .cases op<;>rfl
  .cases vy<;>cases op<;>first|rfl|(simp [eqGuard,hg'])
end
end Dn
