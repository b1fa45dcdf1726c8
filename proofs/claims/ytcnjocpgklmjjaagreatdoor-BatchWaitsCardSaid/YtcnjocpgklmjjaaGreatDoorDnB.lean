import Derived.Test.YtcnjocpgklmjjaaGreatDoorDnA
import Derived.MapKept
import Derived.Carry
import Derived.Laws.StructEq
import Derived.Laws.RangeAny
import Derived.Laws.BytesArg
import Derived.Laws.MakeOwn
import Derived.Laws.IdiomStrings
import Derived.LoopN
import Derived.Laws.Sem
import Derived.ProofKit
import Derived.OpenShut
/- What Go functions come to, on plain values. Conditions: none. -/
open Nat renaming eq_of_beq_eq_true→bD,beq→AS,le_refl→afB,le_of_ble_eq_true→afH,zero_add→agK,le_trans→agM,ble_eq_true_of_le→agV,ble→ahs,lt_of_lt_of_le→ait,zero_le→akJ,succ_mul→ak2,mul_comm→al0,sub_self→al3
open Bool renaming and_eq_true→sh,or_eq_false_iff→BY,false_eq_true→afw,not_eq_true'→afy,not_true→ahB,not_eq_false'→ajW,true_and→akr,false_or→akW,or_eq_true→alL,not_false→alQ,and_true→alX
open List renaming mem_cons→AI,replicate→IN,getElem?_eq_getElem→ab2,all_eq_true→ad5,mem_cons_of_mem→aeY,mem_append_left→afu,take_append_drop→afv,getElem?_append_right→afz,mem_append_right→afA,drop_drop→afD,range→afG,mem_map→afK,length_cons→afL,getElem?_eq_some_iff→afT,map_append→agu,nodup_cons→agx,mem_append→agG,ext_getElem?→agO,length_map→ahF,getD_eq_getElem?_getD→aie,getElem?_map→akp,nodup_append→akq,map_cons→aks,cons_append→aku,range'_succ→akw,any_eq_true→akz,append_nil→akD,set_append_right→akE,getElem?_toArray→akG,range_add→akI,forall_mem_cons→akL,range'→akO,flatten_append→akT,length_append→ak0,mem_filter→alC,mem_range'→alD
open Go.Region renaming ready→AT,wanted→No,binds→afN
open Option.some renaming injEq→By,inj→amy
open Go.Value renaming ownBlock→IT,cells→afE,pointer→ags,okWide→ahQ,slice→alv,oneCell'→alP,int→alY
open Go.Region.linearise renaming go→OF
open Array renaming getD_eq_getD_getElem?→ac4,replicate→ad1,toList_inj→aft,getElem?_append_left→afJ,length_toList→af2,toList_map→ag7,mapM_eq_mapM_toList→ako,setIfInBounds_comm→akt,getElem?_toList→akF,toArray_toList→akK
open Go.Act renaming put_comm→aec
open Go.World renaming block_lt_of_cell?→afx
open Prod.mk renaming injEq→afC
open Go.Oper renaming wp_mono→afF,upon_value→ahE,upon→aky,wp→akA
open Classical renaming choose_spec→afI,choose→akx
open Go.Result renaming andThen→agN,andThen_ok→alj
open Go.Instr renaming sureAddr→akn,loadAt→akB,sameNow→alR
open Go.Deferred renaming ofValue→akv
open Go.Op renaming equalIn→akC,equal→akH
open Go.Code renaming region→akM,wp_mono→amj
open Go.Addr renaming add_mid→ak3
open Go.Utf8 renaming decode→alm
open UInt8 renaming ofNat→alu
open List.cons renaming injEq→alB
open Go.Sem renaming run_bind→amd,run→amt
open Go.Value.pointer renaming injEq→amk
set_option linter.all false
namespace Dn
open Go
noncomputable section
section
variable {P:Program}{c:Ctx}{Z Zi:bC}{e e':Env}{st cj:St}{a:Act}{w w':World}{R:Type}{K:St->Option R}{r:R}{Q:Exit->Act->World->Prop}{o:Oper}
theorem bT.sub (h:bT c Z e st a w)(hpp: ∀t∈Z.cX,t∈Zi.cX)(hm:cj.cX=Zi.cX/\cj.cV=Zi.cV/\ ∀t∈Zi.cX,a.tmps.getD t undef=Zi.T t)(hn:(aS cj.fr).Nodup)(hs: ∀t,au cj.fr t= .sc .un\/(dP (au st.fr t)=false/\(au cj.fr t=au st.fr t\/ ∃qs,au cj.fr t=Qy qs (au st.fr t))))(hf: ∀f o,aN cj.aT f=some o-> ∃o0,aN st.aT f=some o0/\o0.ty=o.ty/\o0.xs=o.xs/\(o0.iw=true->o.iw=true))(hbz: ∀t cs,au cj.fr t= .box cs->(t∈Zi.cX/\Zi.Pr (e.B t))\/Zi.In (e.B t))(hfz: ∀f o b,aN cj.aT f=some o->(e.E f).ownBlock=some b->(f∈Zi.cV/\Zi.Pr b)\/Zi.In b)(atQ: ∀f o I cells b,aN cj.aT f=some o->f∈Zi.cV->o.iw=true->c.ti o.ty=some I->w.ownsRow 0 o.ty I.size (e.E f) o.xs.length cells->(e.E f).ownBlock=some b-> ∀j,j<cells.length->e.φ b j=cells[j]?)(hz: ∀b,w.heap.size<=b->Zi.In b):bT c Zi {e with m:=cj.aT} cj a w:=by
 have vA:ll (λ_=>True) (λ_=>True) e {e with m:=cj.aT}:=by refine ⟨rfl,.refl _,λ_ _=>rfl,λf o ho _=> ?_⟩;obtain ⟨o0,h1,h2,h3,h4⟩:=hf f o ho;exact ⟨o0,by grind [h.m],rfl,h3.symm⟩
 have tie: ∀{t:Nat} {v:Value} {cs:List aF} {b:Nat},tied Z t v cs b->tied Zi t v cs b:=λht=>⟨ht.1,λhp=>by have ⟨k1,k2⟩:=ht.2 hp;have k3:=hpp _ k1;exact ⟨k3,by rw [<-hm.2.2 _ k3,h.defers.2.2.2 _ k1,k2]⟩⟩
 have agR: ∀t cs,au cj.fr t= .box cs-> ∃Lv,au st.fr t= .box Lv/\(cs=Lv\/ ∃qs,cs=Lv.map (YR qs)):=by
  intro t cs ht;rcases hs t with h1|⟨_,h1|⟨qs,h1⟩⟩
  .grind
  .grind
  .rw [h1] at ht;generalize au st.fr t=s at ht;cases s<;>simp only [Qy] at ht<;>first|(cases ht;done)|skip
   simp at ht;exact ⟨_,rfl,.inr ⟨qs,ht.symm⟩⟩
 refine ⟨⟨h.defers.1,hm⟩,h.size,rfl,h.key,hn,?_,?_,?_,?_,?_,?_,h.mj,hz⟩
 .intro t;have rK:=h.slot t;have fw:=hs t;have hb0:=hbz t;generalize au cj.fr t=s' at fw hb0;generalize au st.fr t=s at rK fw;rcases fw with rfl|⟨_,rfl|⟨qs,rfl⟩⟩
  .simp [eD,ai]
  .cases s'<;>simp only [eD] at rK⊢ <;>try exact rK.on vA (dY _)
   have ⟨o2,h1,h2⟩:=rK.2.obj;exact ⟨tie rK.1,hb0 _ rfl,⟨o2,h1,h2.on vA (λl _ f _=>trivial)⟩,rK.2.free⟩
  .by_cases YX: ∃cs,s= .box cs
   .obtain ⟨cs,rfl⟩:=YX;have ⟨o2,h1,h2⟩:=rK.2.obj;exact ⟨(tie rK.1).qe (apF qs _),hb0 _ rfl,⟨o2,h1,(h2.map (by grind [bp.V5]) (λ_ _=>rfl)).on vA (λl _ f _=>trivial)⟩,rK.2.free⟩
   .have yY:ai e (a.tmps.getD t undef) s:=by cases s<;>simp only [eD] at rK<;>first|exact rK|grind
    have h2:=(yY.V5 qs).on vA (dY _);generalize hks:Qy qs s=s2 at h2;cases s2<;>first|exact h2|grind [ai]
 .intro t;have fw:=hs t;generalize au cj.fr t=s' at fw;generalize au st.fr t=s at fw;rcases fw with rfl|⟨hp,rfl|⟨qs,rfl⟩⟩
  .trivial
  .cases s'<;>simp [dP] at hp<;>trivial
  .cases s<;>simp [dP] at hp<;>trivial
 .intro f o ho;have ⟨o0,h1,h2,h3,h4⟩:=hf f o ho;have ⟨I,cells,g1,g2,g3,g4,g5⟩:=(h.jC f o0 h1).row;rw [h2] at g1 g3;rw [h3] at g3 g4 g5;refine ⟨I,cells,g1,g2,g3,g4,λbg hb=>⟨hfz f o bg ho hb,λoff u hu=> ?_,λk1 k2 j hj=>atQ f o I cells bg ho k1 k2 g1 g3 hb j hj⟩⟩;grind
 .intro t t' c1 c2 h1 h2 eR;have ⟨d1,g1,_⟩:=agR t c1 h1;have ⟨d2,g2,_⟩:=agR t' c2 h2;exact h.bb t t' d1 d2 g1 g2 eR
 .intro t c1 f o h1 h2;have ⟨d1,g1,_⟩:=agR t c1 h1;have ⟨o0,g2,_⟩:=hf f o h2;exact h.bf t d1 f o0 g1 g2
 .intro f f' o1 o2 k h1 h2 h3 h4;have ⟨p1,g1,_⟩:=hf f o1 h1;have ⟨p2,g2,_⟩:=hf f' o2 h2;exact h.ff f f' p1 p2 k g1 g2 h3 h4
theorem bT.drop {ds:List Nat}(h:bT c Z e st a w):bT c Z e {st with fr:=cb ds st.fr} a w:=by
 have hg:=M3 ds st.fr h.nodup;have:=h.sub (Zi:=Z) (cj:={st with fr:=cb ds st.fr}) (λ_ h=>h) ⟨h.defers.2.1,h.defers.2.2.1,h.defers.2.2.2⟩ ((G4 ds st.fr).nodup h.nodup) (by grind) (by grind) (by
   intro t cs ht;rw [hg] at ht;split at ht
   .cases ht
   .have hs:=h.slot t;rw [ht] at hs;exact hs.2.cz)
  (by intro f o b ho hb;have ⟨I,cells,_,_,_,_,g5⟩:=(h.jC f o ho).row;exact (g5 b hb).1)
  (by intro f o I cells b ho hp hz hI eS hb j hj;have ⟨I',ap3,g1,_,g3,_,g5⟩:=(h.jC f o ho).row;rw [hI] at g1;cases g1;rw [KD eS g3 hb] at hj⊢;exact (g5 b hb).2.2 hp hz j hj)
  h.cz
 have hm:e.m=st.aT:=h.m;have he:{e with m:=({st with fr:=cb ds st.fr}:St).aT}=e:=by cases e;simp at hm⊢;exact hm.symm
 grind
def bT.agS {t root off:Nat}{cs:List aF}(h:bT c Z e st a w)(hb:au st.fr root= .box cs)(hn:cY (au st.fr t)=false)(hv:ai e (a.tmps.getD t undef) (.ptr root off)): bT c Z e {st with fr:=gV st.fr t (.ptr root off)} a w:=by
 have hg: ∀t',au (gV st.fr t (.ptr root off)) t'=if t'=t then .ptr root off else au st.fr t':=(by grind [bO])
 have yz: ∀t' cs,au (gV st.fr t (.ptr root off)) t'= .box cs->au st.fr t'= .box cs:=by
  intro t' cs ht;rw [hg] at ht;by_cases IV:t'=t
  .grind
  .grind
 have hk: ∀r,cY (au st.fr r)=true->cY (au (gV st.fr t (.ptr root off)) r)=true:=(by grind)
 refine ⟨h.defers,h.size,h.m,h.key,fA h.nodup,?_,?_,h.jC,?_,?_,h.ff,h.mj,h.cz⟩
 .intro t';rw [hg];by_cases IV:t'=t
  .simp_all;exact hv
  .simp only [IV,if_false];exact h.slot t'
 .intro t';have hr:=h.root t';rw [hg t'];by_cases IV:t'=t
  .simp only [IV,if_true];exact hk root (by rw [hb];rfl)
  .simp only [IV,if_false];generalize au st.fr t'=s at hr;cases s<;>first|trivial|exact hk _ hr
 .intro t1 t2 c1 c2 h1 h2 eR;exact h.bb t1 t2 c1 c2 (yz t1 c1 h1) (yz t2 c2 h2) eR
 .intro t1 c1 f o h1 h2;exact h.bf t1 c1 f o (yz t1 c1 h1) h2
def DR {s:Slot}(h:IZ s=true): ∃cs,s= .box cs/\fU cs=false:=by cases s<;>simp [IZ] at h;grind
def Wu {Z1:bC}{e1:Env}{aZ:St}{root:Nat}(h:bT c Z e st a w)(h1:bT c Z1 e1 aZ a w)(hp:DN root=false)(hb:IZ (au st.fr root)=true)(uU:IZ (au aZ.fr root)=true):e1.B root=e.B root:=by have ⟨cs,hf,hm⟩:=DR hb;have ⟨Fj,hf1,hm1⟩:=DR uU;have s1:=h.slot root;have s2:=h1.slot root;rw [hf] at s1;rw [hf1] at s2;have g1:=s1.1.1 hp;have g2:=s2.1.1 hp;grind [yy,g2.symm]
theorem Nh {Z0:bC}{e0:Env}{DQ:St}{ok:Nat->Bool}(h0:bT c Z0 e0 DQ a w): ∀{l:Fr} {st:St} {R:Type} {r:R} {K:Fr->Option R},(∀t s,(t,s)∈l->au DQ.fr t=s)->bT c Z e st a w->MO ok DQ.fr l st.fr K=some r-> ∃fr,bT c Z e {st with fr:=fr} a w/\K fr=some r:=by
 intro l;induction l with
 |nil=>intro st R r K _ h hK;exact ⟨st.fr,h,hK⟩
 |cons p l ih=>
  have ⟨t,s⟩:=p;intro st R r K hl h hK;have xO: ∀t s,(t,s)∈l->au DQ.fr t=s:=(by grind)
  have hs:=hl t s abu;cases s with
  |ptr root off=>
   simp only [MO] at hK;cases hc:ok t&&(!DN root&&(IZ (au DQ.fr root)&&(IZ (au st.fr root)&&!cY (au st.fr t)))) with
   |false=>grind
   |true=>
    rw [hc] at hK;simp at hc;have ⟨_,hp,hb0,uU,hn⟩:=hc;simp only [cond_true,pe] at hK;have ⟨cs,hf,_⟩:=DR uU;have hB:=Wu h0 h hp hb0 uU;have hv:ai e (a.tmps.getD t undef) (.ptr root off):=by have:=h0.slot t;rw [hs] at this;simp only [eD,ai] at this⊢;rw [hB];exact this
    have h2:=h.agS hf hn hv;have ⟨fr,g1,g2⟩:=ih (st:={st with fr:=gV st.fr t (.ptr root off)}) xO h2 hK;grind
  |_=>exact ih xO h hK
theorem Wv {l:Fr}(hn:(aS l).Nodup): ∀t s,(t,s)∈l->au l t=s:=by
 induction l with
 |nil=>grind
 |cons p l ih=>
  have ⟨k,x⟩:=p;have hn:(k::aS l).Nodup:=hn;intro t s hm;rcases AI.1 hm with hm|hm
  .simp_all [au]
  .have hk:t∈aS l:=by unfold aS;exact (by grind)
   simp only [au,iy];grind
def tz {ds:List Nat}{R:Type}{r:R}{K:St->Option R}(h:bT c Z e st a w)(hK:FG ds st K=some r): ∃cj,bT c Z e cj a w/\K cj=some r:=by have ⟨p,q,fr,m⟩:=st;simp only [FG,KC] at hK;have ⟨z8,g1,g2⟩:=Nh (st:={cX:=p,cV:=q,fr:=cb ds fr,aT:=m}) h (Wv h.nodup) h.drop hK;grind
end
theorem ap4 {a b:Kd}(h:kdB a b=true):a=b:=by cases a<;>cases b<;>simp [kdB,kB] at h<;>first|rfl|(subst h;rfl)|grind
theorem alg {l m:List Kd}(h:Lo l m=true):l=m:=by
 induction l generalizing m with
 |nil=>grind [Lo]
 |cons a l ih=>
  cases m with
  |nil=>grind [Lo]
  |cons b m=>simp only [Lo,sh] at h;grind [ap4]
def ap5 {s t:MS}(h:msB s t=true):s=t:=by unfold msB at h;cases s;cases t;grind [alg]
structure atT (P:Program) (t:TypeId) (s:MS):Prop where
 row: ∃kt el,P.underlying t=some (.map kt el)/\(∀w:World,(zeroValue el).run P w= .ok (agm s.b (abo s.b)) w)/\ (∀(em:Bool) (ks:List MV) (w:World),na s.lay ks=true->(Instr.checkKey em 10000 kt (G5 s.st ks)).run P w= .ok () w)/\ ∃d,P.underlying kt=some d/\((∀a b,na s.lay a=true->na s.lay b=true->alR d (G5 s.st a) (G5 s.st b)=some (Cq b a))\/ (∀a b,na s.lay a=true->na s.lay b=true->alR d (G5 s.st a) (G5 s.st b)=none/\ ∀w:World,(akH kt (G5 s.st a) (G5 s.st b)).run P w= .ok (Cq b a) w))
def Cx (P:Program)(c:Ctx):Prop:= ∀t s,Y6 c t=some s->atT P t s
def BM (s:MS):List MapEntry->List (List MV)->Prop
 |[],Ni=>Ni=[]
 |x::es,Ni=> ∃q r,Ni=q::r/\na s.lay q=true/\x.key=G5 s.st q/\BM s es r
theorem BM.length {s:MS}: ∀{es:List MapEntry} {Ni:List (List MV)},BM s es Ni->Ni.length=es.length
 |[],_,h=>by cases h;rfl
 |_::es,_,⟨q,r,rfl,_,_,h⟩=>by simp [h.length]
def BM.append {s:MS}: ∀{es es':List MapEntry} {Ni atU:List (List MV)},BM s es Ni->BM s es' atU->BM s (es++es') (Ni++atU)
 |[],_,_,_,h,h'=>by cases h;exact h'
 |x::es,_,_,_,⟨q,r,rfl,h1,h2,h⟩,h'=>⟨q,_,rfl,h1,h2,h.append h'⟩
def BM.at {s:MS}: ∀{es:List MapEntry} {Ni:List (List MV)} {i:Nat} {x:MapEntry},BM s es Ni->es[i]? =some x-> ∃q,Ni[i]? =some q/\na s.lay q=true/\x.key=G5 s.st q
 |[],_,_,_,_,h=>by simp at h
 |y::es,_,i,x,⟨q,r,rfl,h1,h2,h⟩,hx=>by
  cases i with
  |zero=>grind
  |succ i=>simpa using h.at (i:=i) (by grind)
def RF.ks {s:MS}: ∀{es:List MapEntry} {ms:List MV} {n:Nat},es.length=ms.length->(∀(i:Nat) x m,es[i]? =some x->ms[i]? =some m->anY s x m (n+i))->BM s es (ms.map apy)
 |[],[],_,_,_=>rfl
 |x::es,m::ms,n,hl,h=>by obtain ⟨h1,ks,v,rfl,h2,h3,_⟩:=h 0 x m rfl rfl;refine ⟨ks,ms.map apy,rfl,h2,h3,RF.ks (n:=n+1) (by simpa using hl) λi y q hy hq=> ?_⟩;have:=h (i+1) y q (by simpa using hy) (by simpa using hq);grind
 |[],_::_,_,hl,_=>by simp at hl
 |_::_,[],_,hl,_=>by simp at hl
def RF.Ni {s:MS}{es:Array MapEntry}{n:Nat}{ms:List MV}(h:RF s es n ms):BM s es.toList (ms.map apy):=RF.ks (n:=0) (by grind [h.size]) (λi x m hx hm=>by rw [agK];exact h.ent i x m (by grind) hm)
structure KL (s:MS) (w w':World):Prop where
 size:w.heap.size<=w'.heap.size
 vP: ∀(b:Nat) (o:Obj),w.heap[b]? =some o->w'.heap[b]? =some o\/ ∃es n es' n' new Ni,o=Obj.map es n/\w'.heap[b]? =some (Obj.map es' n')/\es'.toList=es.toList++new/\BM s new Ni/\ ∀x∈new,x.val=agm s.b (abo s.b)
 rest:Rest w w'
theorem dk.m {w w':World}(s:MS)(h:dk w w'):KL s w w':=⟨h.size,λb o ho=> .inl (by rw [h.vP b (bx ho)];exact ho),h.rest⟩
theorem KL.trans {s:MS} {w w' I6:World}(h:KL s w w') (h':KL s w' I6):KL s w I6:=by
 refine ⟨agM h.size h'.size,λb o ho=> ?_,h.rest.trans h'.rest⟩;rcases h.vP b o ho with h1|⟨es,n,es1,n1,new,Ni,rfl,h1,h2,h3,h4⟩
 .exact h'.vP b o h1
 .rcases h'.vP b _ h1 with g1|⟨es',n',es2,n2,ayN,ayO,g0,g1,g2,g3,g4⟩
  .grind
  .refine .inr ⟨es,n,es2,n2,new++ayN,Ni++ayO,rfl,g1,by grind,h3.append g3,λx hx=> ?_⟩;grind
section
variable {P:Program}{c:Ctx}{Z:bC}{e:Env}{st:St}{a:Act}{w w':World}{R:Type}{K:St->Option R}{r:R}{Q:Exit->Act->World->Prop}{o:Oper}{e':Env}
def Chg.map {es:Array MapEntry}{n g:Nat}(hh:w.heap[g]? =some (.map es n)) (es':Array MapEntry) (n':Nat):Chg g w {w with heap:=w.heap.setIfInBounds g (.map es' n')}:=by exact ⟨abu,(by grind),⟨rfl,rfl,rfl⟩⟩
def alh {x:Operand}(ho:o.op= .assign x)(h:bT c Z e st a w)(hK:Ma c o st x (λs st=>bB c st o.dst s K)=some r):o.wp P a w (λa' w'=>dk w w'/\Out c Z K r e.φ w a' w') Q:=by
 have plain:bB c st o.dst (aP c st x) K=some r->o.wp P a w (λa' w'=>dk w w'/\Out c Z K r e.φ w a' w') Q:=by intro hK;obtain ⟨v,h1,h2⟩:=S8 (P:=P) (.inr ho) h hK;unfold akA;rw [h1 w trivial,ahE];exact ⟨.refl w,h2⟩
 unfold Ma at hK;split at hK
 .rename_i t _ _;split at hK
  .rename_i cs Ci;cases hm:fU cs with
   |false=>grind
   |true=>
    simp only [hm,cond_true] at hK;cases hnp:bL st.cX t||DN t with
    |true=>grind
    |false=>
     have ⟨hn,hpt⟩:=BY.1 hnp;simp only [hnp,cond_false,KC] at hK;have rK:=h.slot t;rw [Ci] at rK;have h1:=h.drop (ds:=[t]);have hg:=M3 [t] st.fr h.nodup;have yz: ∀t' jM,au (cb [t] st.fr) t'= .box jM->t'≠t/\au st.fr t'= .box jM:=by
      intro t' jM ht;rw [hg] at ht;split at ht
      .cases ht
      .rename_i eR;refine ⟨λhe=>eR ?_,ht⟩;simp_all [bL]
     have ml:vQ Z e w {st with fr:=cb [t] st.fr} (a.eval (.tmp t)) (.box cs):=by refine ⟨e.B t,rK.1.1 hpt,⟨YS rK.2.cz (by rw [<-h.defers.2.1,<-bH,hn];simp),rK.2.obj,rK.2.free⟩,λt' jM ht=> ?_,λf o ho=>h.bf t cs f o Ci ho⟩;obtain ⟨g1,g2⟩:=yz t' jM ht;exact h.bb t' t jM cs g2 Ci g1
     exact Zk (w':=w) (.refl w) (by simp [execOp,ho]) h1 (.refl _ _ _) ml hK
  grind
 grind
def agT {t:TypeId}{x:Operand}{I:TI}(ho:o.op= .range t x)(hI:c.tv t=some I)(hT:iz P c.ti)(h:bT c Z e st a w)(hK:Y8 I (aP c st x) (λs=>bB c st o.dst s K)=some r):o.wp P a w (Out c Z K r e.φ w) Q:=by
 have ⟨ng,hc⟩:=a8 hI;have ⟨hx,_⟩:=h.eval x;generalize aP c st x=s' at hx hK;unfold Y8 at hK;split at hK
 .have ⟨hS,hK⟩:=ob hK;have hu:=TI.I8 (hT t I ng) hS;obtain ⟨b,hb,rfl⟩:=G7 hx;have bU:(execOp a.eval o).run P w= .ok (.value (.pointer (some ⟨w.heap.size,0,none⟩))) (w.alloc (.stringIter b 0)):=by simp [execOp,ho,hb,run_range_string w t b hu,World.iter,agN]
  have hg:dk w (w.alloc (.stringIter b 0)):=by exact ⟨abu,(by grind [qn]),⟨rfl,rfl,rfl⟩⟩
  refine fin bU (h.grow hg) (hg.trans h.cz _) ?_ hK;exact ⟨w.heap.size,by rw [Zg rfl],⟨h.cz _ (afB _),⟨_,ju w _,rfl⟩,Wj h⟩,(Mf h).1,(Mf h).2⟩
 .cases hK
theorem Chg.iter {s:ByteArray}{n g:Nat}(hh:w.heap[g]? =some (.stringIter s n)) (n':Nat):Chg g w {w with heap:=w.heap.setIfInBounds g (.stringIter s n')}:=by exact ⟨abu,(by grind),⟨rfl,rfl,rfl⟩⟩
def ali {x:Operand}(ho:o.op= .next x true)(h:bT c Z e st a w)(hK:itK st (aP c st x) (λs st=>bB c st o.dst s K)=some r):o.wp P a w (Out c Z K r e.φ w) Q:=by
 have ⟨hx,_⟩:=h.eval x;generalize aP c st x=s' at hx hK;unfold itK at hK;split at hK
 .rename_i t;split at hK
  .rename_i s es Ci;have rK:=h.slot t;rw [Ci] at rK;have ⟨ob,h1,h2⟩:=rK.2.obj;cases ob with
   |cells arr T z=>exact absurd h2.2.Fk (by simp [fU])
   |map arr n=>have ⟨s2,ms2,h3,h4,_⟩:=h2;grind
   |stringIter b pos=>
    have h3:_=[aF.mp MS.it _]:=h2;obtain ⟨rfl,rfl⟩:=h3;simp only [ai] at hx;cases pF:Qt [.s b.data.toList,.i .i64 (pos:Int)] with
    |true=>
     rw [pF] at hK;have dX:pos<b.size:=by simpa [Qt,vN,itS] using pF
     have ⟨hn,hK⟩:=oz hK;simp only [force_eq,pe] at hK;have hb:(⟨b.data.toList.toArray⟩:ByteArray)=b:=by cases b;simp
     have hch:=Chg.iter h1 (pos+(alm b pos).2);have hs:=h.setObj (jM:=[.mp MS.it (FE [.s b.data.toList,.i .i64 (pos:Int)])]) Ci hch (MapKept.heap_set h1).1 (by show _=_;simp [FE,itS,vN,hb]) rfl (λt=>by rw [bO]) (fA h.nodup);have bU:(execOp a.eval o).run P w= .ok (.value (.tuple #[.bool true,.int .i64 pos,.int .i32 (alm b pos).1])) {w with heap:=w.heap.setIfInBounds (e.B t) (.stringIter b (pos+(alm b pos).2))}:=by simp [execOp,ho,hx,Instr.next,getObj,setObj,amt,h1,dX,agN,goInt]
     refine fin (s:= .cw [.sc (.p (.b true)),.sc (.p (.i .i64 (vN [.s b.data.toList,.i .i64 (pos:Int)]))),.sc (.p (.i .i32 (FD [.s b.data.toList,.i .i64 (pos:Int)])))]) bU hs (.chg _ hch (YS rK.2.cz (by rw [<-h.defers.2.1,<-bH,hn];simp))) ⟨?_,trivial⟩ hK;exact ⟨_,rfl,.bool true,_,rfl,Lq _,rfl,goInt pos,_,rfl,yX _ _,rfl,_,[],rfl,yX _ _,rfl,rfl⟩
    |false=>
     rw [pF] at hK;have dX: ¬pos<b.size:=by simpa [Qt,vN,itS] using pF
     have bU:(execOp a.eval o).run P w= .ok (.value (.tuple #[.bool false])) w:=by simp [execOp,ho,hx,Instr.next,getObj,setObj,amt,h1,dX,agN,goInt]
     refine fin (s:= .cw [.sc (.p (.b false))]) bU h (.refl _ _ _) ⟨?_,trivial⟩ hK;exact ⟨_,rfl,.bool false,_,rfl,Lq _,rfl,rfl⟩
   |_=>exact h2.elim
  .cases hK
 .cases hK
def RL {R:Type}{r:R}: ∀{xs:List MV} {K:List UInt8->Option R},Qu xs K=some r-> ∃ns:List Int,xs=ns.map (MV.i .u8)/\K (ns.map λn=>alu n.toNat)=some r:=by
 intro xs;induction xs with
 |nil=>intro K h;exact ⟨[],rfl,h⟩
 |cons m xs ih=>
  intro K h;simp only [Qu,byK] at h;cases m with
  |i k n=>
   simp only [gI] at h;by_cases hk:k= .u8
   .subst hk;have ⟨_,h1⟩:=dQ h;have ⟨ns,hx,h2⟩:=ih h1;exact ⟨n::ns,by rw [hx];rfl,h2⟩
   grind
  |_=>grind [gI]
theorem agU {y t:TypeId}{x:Operand}{Y I:TI}(ho:o.op= .convert y t x)(hY:c.tv y=some Y)(hI:c.tv t=some I)(hL:Y.IK=true)(hT:iz P c.ti)(h:bT c Z e st a w)(hK:af3 c st Y I (aP c st x) (λs=>bB c st o.dst s K)=some r):Rd P c Z K r e a w o (dk w):=by
 have ⟨hyi,_⟩:=a8 hY;have ⟨ng,_⟩:=a8 hI;have ⟨hx,_⟩:=h.eval x;generalize aP c st x=s' at hx hK;have ⟨hu,_⟩:=TI.mn (hT y Y hyi) hL;unfold af3 at hK;cases hE:c.tv Y.elem with
 |none=>grind
 |some E=>
  have ⟨mT,_⟩:=a8 hE;simp only [hE] at hK;cases hSU:I.isS&&acW E with
  |false=>grind
  |true=>
   simp only [hSU,cond_true] at hK;simp at hSU;have hd:=TI.I8 (hT t I ng) hSU.1;have ⟨he,yS⟩:=Tc (hT _ E mT) hSU.2;have go: ∀(ns:List Int),(∀w':World,dk w w'->(convert y t (a.eval x)).run P w'= .ok (.string (strOfNums ns)) w')->bB c st o.dst (.sc (.p (.s (ns.map λn=>alu n.toNat)))) K=some r-> Rd P c Z K r e a w o (dk w):=by intro ns bU hK;refine ac2 (s:= .sc (.p (.s (ns.map λn=>alu n.toNat)))) (v:= .string (strOfNums ns)) (λw' hg=>by simp_all [execOp,agN]) h (.refl _ _ _) (.of ?_ trivial) hK;rw [<-strOfNums_data];exact akU _
   have aDc:a.eval x= .slice none 0 0->bB c st o.dst (.sc (.p (.s []))) K=some r->Rd P c Z K r e a w o (dk w):=by intro hv hK;refine go [] (λw' hg=> ?_) hK;rw [hv,run_convert_bytes_nil w' y _ hu he 0 0 t hd];rfl
   split at hK
   .have ⟨ns,hns,EP⟩:=RL hK;refine go ns (λw' hg=> ?_) EP;subst hns;have ⟨_,hx⟩:=hx;generalize hv:[a.eval x]=vs at hx;cases hx;rename_i ad cap bg off IM f h1 h2 h3 h4 h5;simp only [alB,and_true] at hv;rw [hv];have hlen:(ns.map (MV.i .u8)).length=ns.length:=ahF ..;have h5: ∀(i:Nat) (hi:i<ns.length),jI e.key e.φ (f i) (.i .u8 ns[i]):=(by grind)
    rw [hlen] at h1 h2 h3 h4⊢;cases ns with
    |nil=>rw [run_convert_bytes_string w' y t _ _ _ _ hu he hd];cases ad<;>simp [Conv.bytesToString,loadCells,loadCellsFrom,agN,strOfNums]<;>rfl
    |cons n ns=>
     have h5': ∀(i:Nat) (hi:i<(n::ns).length),f i=[.int .u8 (n::ns)[i]]:=by intro i hi;have:=h5 i hi;generalize f i=q at this;cases this;rfl
     have ayP:IM=1:=by rw [<-h3 0 abu,h5' 0 abu];rfl
     subst ayP;rw [h2 abu];refine run_convert_bytes_arg w' y _ hu he bg off _ cap (n::ns) rfl (λi hi=> ?_) t hd;have h6:=h4 i 0 hi aab;rw [h5' i hi] at h6;simp at h6;rw [hg.cell (h.mj _ _ _ h6),aie,ab2 hi];rfl
   .grind [ai,bp]
   .rename_i f;cases hf:aN st.aT f with
    |none=>grind
    |some ow=>
     simp only [hf] at hK;have ⟨oM,hK⟩:=ob hK;have oM:=bD oM;have ⟨ns,hns,EP⟩:=RL hK;have ⟨hv,_⟩:=uS h hx hf;refine go ns (λw' hg=> ?_) EP;have ⟨J,cells,k1,k2,k3,k4,k5⟩:=(h.jC f ow hf).row;rw [oM,mT] at k1;cases k1;rw [yS] at k3 k4;rw [hns] at k3 k4;have bN: ∀(ns:List Int) (cells:List Value),bn e.key e.φ 1 cells (ns.map (MV.i .u8))->cells=ns.map (alY .u8):=by
      intro ns;induction ns with
      |nil=>intro cells hc;exact hc
      |cons n ns ih=>intro cells hc;obtain ⟨v,q,rfl,_,hr,hc⟩:=hc;cases hr;grind
     have hce:=bN _ _ k4;subst hce;rw [hv];rw [ahF] at k3;rcases k3.2 with ⟨q1,q2⟩|⟨g,cap,dp,q1,_,q2,q3,q4,q5,q6⟩
     .have:ns=[]:=(by grind)
      subst this;rw [q1,run_convert_bytes_nil w' y _ hu he 0 0 t hd];rfl
     .rw [q1];refine run_convert_bytes_arg w' y _ hu he g 0 _ cap ns rfl (λi hi=> ?_) t hd;refine hg.cell ?_;rw [agK,cell_of q2];have hi2:(dp.toList.take (ns.length *1))[i]? =some (.int .u8 (ns.getD i 0)):=by rw [q6,akp,aie,ab2 hi];rfl
      grind
   .cases hK
def agW {t:TypeId}{I:TI}(hI:c.tv t=some I)(hT:iz P c.ti): ∃i z,P.info? t=some i/\i.zero=some z/\av e z.cells.toList I.zero:=by
 have ⟨ng,hc⟩:=a8 hI;have ⟨d,i,h1,h2,h3,h4⟩:=hT t I ng;suffices hz: ∃z,i.zero=some z/\av e z.cells.toList I.zero by grind
 cases d<;>simp only [tt] at h4;case struct fs=>grind [afE,nh]
 case tuple ts=>grind
 case slice el=>have ⟨_,_,_,_,_,hz,hl,_⟩:=h4;exact ⟨_,hz,by rw [hl];exact ⟨[.slice none 0 0],[],rfl,rfl,rfl⟩⟩
 case array n el=>have ⟨_,_,_,_,k,m,_,_,_,hl,hz⟩:=h4;exact ⟨_,hz,by rw [hl];exact ⟨bN k (zA m),[],by simp [afE],⟨rfl,abu⟩,rfl⟩⟩
 case bool=>have ⟨_,_,_,_,hl,hz⟩:=h4;exact ⟨_,hz,by rw [hl];exact ⟨[.bool false],[],rfl,⟨rfl,.b _⟩,rfl⟩⟩
 case int k=>have ⟨_,_,_,_,hl,hz⟩:=h4;exact ⟨_,hz,by rw [hl];exact ⟨[.int k 0],[],rfl,⟨rfl,.i _ _⟩,rfl⟩⟩
 case string=>have ⟨_,_,_,_,hl,b,hz,hb⟩:=h4;refine ⟨_,hz,by rw [hl];refine ⟨[.string b],[],rfl,⟨rfl,?_⟩,rfl⟩;rw [<-hb];exact .s b⟩
 all_goals
  have ⟨_,_,_,_,v,hz,hv,hl⟩:=h4;have:v.cells.toList=[v]:=by cases v<;>simp_all [afE,alP]
  grind [nh]
def av.atW {cs:List aF}: ∀{vs:List Value} {ms:List MV},av e vs cs->Cp cs=some ms->il e.key e.φ vs ms:=by
 induction cs with
 |nil=>intro vs ms h hm;cases h;simp [Cp] at hm;subst hm;exact .nil
 |cons l r ih=>
  intro vs ms h hm;obtain ⟨v,u,rfl,h1,h2⟩:=h;cases hr:Cp r with
  |none=>simp_all [Cp]
  |some q=>
   cases l<;>simp [Cp,hr] at hm
   .subst hm;exact .cons v _ u q h1.2 (ih h2 hr)
   .subst hm;obtain ⟨rfl,hx⟩:=h1;exact .cons _ _ u q (.h _ _ _ hx) (ih h2 hr)
   .subst hm;subst h1;exact .cons _ _ u q (.list none 0 [] 0 0 0 (λ_=>[]) (afB _) (by grind) (by grind) (by grind) (by grind)) (ih h2 hr)
def adn {b:Bool}{ms:List MV}{x:MV}{vs:List Value}(h:il e.key e.φ vs ms)(hx:yx b ms=some x):jI e.key e.φ vs x:=by
 cases b with
 |true=>cases ms<;>simp [yx] at hx<;>subst hx<;>exact .agg _ _ h
 |false=>
  cases ms with
  |nil=>grind [yx]
  |cons m ms=>
   cases ms with
   |cons y ys=>grind [yx]
   |nil=>
    simp [yx] at hx;cases h with
    |cons v _ u _ h1 h2=>cases h2;grind
theorem RM (z:Array Value)(hz:0<z.size): ∀n:Nat,(madeCells z (n *z.size)).toList=(IN n z.toList).flatten
 |0=>by simp [madeCells]
 |n+1=>by
  have ih:=RM z hz n;unfold madeCells at ih⊢;rw [ag7,Array.toList_range] at ih⊢;rw [ak2,akI,agu,ih,List.replicate_succ',akT];simp;apply agO;intro k;rw [akp];by_cases hk:k<z.size
  .rw [List.getElem?_range hk];simp only [Option.map_some,Function.comp];rw [show (n *z.size+k)%z.size=k by rw [al0,Nat.mul_add_mod,Nat.mod_eq_of_lt hk]];simp [hk]
  grind
def Fp {key:Nat->Nat} {φ:Ph}{size:Nat}{vs:List Value}{x:MV}(hl:vs.length=size)(h:jI key φ vs x): ∀n,bn key φ size (IN n vs).flatten (IN n x)
 |0=>rfl
 |n+1=>⟨vs,(IN n vs).flatten,by grind,hl,h,Fp hl h n⟩
def Nj {α:Type}(l:List α): ∀n,(IN n l).flatten.length=n *l.length
 |0=>abu
 |n+1=>by simp_all
theorem Tj {t:TypeId}{x y:Operand}{I E:TI}(ho:o.op= .makeSlice t x y)(hI:c.tv t=some I)(hL:I.IK=true)(hE:c.tv I.elem=some E)(hT:iz P c.ti)(h:bT c Z e st a w)(hK:afS (o.dst.getD 0) st I E (aP c st x) (aP c st y) (λs st=>bB c st o.dst s K)=some r): o.wp P a w (λa' w'=>dk w w'/\Out c Z K r e.φ w a' w') Q:=by
 have ⟨ng,hc⟩:=a8 hI;have ⟨mT,pg⟩:=a8 hE;have ⟨hu,E2,GV,_,gq⟩:=TI.mn (hT t I ng) hL;have ⟨hx,_⟩:=h.eval x;have ⟨hy,_⟩:=h.eval y;generalize aP c st x=sx at hx hK;generalize aP c st y=sy at hy hK;unfold afS at hK;split at hK;rotate_left
 .cases hK
 rename_i k1 n k2 m;cases hb:ahs 1 E.bytes with
 |false=>grind
 |true=>
 simp only [hb,cond_true] at hK;have hb:=afH hb;have ⟨hn,hK'⟩:=dQ hK;have hK:=hK';have hn:=of_decide_eq_true hn;have ⟨h0,hnm,qg⟩:=hn;cases Tb:Cp E.zero with
 |none=>grind
 |some zs=>
 simp only [Tb] at hK;cases hre:yx E.st zs with
 |none=>grind
 |some z0=>
 simp only [hre] at hK;have ⟨i,z,hi,hz,hlr⟩:=agW (e:=e) hE hT;have ⟨i',z',hi',hs,hby,hz',ap6⟩:=kD (hT _ E mT) pg;rw [hi] at hi';cases hi';rw [hz] at hz';cases hz';have fG:jI e.key e.φ z.cells.toList z0:=adn (hlr.atW Tb) hre;have ev1:a.eval x= .int k1 n:=nb hx;have ev2:a.eval y= .int k2 m:=nb hy;have hnb:m<=m *(E.bytes:Int):=by have:m *1<=m *(E.bytes:Int):=Int.mul_le_mul_of_nonneg_left aab aab;omega
 have atX:=run_make (P:=P) w t I.elem i z hu hi hz k1 k2 n m h0 hnm (by grind) aab;have bU:(execOp a.eval o).run P w= .ok (.value (.slice (some ⟨w.heap.size,0,none⟩) n.toNat m.toNat)) (w.alloc (.cells (madeCells z.cells (m.toNat *i.size)) I.elem)):=by simp [execOp,ho,ev1,ev2,atX]
 rw [hs,<-ap6] at bU;have hg:dk w (w.alloc (.cells (madeCells z.cells (m.toNat *z.cells.size)) I.elem)):= .alloc w _ _;have ap7:(madeCells z.cells (m.toNat *z.cells.size)).toList=(IN m.toNat z.cells.toList).flatten:=(by grind [RM])
 have aoa:(madeCells z.cells (m.toNat *z.cells.size)).toList.take (n.toNat *E.size)=(IN n.toNat z.cells.toList).flatten:=by
  have hl:(IN n.toNat z.cells.toList).flatten.length=n.toNat *E.size:=by rw [Nj,af2,ap6]
  have hr:IN m.toNat z.cells.toList=IN n.toNat z.cells.toList++IN (m.toNat-n.toNat) z.cells.toList:=by rw [List.replicate_append_replicate];congr 1;omega
  rw [ap7,hr,akT,<-hl,List.take_left]
 have kp:=Fp (size:=E.size) (by grind) fG n.toNat;have hlen:(IN n.toNat z0).length=n.toNat:=List.length_replicate;have yS:(madeCells z.cells (m.toNat *z.cells.size)).toList.length=m.toNat *E.size:=by rw [af2,size_madeCells,ap6]
 have agI: ∀off,e.φ w.heap.size off=none:=by
  intro off;cases hp:e.φ w.heap.size off with
  |none=>rfl
  |some u=>have:=afx w _ (h.mj _ _ _ hp);simp at this
 have Fm:=h.npf hK;have hK:=pV hK;have im:ch c Z.nc e (w.alloc (.cells (madeCells z.cells (m.toNat *z.cells.size)) I.elem)) (.slice (some ⟨w.heap.size,0,none⟩) n.toNat m.toNat) ⟨I.elem,false,IN n.toNat z0⟩:=by
  refine ⟨E,_,mT,pg,⟨?_,.inr ⟨w.heap.size,m.toNat,_,?_,akJ _,ju w _,?_,?_,?_,?_⟩⟩,kp,?_⟩
  .simp_all
  .rw [hlen]
  .grind
  .grind [Go.maxLen]
  .grind
  .grind
  .intro bg qf;simp [IT] at qf;subst qf;refine ⟨h.cz _ (afB _),(by grind),λhc=>False.elim hc⟩
 have nm:=h.jD (f:=o.dst.getD 0) Fm im hg.size (λb KG _=>hg.vP b KG) (λb off u hu=>hg.cell (h.mj b off u hu)) (by grind [IT]);exact Zk (s:= .sc (.own (o.dst.getD 0))) hg bU nm (hg.trans h.cz _) (.of (tw rfl) trivial) hK
end
def abz:List (Nat×Nat)->Nat->Nat
 |[],_=>0
 |(f,x)::r,g=>if f=g then x else abz r g
def Tk (E:Nat->Value)(ps:List (Nat×Nat))(f:Nat):Value:=match abz ps f with
 |0=> .slice none 0 0
 |g+1=>E g
structure Tl (ps:List (Nat×Nat)):Prop where
 fn: ∀f x y,(f,x)∈ps->(f,y)∈ps->x=y
 inj: ∀f f' g,(f,g+1)∈ps->(f',g+1)∈ps->f=f'
def Tl.nil:Tl []:=⟨(by grind),(by grind)⟩
theorem DT {ps:List (Nat×Nat)}(h:Tl ps){f x:Nat}(hm:(f,x)∈ps):abz ps f=x:=by
 have hfn:=h.fn;clear h;induction ps with
 |nil=>simp at hm
 |cons p ps ih=>unfold abz;grind
def Zy {ps:List (Nat×Nat)}{f g:Nat}(h:rX ps f g=true):(∀b,(f,b)∈ps->b=g/\g≠0)/\(∀x,(x,g)∈ps->x≠f->g=0):=by
 induction ps with
 |nil=>simp
 |cons p ps ih=>simp only [rX,sh,iy] at h;grind
theorem Tl.add {ps:List (Nat×Nat)}{f g:Nat}(h:Tl ps)(hp:rX ps f g=true):Tl ((f,g)::ps):=by
 have ⟨p1,p2⟩:=Zy hp;refine ⟨λa x y hx hy=> ?_,λa b k hx hy=> ?_⟩
 .rcases AI.1 hx with hx|hx<;>rcases AI.1 hy with hy|hy
  .grind
  .grind
  .grind
  .exact h.fn a x y hx hy
 .rcases AI.1 hx with M9|M9<;>rcases AI.1 hy with hy1|hy1
  .grind
  .grind
  .grind
  .exact h.inj a b k M9 hy1
inductive TC (st:St):List (Nat×Nat)->List LK->List aF->List MV->List (Nat×Nat)->Prop
 |nil (ps):TC st ps [] [] [] ps
 |Tn {ps ks ls ms lm}:TC st ps ks ls ms lm->TC st ps (.k .l::ks) (.nil::ls) (.list []::ms) lm
 |hs {ps ks ls ms lm} (k:IntKind) (n:Nat) (x:List Int):TC st ps ks ls ms lm->TC st ps (.k (.h k n)::ks) (.hs k n x::ls) (.h k n x::ms) lm
 |p {ps ks ls ms lm} (x:Kd) (m:MV) (l':aF):kw x m some=some l'->TC st ps ks ls ms lm->TC st ps (.k x::ks) (.p m::ls) (m::ms) lm
 |own {ps ks ls ms lm} (f ty:Nat) (iw:Bool) (g:Nat) (o:pC):aN st.aT g=some o->o.ty=ty->(o.iw=true->iw=true)->g∉st.cV->rX ps f (g+1)=true-> TC st ((f,g+1)::ps) ks ls ms lm->TC st ps (.own f ty iw::ks) (.own g::ls) (.list o.xs::ms) lm
 |Ar {ps ks ls ms lm} (f ty:Nat) (iw:Bool):rX ps f 0=true->TC st ((f,0)::ps) ks ls ms lm->TC st ps (.own f ty iw::ks) (.nil::ls) (.list []::ms) lm
theorem Nk {R:Type}{k:Kd}{m:MV}{l:aF}{K:aF->Option R}(h:kw k m some=some l):kw k m K=K l:=by unfold kw gB gI gS gL gH gR at h⊢;grind
theorem DU {R:Type}{r:R}{k:Kd}{m:MV}{K:aF->Option R}(h:kw k m K=some r): ∃l,kw k m some=some l/\K l=some r:=by unfold kw gB gI gS gL gH gR at h⊢;grind
def FO {st:St}{ks:List LK}: ∀{R:Type} {r:R} {ps:List (Nat×Nat)} {ls:List aF} {K':List MV->List (Nat×Nat)->Option R},mC st ps ks ls K'=some r-> ∃ms lm,TC st ps ks ls ms lm/\K' ms lm=some r:=by
 induction ks with
 |nil=>
  intro R r ps ls K' h;cases ls with
  |nil=>exact ⟨[],ps,.nil ps,h⟩
  |cons=>grind [mC]
 |cons k ks ih=>
  intro R r ps ls K' h;cases ls with
  |nil=>grind [mC]
  |cons l ls=>
   simp only [mC] at h;unfold SZ at h;split at h
   .have ⟨ms,lm,h1,h⟩:=ih h;exact ⟨_,_,.Tn h1,h⟩
   .have ⟨hq,h⟩:=ob h;simp only [sh,decide_eq_true_eq] at hq;have ⟨rfl,hq⟩:=hq;have hq:=bD hq;subst hq;have ⟨ms,lm,h1,h⟩:=ih h;exact ⟨_,_,.hs _ _ _ h1,h⟩
   .have ⟨l',h0,h⟩:=DU h;have ⟨ms,lm,h1,h⟩:=ih h;exact ⟨_,_,.p _ _ l' h0 h1,h⟩
   .rename_i f ty iw g;cases ho:aN st.aT g with
    |none=>grind
    |some o=>simp only [ho] at h;have ⟨hc,h⟩:=oz h;simp at hc;have ⟨⟨⟨h1,h2⟩,h3⟩,h4⟩:=hc;have ⟨ms,lm,h5,h⟩:=ih h;refine ⟨_,_,.own f ty iw g o ho (by simp_all) ?_ ?_ h4 h5,h⟩;all_goals grind [bH]
   .rename_i f ty iw;have ⟨hc,h⟩:=ob h;have ⟨ms,lm,h5,h⟩:=ih h;exact ⟨_,_,.Ar f ty iw hc h5,h⟩
   .simp at h
def TC.ps {st:St}{ps lm:List (Nat×Nat)}{ks:List LK}{ls:List aF}{ms:List MV}(h:TC st ps ks ls ms lm):Tl ps->Tl lm/\ ∀p∈ps,p∈lm:=by
 induction h with
 |nil=>grind
 |Tn _ ih=>exact ih
 |hs _ _ _ _ ih=>exact ih
 |p _ _ _ _ _ ih=>exact ih
 |own f ty iw g o _ _ _ _ hp _ ih=>intro h;have ⟨h1,h2⟩:=ih (h.add hp);grind
 |Ar f ty iw hp _ ih=>intro h;have ⟨h1,h2⟩:=ih (h.add hp);grind
def atY (st:St)(ps:List (Nat×Nat))(ks:List LK)(f:Nat)(o:pC):Prop:=LK.own f o.ty o.iw∈ks/\((∃g o3,(f,g+1)∈ps/\aN st.aT g=some o3/\o3.ty=o.ty/\o3.xs=o.xs/\(o3.iw=true->o.iw=true)/\g∉st.cV)\/((f,0)∈ps/\o.xs=[]))
theorem alk {e:Env}{st:St}{psF:List (Nat×Nat)}(IU:Tl psF){ps lm:List (Nat×Nat)}{ks:List LK}{ls:List aF}{ms:List MV}(h:TC st ps ks ls ms lm)(he:e.m=st.aT):(∀p∈lm,p∈psF)-> ∀{vs:List Value},av e vs ls-> ∀(m0:List (Nat×pC)),∃cs m1,(∀{R:Type} (K:List aF->List MV->St->Option R) (rest:List MV),cZ ⟨[],[],[],m0⟩ ks (ms++rest) K=K cs rest ⟨[],[],[],m1⟩)/\ (∀e2:Env,e2.key=e.key->e2.φ=e.φ->(∀f,e2.E f=Tk e.E psF f)->av e2 vs cs)/\(∀f o,aN m1 f=some o->aN m0 f=some o\/atY st psF ks f o):=by
 induction h with
 |nil=>intro _ vs hl m0;cases hl;exact ⟨[],m0,λK rest=>rfl,λe2 _ _ _=>rfl,λf o h=> .inl h⟩
 |Tn _ ih=>
  intro jb vs hl m0;obtain ⟨v,u,rfl,h1,h2⟩:=hl;have ⟨cs,m1,g1,g2,g3⟩:=ih jb h2 m0;subst h1;refine ⟨.p (.list [])::cs,m1,λK rest=> ?_,λe2 q1 q2 q3=>⟨_,u,rfl,⟨rfl,.list none 0 [] 0 0 0 (λ_=>[]) abu abu abu abu abu⟩,g2 e2 q1 q2 q3⟩,λf o h=> ?_⟩
  .grind [cZ,gC,mi,kw,gL]
  .rcases g3 f o h with h|⟨h,h'⟩
   .exact .inl h
   .exact .inr ⟨aeY _ h,h'⟩
 |hs k n x _ ih=>
  intro jb vs hl m0;obtain ⟨v,u,rfl,h1,h2⟩:=hl;have ⟨cs,m1,g1,g2,g3⟩:=ih jb h2 m0;refine ⟨.hs k n x::cs,m1,λK rest=> ?_,λe2 q1 q2 q3=>⟨v,u,rfl,h1,g2 e2 q1 q2 q3⟩,λf o h=> ?_⟩
  .simp only [cZ,gC,aku,mi,kw,gH,decide_true,akr,show AS n n=true from Nat.beq_refl n,cond_true];grind
  .rcases g3 f o h with h|⟨h,h'⟩
   .exact .inl h
   .exact .inr ⟨aeY _ h,h'⟩
 |p x m l' h0 _ ih=>
  intro jb vs hl m0;obtain ⟨v,u,rfl,h1,h2⟩:=hl;have ⟨cs,m1,g1,g2,g3⟩:=ih jb h2 m0;refine ⟨l'::cs,m1,λK rest=> ?_,λe2 q1 q2 q3=>⟨v,u,rfl,?_,g2 e2 q1 q2 q3⟩,λf o h=> ?_⟩
  .grind [cZ,gC,mi,Nk]
  .have ⟨l2,hs,hk⟩:=nk (e:=e2) (vs:=v) h0;cases hk;exact hs.rep (by rw [q1,q2];exact h1.2)
  .rcases g3 f o h with h|⟨h,h'⟩
   .exact .inl h
   .exact .inr ⟨aeY _ h,h'⟩
 |own f ty iw g o ho oM hfz hg hp ht ih=>
  intro jb vs hl m0;obtain ⟨v,u,rfl,h1,h2⟩:=hl;have ⟨cs,m1,g1,g2,g3⟩:=ih jb h2 (dh m0 f ⟨ty,iw,o.xs⟩);have Am:(f,g+1)∈psF:=jb _ (by
   exact (show∀{ps lm:List (Nat×Nat)} {ks:List LK} {ls:List aF} {ms:List MV},TC st ps ks ls ms lm-> ∀p∈ps,p∈lm from by
    intro ps lm ks ls ms h;induction h with
    |nil=>grind
    |Tn _ ih=>exact ih
    |hs _ _ _ _ ih=>exact ih
    |p _ _ _ _ _ ih=>exact ih
    |own _ _ _ _ _ _ _ _ _ _ _ ih=>grind
    |Ar _ _ _ _ _ ih=>grind) ht _ abu)
  obtain ⟨x,rfl,hx,hE⟩:=h1;refine ⟨.own f::cs,m1,λK rest=> ?_,λe2 q1 q2 q3=>⟨[x],u,rfl,⟨x,rfl,hx,λo2 _=> ?_⟩,g2 e2 q1 q2 q3⟩,λf2 o2 h=> ?_⟩
  .grind [cZ,gC,mi,gL,qp]
  .grind [Tk,DT]
  .rcases g3 f2 o2 h with h|⟨h,h'⟩
   .rw [bt] at h;by_cases kC:f2=f
    .subst kC;simp at h;subst h;exact .inr ⟨abu,(by grind)⟩
    grind
   .exact .inr ⟨aeY _ h,h'⟩
 |Ar f ty iw hp ht ih=>
  intro jb vs hl m0;obtain ⟨v,u,rfl,h1,h2⟩:=hl;have ⟨cs,m1,g1,g2,g3⟩:=ih jb h2 (dh m0 f ⟨ty,iw,[]⟩);have Am:(f,0)∈psF:=jb _ ((show∀{ps lm:List (Nat×Nat)} {ks:List LK} {ls:List aF} {ms:List MV},TC st ps ks ls ms lm-> ∀p∈ps,p∈lm from by
   intro ps lm ks ls ms h;induction h with
   |nil=>grind
   |Tn _ ih=>exact ih
   |hs _ _ _ _ ih=>exact ih
   |p _ _ _ _ _ ih=>exact ih
   |own _ _ _ _ _ _ _ _ _ _ _ ih=>grind
   |Ar _ _ _ _ _ ih=>grind) ht _ abu)
  subst h1;refine ⟨.own f::cs,m1,λK rest=> ?_,λe2 q1 q2 q3=>⟨_,u,rfl,⟨_,rfl,rfl,λo2 _=> ?_⟩,g2 e2 q1 q2 q3⟩,λf2 o2 h=> ?_⟩
  .grind [cZ,gC,mi,gL,qp]
  .grind [Tk,DT]
  .rcases g3 f2 o2 h with h|⟨h,h'⟩
   .rw [bt] at h;by_cases kC:f2=f
    .subst kC;simp at h;subst h;exact .inr ⟨abu,.inr ⟨Am,rfl⟩⟩
    grind
   .exact .inr ⟨aeY _ h,h'⟩
def agX {c:Ctx}{ks:List LK}(h:iR c ks=true): ∀f ty iw,LK.own f ty iw∈ks-> ∃I,c.ti ty=some I/\I.cy=[]:=by
 induction ks with
 |nil=>grind
 |cons k ks ih=>
  cases k with
  |k x=>grind [iR]
  |own f' ty' ayR=>grind [iR,a8]
section
variable {P:Program}{c:Ctx}{Z:bC}{Z':Nat->Prop}{e e':Env}{st cj:St}{a:Act}{w w':World}{R:Type}{K:St->Option R}{r:R}{Q:Exit->Act->World->Prop}{o:Oper}{root:Nat}{cs:List aF}{ks:List LK}{ls:List MV}{ps:List (Nat×Nat)}
def gone (e:Env)(root:Nat)(ps:List (Nat×Nat))(b:Nat):Prop:=b=e.B root\/ ∃x g,(x,g+1)∈ps/\(e.E g).ownBlock=some b
def eY.wide {Z Z2:Nat->Prop} {φ:Ph}{bg:Nat}(h:eY c Z φ w bg ks ls)(hz: ∀b,Z b->Z2 b):eY c Z2 φ w bg ks ls:=by have ⟨cs,m,E,arr,T,h1,h2,h3,h4,h5,h6,h7⟩:=h;refine ⟨cs,m,E,arr,T,h1,h2,hz _ h3,h4,h5,λf o ho=>⟨?_,(h6 f o ho).2⟩,h7⟩;have ⟨I,cells,g1,g2,g3,g4,g5⟩:=(h6 f o ho).1.row;exact ⟨I,cells,g1,g2,g3,g4,λb hb=>⟨hz _ (g5 b hb).1,(g5 b hb).2⟩⟩
def Nl (h:bT c Z e st a w)(hf:au st.fr root= .box cs)(hm:fU cs=false)(oM:iR c ks=true)(ht:TC st [] ks cs ls ps):eY c (gone e root ps) e.φ w (e.B root) ks ls:=by
 have hs:=h.slot root;rw [hf] at hs;have ⟨arr,T,cD,rQ⟩:=hs.2.cells hm;have ⟨IU,_⟩:=ht.ps .nil;have ⟨IP,m1,g1,g2,g3⟩:=alk IU ht h.m (λp hp=>hp) rQ [];have hl:=g2 ⟨c.key,e.φ,Tk e.E ps,λ_=>e.B root,m1⟩ h.key.symm rfl (λ_=>rfl);have hE: ∀{f g:Nat},(f,g+1)∈ps->Tk e.E ps f=e.E g:=(by grind [Tk,DT])
 have hE0: ∀{f:Nat},(f,0)∈ps->Tk e.E ps f= .slice none 0 0:=(by grind [Tk,DT])
 have Cw: ∀f o,aN m1 f=some o->atY st ps ks f o:=(by grind [aN])
 refine ⟨IP,m1,Tk e.E ps,arr,T,?_,cD,.inl rfl,hs.2.free,hl,λf o ho=> ?_,λf f' o o' k ho FL hk hk'=> ?_⟩
 .have:=g1 (λcs rest st=>gN rest (some (cs,st.aT))) [];rw [akD] at this;exact this
 .obtain ⟨hk,Aj|⟨hp,hx⟩⟩:=Cw f o ho
  .have ⟨g,o3,hp,ho3,aDg,hx3,aDh,Fm⟩:=Aj;have ⟨I,cells,q1,q2,q3,q4,q5⟩:=(h.jC g o3 ho3).row;refine ⟨⟨I,cells,by grind,q2,by grind,by grind [h.key],λb hb=>⟨.inr (by grind),λoff u hu=> ?_,λhc=>hc.elim⟩⟩,?_⟩
   .grind
   .rw [hE hp];exact h.bf root cs g o3 hf ho3
  .have ⟨I,hI,YV⟩:=agX oM f o.ty o.iw hk;refine ⟨⟨I,[],hI,YV,⟨by rw [hx];simp,(by grind)⟩,by rw [hx];rfl,λb hb=> ?_⟩,?_⟩;all_goals grind [IT]
 .obtain ⟨_,Aj|⟨hp,_⟩⟩:=Cw f o ho
  .have ⟨g,o3,hp,ho3,_⟩:=Aj;obtain ⟨_,Qm|⟨hp',_⟩⟩:=Cw f' o' FL
   .have ⟨g',o3',hp',ayS,_⟩:=Qm;rw [hE hp] at hk;rw [hE hp'] at hk';have:=h.ff g g' o3 o3' k ho3 ayS hk hk';subst this;exact IU.inj _ _ _ hp hp'
   grind [IT]
  grind [IT]
def TC.aT (ht:TC st [] ks cs ls ps): ∀x g,(x,g+1)∈ps-> ∃o,aN st.aT g=some o/\g∉st.cV:=by
 have key: ∀{ps0 ps:List (Nat×Nat)} {ks:List LK} {cs:List aF} {ls:List MV},TC st ps0 ks cs ls ps-> ∀x g,(x,g+1)∈ps->(x,g+1)∈ps0\/ ∃o,aN st.aT g=some o/\g∉st.cV:=by
  intro ps0 ps ks cs ls h;induction h with
  |nil=>grind
  |Tn _ ih=>exact ih
  |hs _ _ _ _ ih=>exact ih
  |p _ _ _ _ _ ih=>exact ih
  |own f ty iw g0 o ho _ _ hg _ _ ih=>grind
  |Ar f ty iw _ _ ih=>grind
 grind
def mG (gs:List Nat)(m:List (Nat×pC)):List (Nat×pC):=m.filter λp=>!bL gs p.1
def Ww (gs:List Nat)(m:List (Nat×pC))(K:List (Nat×pC)->Option R):VY gs m K=K (mG gs m):=by
 induction m generalizing K with
 |nil=>rfl
 |cons p m ih=>grind [VY,mG,bL]
def Nn (gs:List Nat)(m:List (Nat×pC))(f:Nat):aN (mG gs m) f=if bL gs f then none else aN m f:=by
 induction m with
 |nil=>simp [mG,aN]
 |cons p m ih=>
  have ⟨k,o⟩:=p;simp only [mG,List.filter_cons] at ih⊢;cases hk:bL gs k with
  |true=>simp only [ahB,afw,if_false,ih,aN,iy];grind
  |false=>simp only [alQ,if_true,aN,iy];grind
def y9 (fs:List Nat)(r:Fr):Fr:=fs.foldl (λr f=>mZ f r) r
def Ha (fs:List Nat)(s:Slot):Slot:=fs.foldl (λs f=>GU f s) s
def abA (fs:List Nat)(r:Fr)(K:Fr->Option R):akQ fs r K=K (y9 fs r):=by
 induction fs generalizing r with
 |nil=>rfl
 |cons f fs ih=>simp only [akQ,agi];exact ih _
theorem Np (fs:List Nat)(r:Fr)(t:Nat):au (y9 fs r) t=Ha fs (au r t):=by
 induction fs generalizing r with
 |nil=>rfl
 |cons f fs ih=>show au (y9 fs (mZ f r)) t=Ha fs (GU f (au r t));rw [ih,iX]
theorem Nq (fs:List Nat)(r:Fr):aS (y9 fs r)=aS r:=by
 induction fs generalizing r with
 |nil=>rfl
 |cons f fs ih=>simp_all [aS,y9,mZ]
def ai.aoi {v:Value}{s:Slot}(fs:List Nat)(h:ai e v s):ai e v (Ha fs s):=by
 induction fs generalizing s with
 |nil=>exact h
 |cons f fs ih=>exact ih (h.kill f)
theorem Hb {S:Nat->Prop}(f:Nat){l:aF}(h:ke S l):ke (λg=>S g/\g≠f) (S3 f l):=by intro g hg;refine ⟨?_,I5 f l g hg⟩;cases l<;>simp [S3] at hg;rename_i g';cases hb:AS g' f<;>simp [hb] at hg;subst hg;exact h _ rfl
def agY {S T:Nat->Prop}(f:Nat){s:Slot}(h:iF S T s):iF (λg=>S g/\g≠f) T (GU f s):=by
 cases s with
 |sc l=>exact Hb f h
 |ag cs=>intro l hl;obtain ⟨x,hx,rfl⟩:=afK.1 hl;exact Hb f (h x hx)
 |tg cs=>intro l hl;obtain ⟨x,hx,rfl⟩:=afK.1 hl;exact Hb f (h x hx)
 |ep g i o b cs=>
  simp only [GU];cases hb:AS g f
  .simp_all [cond_false,iF,iy]
  .intro g' hg';cases hg'
 |box cs=>trivial
 |_=>exact h
def abB {S T:Nat->Prop}(fs:List Nat){s:Slot}(h:iF S T s):iF (λg=>S g/\g∉fs) T (Ha fs s):=by
 induction fs generalizing S s with
 |nil=>
  have:(λg=>S g/\g∉([]:List Nat))=S:=by funext g;simp
  rw [this];exact h
 |cons f fs ih=>
  have h2:=ih (agY f h);have:(λg=>(S g/\g≠f)/\g∉fs)=(λg=>S g/\g∉f::fs):=by funext g;simp [and_assoc]
  rw [<-this];exact h2
def agZ (fs:List Nat)(cs:List aF):List aF:=fs.foldl (λcs f=>cs.map (S3 f)) cs
def Wx (fs:List Nat)(cs:List aF):Ha fs (.box cs)= .box (agZ fs cs):=by
 induction fs generalizing cs with
 |nil=>rfl
 |cons f fs ih=>exact ih _
theorem xS (fs:List Nat){s:Slot}{ds:List aF}(h:Ha fs s= .box ds): ∃cs,s= .box cs/\ds=agZ fs cs:=by
 induction fs generalizing s with
 |nil=>exact ⟨ds,h,rfl⟩
 |cons f fs ih=>
  have ⟨cs,h1,h2⟩:=ih (s:=GU f s) h;cases s<;>simp only [GU] at h1<;>first|(cases h1;done)|skip
  .rename_i Lv;simp at h1;exact ⟨Lv,rfl,by rw [h2,<-h1];rfl⟩
  grind
def Wy {fs:List Nat}{o:Obj}{cs:List aF}(h:lz e o cs):lz e o (agZ fs cs):=by
 induction fs generalizing cs with
 |nil=>exact h
 |cons f fs ih=>exact ih (h.map (λ_ _=>bp.kill f) (λ_ _=>rfl))
def abC {S:Nat->Prop}(fs:List Nat){cs:List aF}(h: ∀l∈cs,ke S l): ∀l∈agZ fs cs,ke (λg=>S g/\g∉fs) l:=by
 induction fs generalizing S cs with
 |nil=>
  have:(λg=>S g/\g∉([]:List Nat))=S:=by funext g;simp
  rw [this];exact h
 |cons f fs ih=>
  have h2:=ih (S:=λg=>S g/\g≠f) (cs:=cs.map (S3 f)) (by grind [Hb]);have:(λg=>(S g/\g≠f)/\g∉fs)=(λg=>S g/\g∉f::fs):=by funext g;simp [and_assoc]
  rw [<-this];exact h2
def RN (fs:List Nat)(cs:List aF):qe (agZ fs cs)=qe cs:=by
 induction fs generalizing cs with
 |nil=>rfl
 |cons f fs ih=>exact (ih _).trans (Zh f cs)
def Nr {fs:List Nat}{m:List (Nat×pC)}(h:Rx fs m=false): ∀f∈fs,aN m f=none:=by
 induction fs with
 |nil=>simp
 |cons f fs ih=>grind [Rx,aN]
def Ns {l k:List Nat}(h:meets l k=false): ∀f∈l,f∉k:=by
 induction l with
 |nil=>simp
 |cons x l ih=>
  unfold meets at h;cases hx:bL k x with
  |true=>grind
  |false=>grind [bH]
theorem KM {ps:List (Nat×Nat)}{g:Nat}:g∈eQ ps↔ ∃x,(x,g+1)∈ps:=by
 induction ps with
 |nil=>simp [eQ]
 |cons p ps ih=>
  have ⟨x,y⟩:=p;cases y with
  |zero=>grind [eQ]
  |succ y=>
   simp only [eQ,AI,ih];constructor
   .rintro (rfl|⟨z,hz⟩);all_goals grind
   grind
def nq {ks:List LK}: ∀{R:Type} {r:R} {st:St} {ms:List MV} {K':List aF->List MV->St->Option R},cZ st ks ms K'=some r-> ∃cs rest cj,(∀{R':Type} (K2:List aF->List MV->St->Option R'),cZ st ks ms K2=K2 cs rest cj)/\K' cs rest cj=some r:=by
 induction ks with
 |nil=>intro R r st ms K' h;exact ⟨[],ms,st,λ_=>rfl,h⟩
 |cons k ks ih=>
  intro R r st ms K' h;cases ms with
  |nil=>grind [cZ,gC]
  |cons m ms=>
   simp only [cZ,gC] at h;cases k with
   |k x=>simp only [mi] at h;grind [DU,cZ,gC,mi,Nk]
   |own f ty iw=>
    unfold mi gL at h;cases m<;>simp only at h<;>try (cases h;done)
    simp only [qp] at h;have ⟨cs,rest,cj,h1,h⟩:=ih h;grind [cZ,gC,mi,gL,qp]
def RO (m n:List (Nat×pC))(f:Nat):aN (m++n) f=match aN m f with|some o=>some o|none=>aN n f:=by
 induction m with
 |nil=>rfl
 |cons p m ih=>grind [aN,iy]
def Hc {ks:List LK}: ∀{st:St} {ms:List MV} {cs:List aF} {rest:List MV} {cj:St},(∀{R':Type} (K2:List aF->List MV->St->Option R'),cZ st ks ms K2=K2 cs rest cj)-> ∀f o,aN cj.aT f=some o->aN st.aT f=some o\/f∈bI ks:=by
 induction ks with
 |nil=>intro st ms cs rest cj h f o ho;have:=h (λa b c=>some c);grind [cZ,By]
 |cons k ks ih=>
  intro st ms cs rest cj h f o ho;have h0:=h (λa b c=>some (a,b,c));cases ms with
  |nil=>simp [cZ,gC] at h0
  |cons m ms=>
   cases k with
   |k x=>simp only [cZ,gC,mi] at h0;have ⟨l,h3,h4⟩:=DU h0;have ⟨B4,ag0,mr,h5,h6⟩:=nq h4;simp at h6;have ⟨_,_,rfl⟩:=h6;exact ih h5 f o ho
   |own f' ty iw=>
    simp only [cZ,gC] at h0;unfold mi gL at h0;cases m<;>simp only at h0<;>try (cases h0;done)
    rename_i xs;have ⟨p,q,fr,n⟩:=st;simp only [qp] at h0;have ⟨B4,ag0,mr,h5,h6⟩:=nq h0;simp at h6;have ⟨_,_,rfl⟩:=h6;rcases ih h5 f o ho with h7|h7
    .rw [bt] at h7;by_cases kC:f=f';all_goals simp_all [bI,if_neg]
    grind [bI]
end
def Cy {ks:List LK}: ∀{st:St} {ms:List MV} {cs:List aF} {rest:List MV} {cj:St},(∀{R':Type} (K2:List aF->List MV->St->Option R'),cZ st ks ms K2=K2 cs rest cj)-> ∀l∈cs,ke (λf=>f∈bI ks) l:=by
 induction ks with
 |nil=>intro st ms cs rest cj h l hl;have:=h (λa b c=>some a);grind [cZ,By]
 |cons k ks ih=>
  intro st ms cs rest cj h l hl;have h0:=h (λa b c=>some (a,b,c));cases ms with
  |nil=>simp [cZ,gC] at h0
  |cons m ms=>
   cases k with
   |k x=>
    simp only [cZ,gC,mi] at h0;have ⟨l0,h3,h4⟩:=DU h0;have ⟨B4,ag0,mr,h5,h6⟩:=nq h4;simp at h6;have ⟨rfl,_,_⟩:=h6;rcases AI.1 hl with rfl|hl
    .have ⟨l2,hs,hk⟩:=nk (e:=⟨λn=>n,λ_ _=>none,λ_=>undef,λ_=>0,[]⟩) (vs:=[]) h3;grind [M4,hs.pur]
    .exact ih h5 l hl
   |own f' ty iw=>
    simp only [cZ,gC] at h0;unfold mi gL at h0;cases m<;>simp only at h0<;>try (cases h0;done)
    simp only [qp] at h0;have ⟨B4,ag0,mr,h5,h6⟩:=nq h0;simp at h6;have ⟨rfl,_,_⟩:=h6;rcases AI.1 hl with rfl|hl
    .intro f hf;grind [bI]
    .intro f hf;have:=ih h5 l hl f hf;grind [bI]
section
variable {P:Program}{c:Ctx}{Z:bC}{Z':Nat->Prop}{e e':Env}{st cj:St}{a:Act}{w w':World}{R:Type}{K:St->Option R}{r:R}{Q:Exit->Act->World->Prop}{o:Oper}{root:Nat}{cs:List aF}{ks:List LK}{ls outs:List MV}{ps:List (Nat×Nat)}{φ':Ph}
def KN {fr:Fr}(fs:List Nat){s:Slot}(h:dE fr s):dE fr (Ha fs s):=by
 induction fs generalizing s with
 |nil=>exact h
 |cons f fs ih=>
  refine ih ?_;cases s with
  |ep g i o b cs=>simp only [GU];cases AS g f<;>trivial
  |ptr=>exact h
  |hp=>exact h
  |Cl=>exact h
  |_=>trivial
def Nt (fs:List Nat){s:Slot}(h:cY s=true):cY (Ha fs s)=true:=by
 induction fs generalizing s with
 |nil=>exact h
 |cons f fs ih=>refine ih (s:=GU f s) ?_;grind [Ja]
theorem Hd (h:bT c Z e st a w)(hf:au st.fr root= .box cs)(hr:bL st.cX root=false)(ht:TC st [] ks cs ls ps): ∀b,gone e root ps b->Z.In b:=by
 have hs:=h.slot root;rw [hf] at hs;intro b hb;rcases hb with rfl|⟨x,g,hp,hb⟩
 .exact YS hs.2.cz (by rw [<-h.defers.2.1,<-bH,hr];simp)
 .have ⟨o,ho,hg⟩:=ht.aT x g hp;have ⟨I,cells,_,_,_,_,h5⟩:=(h.jC g o ho).row;exact YS (h5 b hb).1 (by rw [<-h.defers.2.2.1];exact hg)
theorem ag1 {ki:List LK}(h:bT c Z e st a w)(hf:au st.fr root= .box cs)(hm:fU cs=false)(hr:bL st.cX root=false)(ht:TC st [] ki cs ls ps)(hZ: ∀b,Z' b↔w.heap.size<=b\/gone e root ps b)(Cj:Trans Z' e.φ w φ' w')(hi:oN φ' w')(hc:eY c Z' φ' w' (e.B root) ks outs)(hK:Ry st root ks ps outs K=some r): ∃e' cj,bT c Z e' cj a w'/\e'.φ=φ'/\K cj=some r:=by
 unfold Ry at hK;obtain ⟨IP,rest,DQ,g1,hK⟩:=nq hK;cases rest with
 |cons=>grind [gN]
 |nil=>
 simp only [gN,Ww] at hK;cases rT:Rx (bI ks) (mG (eQ ps) st.aT)||meets (bI ks) st.cV with
 |true=>grind
 |false=>
 simp only [rT,cond_false,abA,pe,Ae] at hK;obtain ⟨ag2,Nu⟩:=BY.1 rT;have ag2:=Nr ag2;have Nu:=Ns Nu;obtain ⟨B4,m3,E,arr,T,Jb,cD,hzb,rR,rQ,im,kC⟩:=hc;have Aa:B4=IP/\m3=DQ.aT:=by unfold RJ at Jb;rw [g1] at Jb;simp only [gN,By,afC] at Jb;exact (by grind)
 obtain ⟨rfl,rfl⟩:=Aa;have eS:=Cy g1;have jb: ∀f o,aN DQ.aT f=some o->f∈bI ks:=λf o ho=>(Hc g1 f o ho).resolve_left (by simp [aN]);have hs:=h.slot root;rw [hf] at hs;have Am: ∀b,Z' b->Z.In b:=by
  intro b hb;rcases (hZ b).1 hb with hb|hb
  .exact h.cz b hb
  .grind [Hd]
 have abD: ∀t jM,au st.fr t= .box jM->t≠root-> ¬Z' (e.B t):=by
  intro t jM htb eR hz;rcases (hZ _).1 hz with hz|hz|⟨x,g,hp,hz⟩
  .have:=Ap h htb;omega
  .exact h.bb t root jM cs htb hf eR hz
  .have ⟨o,ho,_⟩:=ht.aT x g hp;exact h.bf t jM g o htb ho hz
 have hold: ∀f o,aN (mG (eQ ps) st.aT) f=some o->aN st.aT f=some o/\f∉eQ ps:=by
  intro f o ho;rw [Nn] at ho;cases hn:bL (eQ ps) f with
  |true=>grind
  |false=>grind [bH]
 have Nv: ∀f o b,aN (mG (eQ ps) st.aT) f=some o->(e.E f).ownBlock=some b-> ¬Z' b:=by
  intro f o b ho hb hz;obtain ⟨FL,hnf⟩:=hold f o ho;rcases (hZ _).1 hz with hz|hz|⟨x,g,hp,hz⟩
  .have:=Aq h FL hb;omega
  .exact h.bf root cs f o hf FL (by rw [hb,hz])
  .have ⟨o2,dO,_⟩:=ht.aT x g hp;have:=h.ff f g o o2 b FL dO hb hz;grind [KM]
 let E2:Nat->Value:=λf=>if bL (bI ks) f=true then E f else e.E f
 have GV: ∀f,f∈bI ks->E2 f=E f:=λf hf=>by show (if _ then _ else _)=_;simp_all [if_pos,bH]
 have Wz: ∀f,f∉bI ks->E2 f=e.E f:=λf hf=>by show (if _ then _ else _)=_;simp_all [if_neg,bH]
 have mq: ∀f o,aN (DQ.aT++mG (eQ ps) st.aT) f=some o->(f∈bI ks/\aN DQ.aT f=some o)\/(f∉bI ks/\aN (mG (eQ ps) st.aT) f=some o):=by
  intro f o ho;rw [RO] at ho;cases hq:aN DQ.aT f with
  |some o2=>grind
  |none=>grind
 let e2:Env:=⟨e.key,φ',E2,e.B,DQ.aT++mG (eQ ps) st.aT⟩
 have vA:ll (λg=>True/\g∉bI ks) (λ_=>True) e e2:=by
  refine ⟨rfl,Cj.ph,λ_ _=>rfl,λf o' FL hS=> ?_⟩;rcases mq f o' FL with ⟨h1,_⟩|⟨h1,h2⟩
  .grind
  .exact ⟨o',by grind [h.m],Wz f h1,rfl⟩
 have ag3:av e2 arr.toList B4:=by
  have ap8:ll (λf=>f∈bI ks) (λ_=>True) ⟨c.key,φ',E,λ_=>e.B root,DQ.aT⟩ ⟨c.key,φ',E2,λ_=>e.B root,DQ.aT++mG (eQ ps) st.aT⟩:=by
   refine ⟨rfl,.refl _,λ_ _=>rfl,λf o' FL hS=> ?_⟩;rcases mq f o' FL with ⟨h1,h2⟩|⟨h1,_⟩
   .grind
   .grind
  have h1:=rQ.on ap8 eS;have ap9:ll (λ_=>True) (λ_=>False) ⟨c.key,φ',E2,λ_=>e.B root,DQ.aT++mG (eQ ps) st.aT⟩ e2:=⟨h.key,.refl _,λ_ h=>h.elim,(by grind)⟩
  exact h1.on ap9 (λ_ _ _ _=>trivial)
 have hm3:fU B4=false:=ag3.Fk;have Nw: ∀t,au (gV (y9 (bI ks) st.fr) root (.box B4)) t=if t=root then .box B4 else Ha (bI ks) (au st.fr t):=(by grind [bO,Np])
 have As: ∀t ds,au (gV (y9 (bI ks) st.fr) root (.box B4)) t= .box ds-> ∃ds0,au st.fr t= .box ds0:=by
  intro t ds hb;rw [Nw] at hb;by_cases Cj:t=root
  .grind
  .grind [xS]
 refine ⟨e2,⟨st.cX,st.cV,gV (y9 (bI ks) st.fr) root (.box B4),DQ.aT++mG (eQ ps) st.aT⟩,⟨h.defers,h.size,rfl,h.key,?_,?_,?_,?_,?_,?_,?_,hi,(by grind [agM,Cj.size])⟩,rfl,hK⟩
 .grind [fA,Nq,h.nodup]
 .intro t;rw [Nw];by_cases yC:t=root
  .subst yC;rw [if_pos rfl];exact ⟨hs.1.qe (by grind [G6]),hs.2.cz,⟨_,cD,rfl,ag3⟩,rR⟩
  .rw [if_neg yC];have fw:=h.slot t;have hnb:=abD t;generalize au st.fr t=s at fw hnb;by_cases YX: ∃ds,s= .box ds
   .obtain ⟨ds,rfl⟩:=YX;rw [Wx];have hz:=hnb ds rfl yC;have ⟨o2,h1,h2⟩:=fw.2.obj;refine ⟨fw.1.qe (RN _ _),fw.2.cz,⟨o2,by rw [Cj.heap _ hz (bx h1)];exact h1,?_⟩,λoff=>by show φ' (e.B t) off=none;rw [Cj.free _ off hz];exact fw.2.free off⟩;exact (Wy h2).on vA (abC _ (λl _ f _=>trivial))
   .have aqa:ai e (a.tmps.getD t undef) s:=by cases s<;>simp only [eD] at fw<;>first|exact fw|grind
    have h2:=(aqa.aoi (bI ks)).on vA (abB _ (dY s));have aqb: ∀ds,Ha (bI ks) s≠ .box ds:=(by grind [xS])
    generalize Ha (bI ks) s=s2 at h2 aqb;cases s2<;>first|exact h2|grind
 .intro t;have hbk: ∀q,cY (au st.fr q)=true->cY (au (gV (y9 (bI ks) st.fr) root (.box B4)) q)=true:=by
   intro q hq;rw [Nw];by_cases hqr:q=root
   .rw [if_pos hqr];rfl
   .rw [if_neg hqr];exact Nt _ hq
  rw [Nw];by_cases yC:t=root
  .rw [if_pos yC];trivial
  .rw [if_neg yC];refine KN _ ?_;have rO:=h.root t;generalize au st.fr t=s at rO;cases s with
   |ptr q o=>exact hbk q rO
   |hp q o i=>exact hbk q rO
   |Cl q=>exact hbk q rO
   |_=>trivial
 .intro f o ho;rcases mq f o ho with ⟨h1,h2⟩|⟨h1,h2⟩
  .have hfm:=(im f o h2).1;have Fm:f∉Z.cV:=by rw [<-h.defers.2.2.1];exact Nu f h1
   refine ch.to ?_ Fm;have ⟨I,cells,q1,q2,q3,q4,q5⟩:=hfm.row;refine ⟨I,cells,q1,q2,?_,?_,λb hb=> ?_⟩
   .grind
   .grind [h.key]
   .have hb:(E2 f).ownBlock=some b:=hb;rw [GV f h1] at hb;exact ⟨Am b (q5 b hb).1,(q5 b hb).2.1,λhc=>hc.elim⟩
  .have ⟨FL,hnf⟩:=hold f o h2;have ⟨I,cells,q1,q2,q3,q4,q5⟩:=(h.jC f o FL).row;refine ⟨I,cells,q1,q2,?_,q4.mono Cj.ph,?_⟩
   .show w'.ownsRow 0 o.ty I.size (E2 f) o.xs.length cells;rw [Wz f h1];refine ⟨q3.1,?_⟩;rcases q3.2 with h6|⟨g,cap,dp,k1,k2,k3,k4⟩
    .exact .inl h6
    .refine .inr ⟨g,cap,dp,k1,k2,?_,k4⟩;rw [Cj.heap g (Nv f o g h2 (by rw [k1];rfl)) (bx k3)];exact k3
   .intro bg hb;have hb:(E2 f).ownBlock=some bg:=hb;rw [Wz f h1] at hb;refine ⟨(q5 bg hb).1,λoff u hu=>(q5 bg hb).2.1 off u ?_,λk1 k2 j hj=>Cj.ph.G0 (by grind) hj⟩;have hu:φ' bg off=some u:=hu;rw [Cj.free _ off (Nv f o bg h2 hb)] at hu;exact hu
 .intro t t' c1 c2 h1 h2 eR;have ⟨d1,k1⟩:=As t c1 h1;have ⟨d2,k2⟩:=As t' c2 h2;exact h.bb t t' d1 d2 k1 k2 eR
 .intro t c1 f o h1 h2;show (E2 f).ownBlock≠some (e.B t);rcases mq f o h2 with ⟨k1,k2⟩|⟨k1,k2⟩
  .rw [GV f k1];by_cases yC:t=root
   .grind
   .have ⟨d1,k3⟩:=As t c1 h1;intro hq;have ⟨I,cells,_,_,_,_,q5⟩:=(im f o k2).1.row;exact abD t d1 k3 yC (q5 _ hq).1
  .rw [Wz f k1];have ⟨d1,k3⟩:=As t c1 h1;exact h.bf t d1 f o k3 (hold f o k2).1
 .intro f f' o o' k h1 h2 h3 h4;have h3:(E2 f).ownBlock=some k:=h3;have h4:(E2 f').ownBlock=some k:=h4;rcases mq f o h1 with ⟨k1,k2⟩|⟨k1,k2⟩<;>rcases mq f' o' h2 with ⟨k3,k4⟩|⟨k3,k4⟩
  .grind
  .rw [GV f k1] at h3;rw [Wz f' k3] at h4;have ⟨I,cells,_,_,_,_,q5⟩:=(im f o k2).1.row;exact absurd (q5 _ h3).1 (Nv f' o' k k4 h4)
  .rw [Wz f k1] at h3;rw [GV f' k3] at h4;have ⟨I,cells,_,_,_,_,q5⟩:=(im f' o' k4).1.row;exact absurd (q5 _ h4).1 (Nv f o k k2 h3)
  .rw [Wz f k1] at h3;rw [Wz f' k3] at h4;exact h.ff f f' o o' k (hold f o k2).1 (hold f' o' k4).1 h3 h4
theorem bj.length {key:Nat->Nat} {φ:Ph}{ms:List MV}: ∀{vs:List Value},bj key φ vs ms->vs.length=ms.length:=by
 induction ms with
 |nil=>intro vs h;cases h;rfl
 |cons m ms ih=>intro vs h;obtain ⟨v,u,rfl,_,h2⟩:=h;simp [ih h2]
theorem WA {cl:Call}{g:List MV->Option MV}{pos:Nat}{ks ko:List LK}{oI:Option TI}{gv:Bool}(hS:Sound P c)(hg1:gv=true-> ∀ms x,g ms=some x-> ∃f:Nat,c.g (c.key f) ms=some x/\c.cS (c.key f)=true/\c.sig (c.key f)=some (pos,ks,ko)/\(execOp a.eval o).run P w=(callFunc f (cl.args.map a.eval)).run P w)(h:bT c Z e st a w)(hK:abp c gv g pos ks ko st (ou c st cl.args.toList) oI (λs st=>bB c st o.dst s K)=some r): gv=true/\o.wp P a w (λa' w'=>Out c Z K r e.φ w a' w') Q:=by
 unfold abp at hK;have ⟨vs,EN⟩: ∃vs,vs=cl.args.toList.map a.eval:=⟨_,rfl⟩
 have hlen:vs.length=(ou c st cl.args.toList).length:=by rw [EN];simp [pE]
 have fG: ∀(i:Nat) (v:Value) (s:Slot),vs[i]? =some v->(ou c st cl.args.toList)[i]? =some s->ai e v s:=by rw [EN];exact bj.map h
 generalize ou c st cl.args.toList=ss at hK hlen fG;split at hK
 .rename_i root off gq;have aDk:pos<ss.length:=(by grind)
  have ⟨v,hv⟩: ∃v,vs[pos]? =some v:=(by simp_all)
  have hvp:v= .pointer (some ⟨e.B root,off,none⟩):=fG pos v _ hv gq;have Ny:vs=vs.take pos++v::vs.drop (pos+1):=by
   conv=>lhs;rw [<-afv pos vs]
   rw [List.drop_eq_getElem_cons aab];have:=afT.1 hv;obtain ⟨_,hv2⟩:=this;rw [hv2]
  have ⟨e1,aZ,m1,h1,x1,Lt,r1,xw⟩:=uR h ⟨λ_=>vs.take pos,rfl,by grind,(by grind)⟩ hK;have ⟨e2,eG,m2,h2,x2,ak6,r2,EP⟩:=uR h1 ⟨λ_=>vs.drop (pos+1),rfl,by grind,λi u s hu hs=>by rw [List.getElem?_drop] at hu hs;exact (fG _ u s hu hs).on x1.on (dY s)⟩ xw;split at EP
  .rename_i cs hf;cases rT:fU cs||bL eG.cX root||!iR c ks||!gv with
   |true=>grind
   |false=>
   simp only [rT,cond_false] at EP;simp at rT;have ⟨⟨⟨hm,hr⟩,oM⟩,hg⟩:=rT;have ⟨ls,ps,ht,QE⟩:=FO EP;simp only [Ae] at QE;have ⟨x,hx,hK4⟩:=mE QE;unfold gW at hK4;split at hK4;rotate_left
   .simp at hK4
   have hB:e2.B root=e.B root:=(x2.on.B root trivial).trans (x1.on.B root trivial);let Z2:Nat->Prop:=λb=>w.heap.size<=b\/gone e2 root ps b;have I7:m1.length=pos:=by rw [<-r1.length,List.length_take];omega
   have aBm:e2.key=c.key:=h2.key;have ⟨f,hx,hg0,At,bU⟩:=hg1 hg _ _ hx;have dx:cR c Z2 e2.φ w (c.key f) vs (m1++ .cell (.func off ls)::m2):=by
    simp only [cR,hg0,if_true];refine .inr (.inr ⟨pos,ks,ko,off,ls,e2.B root,At,by grind,by grind,?_,(Nl h2 hf hm oM ht).wide λb hb=> .inr hb⟩);rw [akE _ _ aab,I7,al3,List.set_cons_zero,Ny];refine bj.append ?_ ⟨v,vs.drop (pos+1),rfl,?_,?_⟩
    .have:=r1.mono x2.on.φ;grind [h1.key]
    .rw [hvp];exact ⟨rfl,.rp (e.B root) off [] [] .nil abu⟩
    .grind
   have BL:=hS f _ _ hx e2.φ w Z2 vs (λb hb=> .inl hb) dx h2.mj;refine ⟨hg,?_⟩;have Ti:vs.toArray=cl.args.map a.eval:=by rw [EN,<-ag7,akK]
   refine y8 ?_ BL ?_
   .grind
   .rintro v' w' ⟨φ',t1,t2,qh,pos',ks',ko',bg,V0,yY,Wd,hc⟩;rw [At] at yY;simp at yY;have ⟨rfl,rfl,rfl⟩:=yY;rw [hv,hvp] at Wd;simp at Wd;have qf:bg=e2.B root:=by rw [<-Wd.1,hB]
    subst qf;have ⟨e3,mr,h3,hφ3,hK5⟩:=ag1 h2 hf hm hr ht (λb=>Iff.rfl) t1 t2 hc hK4;have Cj:Trans Z e.φ w φ' w':=by
     have t0:Trans Z e2.φ w φ' w':=by have Am: ∀b,Z2 b->Z.In b:=λb hb=>hb.elim (h2.cz b) (Hd h2 hf hr ht b);exact ⟨t1.ph,λb hb=>t1.heap b (λhz=>hb (Am b hz)),λb o hb=>t1.free b o (λhz=>hb (Am b hz)),t1.size,t1.rest⟩
     exact (x1.tr.trans x2.tr).trans t0
    cases oI with
    |none=>have ⟨e4,st4,q1,q2,q3⟩:=df (v:=v') (s:= .sc .un) h3 (.of (by simp [ai]) trivial) hK5;exact ⟨e4,st4,q1,by grind,q2⟩
    |some I=>obtain ⟨s,g1,g2,hK6⟩:=Ao (e:=e3) (st:=mr) h3.key (by rw [hφ3];exact qh) hK5;have ⟨e4,st4,q1,q2,q3⟩:=df h3 (.of g1 g2) hK6;exact ⟨e4,st4,q1,by grind,q2⟩
  grind
 .simp at hK
def aln {cl:Call}{f pos:Nat}{ks ko:List LK}{oI:Option TI}(hS:Sound P c)(At:c.sig (c.key f)=some (pos,ks,ko))(ho:o.op= .call cl)(ER:cl.callee= .value (.func f))(h:bT c Z e st a w)(hK:anX c (c.key f) pos ks ko st (ou c st cl.args.toList) oI (λs st=>bB c st o.dst s K)=some r): c.cS (c.key f)=true/\o.wp P a w (λa' w'=>Out c Z K r e.φ w a' w') Q:=WA hS (λhg ms x hx=>⟨f,hx,hg,At,by simp_all [execOp,resolve,Act.eval,akv,invoke]⟩) h hK
theorem Tp: ∀{l m:List LK},lkB l m=true->l=m
 |[],[],_=>rfl
 | .k k1::r,.k k2::q,h=>by simp only [lkB,sh] at h;rw [Tp h.2];have h1:=h.1;cases k1<;>cases k2<;>simp [kdB,kB] at h1<;>first|rfl|(subst h1;rfl)|grind
 | .own f t z::r,.own f' t' z'::q,h=>by simp only [lkB,sh,iy,decide_eq_true_eq,beq_iff_eq] at h;have ⟨rfl,rfl,rfl,h⟩:=h;rw [Tp h]
 |[],_::_,h=>by grind [lkB]
 | .k _::_,[],h=>by grind [lkB]
 | .k _::_,.own _ _ _::_,h=>by grind [lkB]
 | .own _ _ _::_,[],h=>by grind [lkB]
 | .own _ _ _::_,.k _::_,h=>by grind [lkB]
def ag4 {pos:Nat}{ks ko:List LK}{l:List Nat}(h:VZ c pos ks ko l=true): ∀k∈l,c.sig k=some (pos,ks,ko)/\c.cS k=true:=by
 induction l with
 |nil=>simp
 |cons x l ih=>
  simp only [VZ,sh] at h;have ⟨h1,h2,h3⟩:=h;intro k hk;rcases AI.1 hk with rfl|hk
  .cases hs:c.sig k with
   |none=>grind
   |some sg=>grind [bD,Tp]
  grind
def aqd {R:Type}{r:R}{l:List Nat}{k:Nat}{K:Nat->Option R}(h:Qr l k K=some r):k∈l/\K k=some r:=by
 induction l with
 |nil=>grind [Qr]
 |cons p l ih=>
  cases l with
  |nil=>grind [Qr,AS,bD]
  |cons q l=>grind [Qr,AS,aeY,bD]
def alo {cl:Call}{x:Operand}{acY:List Nat}{oI:Option TI}(hS:Sound P c)(ho:o.op= .call cl)(ER:cl.callee= .value x)(h:bT c Z e st a w)(hK:af4 c acY st (aP c st x) (ou c st cl.args.toList) oI (λs st=>bB c st o.dst s K)=some r): o.wp P a w (λa' w'=>Out c Z K r e.φ w a' w') Q:=by
 have ⟨hx,_⟩:=h.eval x;generalize aP c st x=s at hx hK;unfold af4 at hK;split at hK
 .rename_i m k0 at3;cases hs0:c.sig k0 with
  |none=>grind
  |some sg=>
  have ⟨pos,ks,ko⟩:=sg;simp only [hs0] at hK;cases YX:VZ c pos ks ko (k0::at3) with
  |false=>grind
  |true=>
  simp only [YX,cond_true] at hK;unfold YQ at hK;split at hK
  .rename_i f aV;cases aV with
   |cons=>grind [gN]
   |nil=>
   have ⟨f',cap,hv,G9,FM,lB⟩: ∃(f':Nat) (cap:Array Value),a.eval x= .func (.func f') #[] cap/\e.key f'=f/\il e.key e.φ cap.toList []/\ ∀m∈([]:List MV),m.one=true:=by have ⟨_,hx⟩:=hx;generalize EN:[a.eval x]=vs at hx;cases hx;grind
   have aBn:cap= #[]:=by generalize hl:cap.toList=l at FM;cases FM;exact aft.1 hl
   have aoe:c.key f'=f:=by rw [<-h.key];exact G9
   exact (WA hS (λ_ ms y hy=>by have ⟨hm,hy⟩:=aqd hy;have ⟨h1,h2⟩:=ag4 YX f hm;refine ⟨f',by grind,by grind,by grind,?_⟩;grind [execOp,resolve,akv,invoke]) h hK).2
  .simp at hK
 .simp at hK
theorem alp {y t:Nat}(h:isLT c y=true):Y7 c y t=false:=by
 unfold isLT at h;unfold Y7;cases hy:c.tv y with
 |none=>rfl
 |some Y=>
  rw [hy] at h;cases c.tv t with
  |none=>rfl
  |some I=>
   have h:Y.IK=true:=h;have:Y.isS=false:=by unfold TI.IK at h;unfold TI.isS;split at h<;>simp_all
   simp [this]
theorem at4 {y t:TypeId}{x:Operand}(ho:o.op= .convert y t x)(hb:Y7 c y t=true)(hT:iz P c.ti)(h:bT c Z e st a w)(hK:(match aP c st x with| .sc (.p (.s l))=>bB c st o.dst (.sc (.p (.list (MQ l)))) K|_=>none)=some r): o.wp P a w (λa' w'=>dk w w'/\Out c Z K r e.φ w a' w') Q:=by
 unfold Y7 at hb;split at hb;rotate_left
 .cases hb
 rename_i Y I hY hI;split at hb;rotate_left
 .simp at hb
 rename_i E hE;simp at hb;have ⟨⟨uU,hL⟩,hU⟩:=hb;have ⟨hYi,_⟩:=a8 hY;have ⟨ng,hc⟩:=a8 hI;have ⟨mT,pg⟩:=a8 hE;have ⟨hu,E2,GV,_,gq⟩:=TI.mn (hT t I ng) hL;have hd:=TI.I8 (hT y Y hYi) uU;have ⟨he,yS⟩:=Tc (hT _ E mT) hU;have ⟨hx,_⟩:=h.eval x;split at hK;rotate_left
 .cases hK
 rename_i l Zq;rw [Zq] at hx;obtain ⟨b,hb3,rfl⟩:=G7 hx;have hr0:=run_bytes_of_string (P:=P) w y t I.elem b hd hu he;have ⟨C,hC⟩: ∃C,C=grownCap w b.size 0 I.elem:=⟨_,rfl⟩
 rw [<-hC] at hr0;have ⟨W,hW⟩: ∃W,W=w.drew.alloc (.cells (bytesRow b C) I.elem ((bytesRow b C).size,(bytesRow b C).size+1)):=⟨_,rfl⟩
 rw [<-hW] at hr0;have bU:(execOp a.eval o).run P w= .ok (.value (.slice (some ⟨w.heap.size,0,none⟩) b.size C)) W:=by simp [execOp,ho,hb3,hr0]
 have ml:W.heap[w.heap.size]? =some (.cells (bytesRow b C) I.elem ((bytesRow b C).size,(bytesRow b C).size+1)):=by rw [hW];exact ju w.drew _
 have hg:dk w W:=by rw [hW];exact ⟨abu,λk hk=>qn w.drew _ k hk,⟨rfl,rfl,rfl⟩⟩
 have agI: ∀off,e.φ w.heap.size off=none:=by
  intro off;cases hp:e.φ w.heap.size off with
  |none=>rfl
  |some u=>have:=afx w _ (h.mj _ _ _ hp);simp at this
 have ⟨flat,hfl⟩: ∃flat:List Value,flat=b.data.toList.map λx=>alY .u8 (x.toNat:Int):=⟨_,rfl⟩
 have Lx: ∀off,off<flat.length->(bytesRow b C)[off]? =flat[off]? :=by intro off ho;unfold bytesRow;rw [afJ (by grind),hfl,Array.getElem?_map,akp,akF]
 have hle:iZ e.φ (λk off=>if k=w.heap.size/\off<flat.length then flat[off]? else e.φ k off):=by
  intro k off u hu;by_cases VN:k=w.heap.size
  .grind
  .grind
 have iA: ∀k off u,(λk off=>if k=w.heap.size/\off<flat.length then flat[off]? else e.φ k off) k off=some u->W.cell? ⟨k,off,none⟩=some u:=by
  intro k off u hu;by_cases VN:k=w.heap.size/\off<flat.length
  .grind [World.cell?]
  .simp only [VN,if_false] at hu;exact hg.cell (h.mj k off u hu)
 have nm:=(h.grow hg).an8 hle iA (by
   intro t2 IP ht off;have Qm:=h.slot t2;rw [ht] at Qm;have ⟨o2,h1,_⟩:=Qm.2.obj;grind)
  (by
   intro f o2 k dO B3 off;have ⟨J,yA,_,_,h3,_⟩:=(h.jC f o2 dO).row;rcases h3.2 with ⟨h1,_⟩|⟨g,cap,dp,h1,_,h4,_⟩
   .grind [IT]
   .simp [IT] at B3;grind)
 have KG:(MQ b.data.toList).length=b.size:=by unfold MQ;rw [ahF];rfl
 refine Zk (s:= .sc (.p (.list (MQ b.data.toList)))) hg bU nm ?_ (.of ?_ trivial) hK
 .refine ⟨hle,λk hz KG=>hg.vP k KG,λk off hz=> ?_,hg.size,hg.rest⟩;have eR: ¬k=w.heap.size:=by intro hbe;subst hbe;exact hz (h.cz _ (afB _))
  simp [eR]
 .rw [<-KG];refine ⟨rfl,aby (size:=1) (cells:=flat) ?_ ?_ (by grind)⟩;all_goals grind [Td,grownCap_ge]
def Zz {k:IntKind}: ∀{xs:List MV} {K':List Int->Option R},Kz k xs K'=some r-> ∃ns:List Int,xs=ns.map (MV.i k)/\K' ns=some r:=by
 intro xs;induction xs with
 |nil=>intro K' h;exact ⟨[],rfl,h⟩
 |cons m xs ih=>intro K' h;simp only [Kz] at h;unfold gI at h;grind
def aqf {t:TypeId}{x:Operand}{I:TI}(ho:o.op= .sliceToArrayPointer t x)(hI:c.tv t=some I)(hT:iz P c.ti)(h:bT c Z e st a w)(hK:apv st I (aP c st x) (λs st=>bB c st o.dst s K)=some r):o.wp P a w (Out c Z K r e.φ w) Q:=by
 have ⟨ng,hc⟩:=a8 hI;have ⟨hx,_⟩:=h.eval x;unfold apv at hK;split at hK;rotate_left
 .cases hK
 rename_i k m fw hl;have ⟨e1,aZ,y,h1,x1,_,hy,hK⟩:=nj h hx hK;unfold gL at hK;split at hK;rotate_left
 .cases hK
 have ⟨hlen,hK⟩:=dQ hK;have hlen:=of_decide_eq_true hlen;obtain ⟨ns,rfl,hK'⟩:=Zz hK;replace hK:=hK';have ⟨d,i,hu,h2,h3,h4⟩:=hT t I ng;cases d<;>simp only [tt,hl,fw] at h4<;>first|(exfalso;simp_all;done)|skip
 obtain ⟨_,_,_,_,kk,mm,rfl,_,B0,_⟩:=h4;simp at B0;have ⟨rfl,rfl⟩:=B0;have ⟨_,hy⟩:=hy;generalize hv:[a.eval x]=vs at hy;cases hy with
 |list ad cap _ bg off IM f Md VM h3' h4' h5'=>
 simp at hv;simp only [ahF] at hlen Md VM h3' h4' h5' hv;have qq: ∀j (hj:j<ns.length),e1.φ bg (off+j)=some (.int k ns[j]):=by
  intro j hj;have h6:=h5' j hj;simp only [List.getElem_map] at h6;have hf:f j=[.int k ns[j]]:=by generalize f j=u at h6;cases h6;rfl
  have hf0:(f 0).length=IM:=h3' 0 aab;have hfj:=h3' j hj;rw [hf] at hfj;have h7:=h4' j 0 hj (by rw [<-hfj];simp);rw [hf,<-hfj] at h7;simpa using h7
 refine fin (v:= .pointer ad) (s:= .rp [.hs k m (ns.take (m+2))] 0) ?_ h1 x1.tr (.of ?_ trivial) hK
 .have: ¬ns.length<m+2:=aab
  simp [execOp,ho,hv,Instr.arrayAt,run_underlying hu,this]
 .refine ⟨bg,off,bN k (ns.take (m+2)),by grind,⟨_,[],abu,⟨rfl,by simp;omega⟩,rfl⟩,rfl,λj hj=> ?_⟩;have Ta:j<m+2:=by simpa [dj] using ait hj (by grind [dj])
  rw [qq j aab,Ai k _ j (by simp;omega)];grind
end
section
variable {P:Program}{c:Ctx}{Z Z':bC}{e e':Env}{st:St}{a:Act}{w w':World}{R:Type}{K:St->Option R}{r:R}{Q:Exit->Act->World->Prop}{o:Oper}{Zi:bC}{cj:St}
structure Good (P:Program) (c:Ctx):Prop where
 ti:iz P c.ti
 eq:Wh P c.ti
 fn:Sound P c
 fk: ∀t k,c.fk t=some k->P.underlying t=some (.float k)
 mt:Cx P c
def ag5 (c:Ctx)(o:Oper):Option MS:=match EK o with|some t=>Y6 c t|none=>none
def gf (c:Ctx)(o:Oper) (w w':World):Prop:=match ag5 c o with|some s=>KL s w w'|none=>dk w w'
theorem dk.trans' {w w' I6:World}(h:dk w w') (h':dk w' I6):dk w I6:=⟨agM h.size h'.size,λb hb=>(h'.vP b (ait hb h.size)).trans (h.vP b hb),h.rest.trans h'.rest⟩
theorem dk.for {w w':World}(h:dk w w'):gf c o w w':=by
 unfold gf;split
 .exact h.m _
 .exact h
theorem gf.trans {w w' I6:World}(h:gf c o w w') (h':gf c o w' I6):gf c o w I6:=by unfold gf at *;grind [KL.trans,dk.trans']
inductive sa (P:Program) (c:Ctx) (Z:bC) {R:Type} (K:St->Option R) (r:R) (e:Env) (a:Act) (w:World) (o:Oper) (Q:Exit->Act->World->Prop):Prop
 |rd:(mR c o=false/\iW c o=false)->Rd P c Z K r e a w o (λ_=>True)->sa P c Z K r e a w o Q
 |ld:(mR c o=true/\iW c o=false)->oN e.φ w->Rd P c Z K r e a w o (λw'=>(still c o=false->gf c o w w')/\oN e.φ w')->sa P c Z K r e a w o Q
 |gr:(jE o=false\/iW c o=true)->o.wp P a w (λa' w'=>dk w w'/\Out c Z K r e.φ w a' w') Q->sa P c Z K r e a w o Q
 |cl (f:Nat):(jE o=false/\GZ c o=!c.cS (c.key f))->o.wp P a w (λa' w'=>(c.cS (c.key f)=false->dk w w')/\Out c Z K r e.φ w a' w') Q->sa P c Z K r e a w o Q
 |an:(jE o=false/\GZ c o=false)->o.wp P a w (Out c Z K r e.φ w) Q->sa P c Z K r e a w o Q
 |me (t:Nat) (s:MS):akR o=some t->Y6 c t=some s->(jE o=false/\GZ c o=false)->o.wp P a w (λa' w'=>KL s w w'/\Out c Z K r e.φ w a' w') Q->sa P c Z K r e a w o Q
theorem ZA (hG:Good P c)(h:bT c Z e st a w)(hK:opK c o st (λs st=>bB c st o.dst s K)=some r):sa P c Z K r e a w o Q:=by
 have hT:=hG.ti;unfold opK at hK;split at hK
 .rename_i ho;exact .rd (by grind [mR,rY,iW]) (S8 (.inl ho) h hK)
 .rename_i x ho;cases hm:iW c o with
  |true=>exact .gr (.inr hm) (alh ho h hK)
  |false=>refine .rd (by grind [mR,rY]) (S8 (.inr ho) h ?_);unfold Ma at hK;grind [iW]
 .rename_i ho;exact .rd (by grind [mR,rY,iW]) (Wf ho h hK)
 .rename_i ho;exact .rd (by grind [mR,rY,iW]) (akV ho h hK)
 .rename_i t ho;cases hI:c.tv t with
  |none=>grind
  |some I=>simp only [hI] at hK;exact .gr (by grind [jE]) (agt ho hI hT h hK)
 .rename_i t x ho;cases hI:c.tv t with
  |none=>grind
  |some I=>simp only [hI] at hK;exact .gr (by grind [jE]) (apM ho h hK)
 .rename_i t parts ho;cases hI:c.tv t with
  |none=>grind
  |some I=>simp only [hI] at hK;exact .rd (by grind [mR,rY,iW]) (agF ho hI hT h hK)
 .rename_i t n parts ho;cases hI:c.tv t with
  |none=>grind
  |some I=>
   simp only [hI] at hK;have ⟨hL,hK⟩:=ob hK;cases hE:c.tv I.elem with
   |none=>grind
   |some E=>
    simp only [hE] at hK;cases qg:ahs (n *E.size) 16777216 with
    |false=>grind
    |true=>simp only [qg,cond_true] at hK;exact .gr (by grind [jE]) (QC ho hI hL hE hT h qg hK)
 .rename_i t x y ho;cases hI:c.tv t with
  |none=>grind
  |some I=>
   simp only [hI] at hK;have ⟨hL,hK⟩:=ob hK;cases hE:c.tv I.elem with
   |none=>grind
   |some E=>simp only [hE] at hK;exact .gr (by grind [jE]) (Tj ho hI hL hE hT h hK)
 .rename_i t x ho;cases hI:c.tv t with
  |none=>grind
  |some I=>
   simp only [hI] at hK;cases hs:still c o with
   |true=>
    simp only [hs,cond_true] at hK;split at hK
    .rename_i cs off Ql;have ⟨v,h1,h2⟩:=agq ho hI hT h Ql hK;exact .ld (by grind [mR,rY,iW]) h.mj ⟨v,λw' hw=>h1 w' hw.2,h2⟩
    .simp at hK
   |false=>simp only [hs,cond_false] at hK;have ⟨v,h1,h2⟩:=ak1 ho hI hT h hK;refine .ld (by grind [mR,rY,iW]) h.mj ⟨v,λw' hw=>h1 w' ?_,h2⟩;grind [gf,ag5,EK]
 .rename_i t x y ho;cases hI:c.tv t with
  |none=>grind
  |some I=>simp only [hI] at hK;exact .an (by simp [jE,GZ, *]) (agC ho hI hT h hK)
 .rename_i op t x y t' ho;exact .rd (by grind [mR,rY,iW]) (agp ho h hG.eq hK)
 .rename_i ho;exact .rd (by grind [mR,rY,iW]) (akX ho h hK)
 .rename_i s t x ho;cases hL:isLT c s with
  |true=>
   simp only [hL,cond_true] at hK;cases hY:c.tv s with
   |none=>grind
   |some Y=>
    cases hI:c.tv t with
    |none=>grind
    |some I=>simp only [hY,hI] at hK;have ⟨v,h1,h2⟩:=agU ho hY hI (by grind [isLT]) hT h hK;refine .ld (by grind [mR,rY,iW,alp]) h.mj ⟨v,λw' hw=>h1 w' ?_,h2⟩;grind [still,gf,ag5,EK]
  |false=>
   simp only [hL,cond_false] at hK;cases hSB:Y7 c s t with
   |true=>simp only [hSB,cond_true] at hK;exact .gr (by grind [iW]) (at4 ho hSB hT h hK)
   |false=>
   simp only [hSB,cond_false] at hK;cases hS:c.ti s with
   |none=>grind
   |some S=>
    simp only [hS] at hK;cases hI:c.tv t with
    |none=>grind
    |some I=>simp only [hI] at hK;have ⟨d,i,h1,_⟩:=hT s S hS;exact .rd (by grind [mR,rY,iW]) (Zl ho (a8 hI).1 hT ⟨d,h1⟩ (hG.fk t) h hK)
 .rename_i t x ho;cases hI:c.tv t with
  |none=>grind
  |some I=>simp only [hI] at hK;exact .an (by simp [jE,GZ, *]) (agT ho hI hT h hK)
 .rename_i x ho;exact .an (by simp [jE,GZ, *]) (ali ho h hK)
 .rename_i f first aV ho
  split at hK
  .rename_i hf;have hf:first= #[]:=by apply aft.1;simpa using hf
   subst hf;exact .rd (by grind [mR,rY,iW]) (Wq ho h hK)
  .simp at hK
 .rename_i t x lo hi ho;cases hI:c.tv t with
  |none=>grind
  |some I=>simp only [hI] at hK;exact .rd (by grind [mR,rY,iW]) (agz ho hI hT h hK)
 .rename_i t x y z ho;cases hI:c.tv t with
  |none=>grind
  |some I=>simp only [hI] at hK;exact .rd (by grind [mR,rY,iW]) (ak9 ho hI hT h hK)
 .rename_i t x f ho;cases hI:c.tv t with
  |none=>grind
  |some I=>simp only [hI] at hK;exact .rd (by grind [mR,rY,iW]) (ac5 ho hI hT h hK)
 .rename_i t x f ho;cases hI:c.tv t with
  |none=>grind
  |some I=>simp only [hI] at hK;exact .rd (by grind [mR,rY,iW]) (apO ho hI hT h hK)
 .rename_i t x y ho;cases hI:c.tv t with
  |none=>grind
  |some I=>
   simp only [hI] at hK;cases hE:c.tv I.elem with
   |none=>grind
   |some E=>simp only [hE] at hK;exact .rd (by grind [mR,rY,iW]) (apQ ho hI hE hT h hK)
 .rename_i t x y ho;cases hI:c.tv t with
  |none=>grind
  |some I=>exact .rd (by grind [mR,rY,iW]) (by grind [att,a8])
 .rename_i ho;exact .rd (by grind [mR,rY,iW]) (apL ho h hK)
 .rename_i t x ho;cases hI:c.tv t with
  |none=>grind
  |some I=>simp only [hI] at hK;exact .an (by simp [jE,GZ, *]) (aqf ho hI hT h hK)
 .rename_i cl ho;split at hK
  .rename_i f ER;cases hsg:c.sig (c.key f) with
   |some sg=>simp only [hsg] at hK;obtain ⟨hg,hw⟩:=aln hG.fn hsg ho ER h hK;exact .an (by grind [jE,GZ]) hw
   |none=>
   simp only [hsg] at hK;cases hI:c.ti o.type with
   |none=>grind
   |some I=>simp only [hI] at hK;exact .cl f (by simp [jE,GZ, *]) (alf hG.fn ho ER h hK)
  .rename_i x _ ER;cases hdy:c.dyn with
   |cons k0 acY=>simp only [hdy] at hK;exact .an (by grind [jE,GZ]) (alo hG.fn ho ER h hK)
   |nil=>
   simp only [hdy] at hK;cases hI:c.ti o.type with
   |none=>grind
   |some I=>simp only [hI] at hK;exact .gr (by grind [jE]) (ap1 hG.fn ho ER h hK)
  .split at hK
   .rename_i t Qz;cases hI:c.tv t with
    |none=>grind
    |some I=>exact .rd (by grind [mR,rY,iW]) (by grind [apP])
   .simp at hK
  .split at hK
   .rename_i s x t t' Ql Qz;cases hI:c.tv t with
    |none=>grind
    |some I=>
     simp only [hI] at hK;cases hE:c.tv I.elem with
     |none=>grind
     |some E=>
      obtain ⟨so,xo,dx,rfl,rfl⟩: ∃so xo,cl.args.toList=[so,xo]/\aP c st so=s/\aP c st xo=x:=by
       rw [pE] at Ql;match hl:cl.args.toList,Ql with
       |[so,xo],Ql=>grind
       |[],Ql=>simp at Ql
       |[_],Ql=>simp at Ql
       |_::_::_::_,Ql=>simp at Ql
      exact .an (by grind [jE,GZ]) (by grind [adj])
   .simp at hK
  .cases hm:afW true (ou c st cl.args.toList) with
   |none=>grind
   |some m=>exact .rd (by grind [mR,rY,iW]) (by grind [ade])
  .simp at hK
 .simp at hK
theorem sa.wp (h:sa P c Z K r e a w o Q):o.wp P a w (Out c Z K r e.φ w) Q:=by
 cases h with
 |rd _ h=>exact h.wp trivial
 |ld _ hi h=>exact h.wp ⟨λ_=>(dk.refl w).for,hi⟩
 |me _ _ _ _ _ h=>grind [afF]
 |gr _ h=>grind [afF]
 |cl f _ h=>grind [afF]
 |an _ h=>exact h
def sa.ay0 (h:sa P c Z K r e a w o Q)(hr:jE o=true)(hv:iW c o=false):Rd P c Z K r e a w o (λw'=>mR c o=true->(still c o=false->gf c o w w')/\oN e.φ w'):=by
 cases h with
 |rd hl h=>grind
 |ld hl _ h=>grind
 |gr hn h=>grind
 |me _ _ _ _ hn h=>grind
 |cl f hn h=>grind
 |an hn h=>grind
def sa.ay1 (h:sa P c Z K r e a w o Q)(hr:jE o=true\/GZ c o=true):o.wp P a w (λa' w'=>dk w w'/\Out c Z K r e.φ w a' w') Q:=by
 have rd: ∀G:World->Prop,G w->Rd P c Z K r e a w o G->o.wp P a w (λa' w'=>dk w w'/\Out c Z K r e.φ w a' w') Q:=by rintro G hG ⟨v,h1,h2⟩;unfold akA;rw [h1 w hG,ahE];exact ⟨.refl w,h2⟩
 cases h with
 |rd hl h=>grind
 |ld _ hi h=>exact rd _ ⟨λ_=>(dk.refl w).for,hi⟩ h
 |me _ _ _ _ hn h=>grind
 |gr hn h=>exact h
 |cl f hn h=>grind
 |an hn h=>grind
def at5 (hG:Good P c)(h:bT c Z e st a w)(hK:opK c o st (λs st=>bB c st o.dst s K)=some r){oi:Oper}(hr:xL oi o=true):o.wp P a w (λa' w'=>gf c oi w w'/\Out c Z K r e.φ w a' w') Q:=by
 unfold xL at hr;split at hr
 .rename_i t t' h1 h2;have ht:=bD hr;have hme: ∃m k,o.op= .mapEntry t m k:=by
   unfold akR at h2;split at h2
   .grind
   .cases h2
  have ⟨m,k,ho⟩:=hme;unfold opK at hK;simp only [ho] at hK;cases hK
 .cases hr
def bT.frame {z8:Fr}(h:bT c Z e st a w)(hf: ∀t,au z8 t=au st.fr t)(hn:(aS z8).Nodup):bT c Z e {st with fr:=z8} a w:=by
 have hr: ∀s,dE st.fr s->dE z8 s:=by intro s hs;cases s<;>simp only [dE,hf] at hs⊢ <;>exact hs
 exact ⟨h.defers,h.size,h.m,h.key,hn,λt=>by rw [hf];exact h.slot t,λt=>by rw [hf];exact hr _ (h.root t),h.jC,λt t' cs jM h1 h2=>h.bb t t' cs jM (by grind) (by grind),λt cs f o h1=>h.bf t cs f o (by grind),h.ff,h.mj,h.cz⟩
def bT.reset {t:Nat}{s:Slot}(h:bT c Z e st a w)(hs:au st.fr t=s):bT c Z e {st with fr:=gV st.fr t s} a w:=by refine h.frame (λt'=> ?_) (fA h.nodup);grind [bO]
def WB {ops:Array Oper} {K':Bool->St->Option R}(h:bT c Z e st a w)(hK:Y9 ops.toList o st K'=some r): ∃cj go,bT c Z e cj a w/\K' go cj=some r/\No o (yielded ops a.tmps)=go:=by
 unfold Y9 at hK;unfold No;cases hg:o.guard with
 |none=>grind
 |some jw=>
  have ⟨j,want⟩:=jw;simp only [hg] at hK;cases hp:ops.toList[j]? with
  |none=>grind
  |some p=>
   simp only [hp] at hK;have hp':ops[j]? =some p:=by simpa using hp
   cases hd:p.dst with
   |none=>grind
   |some t=>
    simp only [hd] at hK;have rK:=h.slot t;split at hK
    .rename_i v hv;rw [hv] at rK;have aqg:a.tmps.getD t undef= .bool v:=We rK;have hy:yielded ops a.tmps j=some v:=by
      unfold yielded;have:a.tmps[t]? =some (.bool v):=by
       rw [ac4] at aqg;cases ht:a.tmps[t]? with
       |none=>grind [undef]
       |some u=>grind
      simp [hp',hd,this]
     cases v<;>simp only [pe] at hK
     .exact ⟨_,_,h.reset hv,hK,by grind⟩
     .exact ⟨_,_,h.reset hv,hK,by simp_all⟩
    .rename_i hv;rw [hv] at rK;simp only [eD,ai] at rK;have hy:yielded ops a.tmps j=none:=by
      unfold yielded;rw [ac4] at rK;cases ht:a.tmps[t]? with
      |none=>grind
      |some u=>grind [undef]
     grind
    .simp at hK
def abF {ops:Array Oper}{i:Nat}(hG:Good P c)(hi:ops[i]? =some o)(h:bT c Z e st a w)(hK:af5 c ops.toList o st K=some r): wpOp P ops Q i (Out c Z K r e.φ w) a w:=by
 have ⟨cj,go,h',hK,hw⟩:=WB h hK;unfold wpOp;simp only [hi];rw [hw];cases go with
 |true=>exact .inl (ZA hG h' hK).wp
 |false=>have ⟨e2,eG,h1,h2,h3⟩:=df (v:=undef) (s:= .skip) h' ⟨rfl,trivial⟩ hK;exact ⟨e2,eG,h1,by rw [h3];exact .refl _ _ _,h2⟩
def aqh {ops:Array Oper}{is:List Nat}(hG:Good P c): ∀{os:List Oper} {e:Env} {st:St} {a:Act} {w:World},is.map (ops[·]?)=os.map some->bT c Z e st a w->GY c ops.toList os st K=some r-> ∀{φ0:Ph} {w0:World},Trans Z φ0 w0 e.φ w->(∀a' w',Out c Z K r φ0 w0 a' w'->Q .normal a' w')->wpOps P ops Q is a w:=by
 induction is with
 |nil=>
  intro os e st a w hm h hK φ0 w0 ht hQ;cases os with
  |nil=>exact hQ a w ⟨e,st,h,ht,hK⟩
  |cons=>simp at hm
 |cons i is ih=>
  intro os e st a w hm h hK φ0 w0 ht hQ;cases os with
  |nil=>simp at hm
  |cons o os=>simp at hm;refine wpOp_mono ?_ (abF hG hm.1 h hK);rintro a' w' ⟨e2,eG,h1,h2,h3⟩;exact ih hm.2 h1 h3 (ht.trans h2) hQ
def ado {fs:List Nat}: ∀{e:Env} {st:St},bT c Z e st a w->(∀f∈fs,∀o,aN st.aT f=some o->f∉Z.cV\/o.iw=true)-> ∃φ' m',iZ e.φ φ'/\(∀b off,¬Z.In b->φ' b off=e.φ b off)/\bT c Z {e with φ:=φ',m:=m'} {st with aT:=m'} a w/\ (∀f,aN m' f=(aN st.aT f).map λo=>if f∈fs then ⟨o.ty,true,o.xs⟩ else o)/\ (∀f∈fs,∀o I cells,aN st.aT f=some o->c.ti o.ty=some I->w.ownsRow 0 o.ty I.size (e.E f) o.xs.length cells-> ∀bg,(e.E f).ownBlock=some bg-> ∀j,j<cells.length->φ' bg j=cells[j]?):=by
 induction fs with
 |nil=>
  intro e st h _;refine ⟨e.φ,st.aT,.refl _,λ_ _ _=>rfl,?_,(by simp_all),λf hf=>by simp at hf⟩;have hm:e.m=st.aT:=h.m;have he:({e with φ:=e.φ,m:=st.aT}:Env)=e:=by cases e;simp at hm⊢;exact hm.symm
  simp_all
 |cons g gs ih=>
  intro e st h hp;cases hg:aN st.aT g with
  |none=>grind
  |some og=>
   obtain ⟨φ1,k1,k2,k3,_,k5⟩:=freeze h hg (hp g abu og hg);obtain ⟨φ',m',h1,h2,h3,h4,h5⟩:=ih k3 (by intro f hf o ho;have ho:aN (dh st.aT g ⟨og.ty,true,og.xs⟩) f=some o:=ho;rw [bt] at ho;grind);refine ⟨φ',m',k1.trans h1,(by grind),h3,λf=> ?_,λf hf o I cells ho hI eS bg hb j hj=> ?_⟩
   .rw [h4];show Option.map _ (aN (dh st.aT g ⟨og.ty,true,og.xs⟩) f)=_;grind [bt]
   .by_cases hfg:f=g
    .subst hfg;rw [hg] at ho;cases ho;exact h1.G0 (by grind) hj
    .rcases AI.1 hf with rfl|hf
     .grind
     .refine h5 f hf o I cells ?_ hI eS bg hb j hj;show aN (dh st.aT g ⟨og.ty,true,og.xs⟩) f=_;simp_all [bt,if_neg]
end
def xT {l k:List Nat}(h:meets l k=false): ∀x∈l,x∉k:=by
 induction l with
 |nil=>simp
 |cons y l ih=>
  simp only [meets] at h;cases hm:bL k y with
  |true=>grind
  |false=>grind [bH]
theorem Nz {ks:List Nat}{r:Fr}: ∀t∈aS (qo ks r),t∈ks:=by
 induction r with
 |nil=>simp [aS,qo]
 |cons p r ih=>
  have ⟨k,x⟩:=p;simp only [qo];cases hb:bL ks k&&!dP x with
  |false=>grind
  |true=>
   intro t ht;simp only [cond_true,aS,aks,AI] at ht;rcases ht with rfl|ht
   .grind [bH]
   .exact ih t ht
def RP {qs:List Nat}{r:Fr}:aS (Zf qs r)=aS r:=by simp [aS,Zf]
def KO {ks fs qs:List Nat}{m:List (Nat×pC)}{f:Nat}: aN (vO ks fs qs m) f=if f∈ks then (aN m f).map λo=>if f∈fs/\f∉qs then ⟨o.ty,true,o.xs⟩ else o else none:=by
 induction m with
 |nil=>simp [vO,aN]
 |cons p m ih=>
  have ⟨k,o⟩:=p;simp only [vO];by_cases hk:k=f
  .cases hm:bL ks k with
   |false=>
    have:k∉ks:=by rw [<-bH,hm];simp
    grind
   |true=>
    cases hc:bL fs k&&!bL qs k with
    |true=>grind [bH,aN,iy]
    |false=>grind [bH,bL,absurd,aN,iy]
  .cases hm:bL ks k with
   |false=>simp_all [cond_false,aN,iy,decide_false]
   |true=>simp only [cond_true,aN,iy,hk,decide_false,cond_false];grind
def xU (m n:List (Nat×pC))(f:Nat):aN (m++n) f=(match aN m f with|some o=>some o|none=>aN n f):=by
 induction m with
 |nil=>simp [aN]
 |cons p m ih=>grind [aN,iy]
def ux:Slot->List aF
 | .sc l=>[l]
 | .ag cs=>cs
 | .tg cs=>cs
 | .box cs=>cs
 |_=>[]
section
variable {P:Program}{c:Ctx}{Z Zb Zi:bC}{e e':Env}{st cj B:St}{a a':Act}{w w':World}{R:Type}{K:St->Option R}{r:R}{Q:Exit->Act->World->Prop}{o:Oper}{hn:fV}{e3:Env}{mr:St}
structure za (c:Ctx) (Zb Zi:bC) (e:Env) (B:St) (hn:fV) (a:Act) (w:World):Prop where
 vU:bT c Zb e B a w
 sub: ∀b,Zi.In b->Zb.In b
 new: ∀b,w.heap.size<=b->Zi.In b
 cX: ∀t∈Zb.cX,t∈Zi.cX
 T: ∀t∈Zi.cX,a.tmps.getD t undef=Zi.T t
 keys: ∀t∈aS B.fr,t∈Zi.cX
 box: ∀t cs,au B.fr t= .box cs-> ¬Zi.In (e.B t)
 jC: ∀f o b,aN B.aT f=some o->(e.E f).ownBlock=some b-> ¬Zi.In b
 aqi: ∀t∈eo hn.all,t∉Zb.cX/\t∉Zi.cX
 alq: ∀f∈cn hn.all,f∉Zb.cV/\aN B.aT f=none
 ptr: ∀t,dP (au B.fr t)=false
 men: ∀t f,aF.own f∈ux (au B.fr t)->f∉cn hn.all
def za.later {φ':Ph}(h:za c Zb Zi e B hn a w)(ht:Trans Zi.In e.φ w φ' w')(hi:oN φ' w')(hd:a'.defers=[])(hs:a'.tmps.size=c.n)(hT: ∀t∈Zi.cX,a'.tmps.getD t undef=Zi.T t): za c Zb Zi {e with φ:=φ'} B hn a' w':=by
 have h1:=h.vU.called (Z':=Zi.In) h.sub h.box h.jC ht hi;refine ⟨?_,h.sub,λb hb=>h.new b (agM ht.size hb),h.cX,hT,h.keys,h.box,h.jC,h.aqi,h.alq,h.ptr,h.men⟩;have ov: ∀t∈Zi.cX,a'.tmps.getD t undef=a.tmps.getD t undef:=λt ht=>(hT t ht).trans (h.T t ht).symm;refine ⟨⟨hd,h1.defers.2.1,h1.defers.2.2.1,λt ht=>(ov t (h.cX t ht)).trans (h1.defers.2.2.2 t ht)⟩,hs,h1.m,h1.key,h1.nodup,?_,h1.root,h1.jC,h1.bb,h1.bf,h1.ff,h1.mj,h1.cz⟩;intro t;by_cases hk:t∈aS B.fr
 .rw [ov t (h.keys t hk)];exact h1.slot t
 grind [r8,eD,ai]
theorem adp {K2:St->St->Option R}(h:bT c Z e st a w)(hK:Za c hn st K2=some r): ∃Zi e1 e2 aZ eG,bT c Zi e1 aZ a w/\Trans Z.In e.φ w e1.φ w/\e2.φ=e1.φ/\e2.key=e1.key/\za c Z Zi e2 (FF st eG) hn a w/\za c Zi Zi e2 eG hn a w/\(∀b,Zi.In b->Z.In b)/\fD c hn.all=true/\K2 aZ eG=some r:=by
 obtain ⟨p,q,fr,m⟩:=st;unfold Za at hK;simp only [Ae,akS,apC,agk] at hK;obtain ⟨hmt,hK⟩:=oz hK;simp only [BY,ajW] at hmt;obtain ⟨⟨⟨⟨m0,m1⟩,m2⟩,m3⟩,m4⟩:=hmt;have m1:=xT m1;have m2:=xT m2;have m3:=xT m3;have m4:=xT m4;have hpq:p=Z.cX/\q=Z.cV:=⟨h.defers.2.1,h.defers.2.2.1⟩
 let mp:=vO hn.cV hn.iw q m;let mo:=vO (cn hn.all) hn.iw q m;let rp:=Zf hn.cV (qo hn.cX fr);let ro:=qo (eo hn.all) fr;let fs:=hn.cV.filter λf=>match aN mp f with|some o=>o.iw|none=>false
 have Ly: ∀f o,aN mp f=some o->f∈hn.cV/\ ∃o0,aN m f=some o0/\o0.ty=o.ty/\o0.xs=o.xs/\(o0.iw=true->o.iw=true)/\(f∈q->o=o0):=by
  intro f o ho;have ho:aN (vO hn.cV hn.iw q m) f=some o:=ho;rw [KO] at ho;split at ho
  .cases h0:aN m f with
   |none=>grind
   |some o0=>grind
  .cases ho
 have hmo: ∀f o,aN mo f=some o->f∈cn hn.all/\ ∃o0,aN m f=some o0/\o0.ty=o.ty/\o0.xs=o.xs/\(o0.iw=true->o.iw=true):=by
  intro f o ho;have ho:aN (vO (cn hn.all) hn.iw q m) f=some o:=ho;rw [KO] at ho;split at ho
  .cases h0:aN m f with
   |none=>grind
   |some o0=>grind
  .cases ho
 obtain ⟨φ',m',f1,f2,f3,f4,f5⟩:=ado (fs:=fs) h (by grind);let Zi:bC:=⟨λb=>Z.In b/\(∀t cs,au rp t= .box cs->e.B t≠b)/\(∀f o,aN mp f=some o->(e.E f).ownBlock≠some b),hn.cX++p,hn.cV++q,λt=>a.tmps.getD t undef,False,λ_=>True⟩
 have yS: ∀b,w.heap.size<=b->Zi.In b:=by
  intro b hb;refine ⟨f3.cz b hb,λt cs ht=> ?_,λf o ho KG=> ?_⟩
  .have hrp:au rp t=Qy hn.cV (au (qo hn.cX fr) t):=RC _ _ _;rw [hrp,FK _ _ h.nodup] at ht;split at ht
   .have: ∃Lv,au fr t= .box Lv:=by generalize au fr t=s at ht;cases s<;>simp only [Qy] at ht<;>first|grind|grind
    have ⟨Lv,h0⟩:=this;have:=Ap (st:=⟨p,q,fr,m⟩) h h0;omega
   grind [Qy,YR]
  .have ⟨_,o0,g1,_⟩:=Ly f o ho;have:=Aq (st:=⟨p,q,fr,m⟩) h g1 KG;omega
 have alr: ∀t,au rp t=if bL hn.cX t&&!dP (au fr t) then Qy hn.cV (au fr t) else .sc .un:=by intro t;have hrp:au rp t=Qy hn.cV (au (qo hn.cX fr) t):=RC _ _ _;rw [hrp,FK _ _ h.nodup];split<;>rfl
 have at7: ∀t,au ro t=if bL (eo hn.all) t&&!dP (au fr t) then au fr t else .sc .un:=λt=>FK _ _ h.nodup t
 have ay3: ∀t∈aS rp,t∈hn.cX:=by intro t ht;have ht:t∈aS (Zf hn.cV (qo hn.cX fr)):=ht;rw [RP] at ht;exact Nz t ht
 have ZB: ∀t cs,au rp t= .box cs->t∈hn.cX/\ ∃Lv,au fr t= .box Lv:=by
  intro t cs ht;rw [alr] at ht;split at ht
  .rename_i hc;simp at hc;refine ⟨(bH _ _).1 hc.1,?_⟩;generalize au fr t=s at ht;cases s<;>simp only [Qy] at ht<;>first|grind|grind
  .cases ht
 have aDo: ∀f o,aN mp f=some o->o.iw=true->f∈fs:=by intro f o ho hz;simp only [fs,alC];exact (by grind)
 have hm': ∀f o0,aN m f=some o0->aN m' f=some (if f∈fs then ⟨o0.ty,true,o0.xs⟩ else o0):=by intro f o0 h0;rw [f4];show Option.map _ (aN m f)=_;rw [h0];rfl
 have aoj: ∀f o,aN (mp++mo) f=some o-> ∃o1,aN m' f=some o1/\o1.ty=o.ty/\o1.xs=o.xs/\(o1.iw=true->o.iw=true):=by
  intro f o ho;rw [xU] at ho;cases hmf:aN mp f with
  |some o1=>simp only [hmf,By] at ho;have ⟨_,o0,g1,g2,g3,g4,_⟩:=Ly f o1 hmf;grind
  |none=>grind
 have aua: ∀f o,aN mp f=some o-> ∃o1,aN m' f=some o1/\o1.ty=o.ty/\o1.xs=o.xs/\(o1.iw=true->o.iw=true):=by intro f o ho;exact aoj f o (by rw [xU,ho])
 have atQ: ∀f o I cells b,aN mp f=some o->o.iw=true->c.ti o.ty=some I->w.ownsRow 0 o.ty I.size (e.E f) o.xs.length cells->(e.E f).ownBlock=some b-> ∀j,j<cells.length->φ' b j=cells[j]? :=by intro f o I cells b ho hz hI eS hb j hj;obtain ⟨_,o0,g1,g2,g3,_⟩:=Ly f o ho;exact (by grind)
 have aub:(hn.cX++p)=Zi.cX/\(hn.cV++q)=Zi.cV/\ ∀t∈Zi.cX,a.tmps.getD t undef=Zi.T t:=(by grind)
 have hkd:(aS rp).Nodup:=by have:aS rp=aS (qo hn.cX fr):=RP;rw [this];exact (Af _ _).nodup h.nodup
 have aql: ∀t,au rp t= .sc .un\/(dP (au fr t)=false/\(au rp t=au fr t\/ ∃qs,au rp t=Qy qs (au fr t))):=by
  intro t;rw [alr];cases hc:bL hn.cX t&&!dP (au fr t) with
  |false=>grind
  |true=>grind
 have aol: ∀(Zb:bC) (pb qb:List Nat),pb=Zb.cX->qb=Zb.cV->(∀t∈Zb.cX,a.tmps.getD t undef=Zb.T t)->(∀t∈Z.cX,t∈Zb.cX)->(∀t cs,au rp t= .box cs->(t∈Zb.cX/\Zb.Pr (e.B t))\/Zb.In (e.B t))-> (∀f o b,aN mp f=some o->(e.E f).ownBlock=some b->(f∈Zb.cV/\Zb.Pr b)\/Zb.In b)->(∀b,w.heap.size<=b->Zb.In b)->bT c Zb {e with φ:=φ',m:=mp} ⟨pb,qb,rp,mp⟩ a w:=by intro Zb pb qb h1 h2 h3 hpp h4 h5 h6;exact f3.sub (cj:=⟨pb,qb,rp,mp⟩) hpp ⟨h1,h2,h3⟩ hkd aql aua h4 h5 (by grind) h6
 have aqm: ∀t f,aF.own f∈ux (au rp t)->f∉cn hn.all:=by
  intro t f hf;have:f∈hn.cV:=by
   rw [alr] at hf;split at hf
   .generalize au fr t=s at hf;cases s<;>simp only [Qy,ux,AI,afK,List.not_mem_nil,or_false] at hf
    .exact S4 hn.cV _ f hf.symm
    .have ⟨l,_,hl⟩:=hf;exact S4 hn.cV l f hl
    .have ⟨l,_,hl⟩:=hf;exact S4 hn.cV l f hl
    .have ⟨l,_,hl⟩:=hf;exact S4 hn.cV l f hl
   .grind [ux]
  exact λho=>m4 f ho this
 have agD: ∀t,dP (au rp t)=false:=by
  intro t;rw [alr];split
  .rename_i hc;generalize au fr t=s at hc;cases s<;>simp [dP] at hc<;>rfl
  .rfl
 have aom: ∀b,Zi.In b->Z.In b:=λb hb=>hb.1;refine ⟨Zi,{e with φ:=φ',m:=mp++mo},{e with φ:=φ',m:=mp},⟨hn.cX++p,hn.cV++q,rp++ro,mp++mo⟩,⟨hn.cX++p,hn.cV++q,rp,mp⟩,?_,⟨f1,λ_ _ _=>rfl,f2,afB _,.refl _⟩,rfl,rfl,?_,?_,aom,m0,hK⟩
 .have hkk: ∀t,au (rp++ro) t=au rp t\/(t∈eo hn.all/\au rp t= .sc .un/\au (rp++ro) t=au ro t):=by
   intro t;rw [Cr];by_cases hk:t∈aS rp
   .simp [hk]
   .have h0:=r8 rp t hk;by_cases Lw:t∈eo hn.all
    .grind
    .rw [h0,at7];have:bL (eo hn.all) t=false:=by cases hq:bL (eo hn.all) t with|false=>rfl|true=>grind [absurd,bH]
     simp [this]
  refine f3.sub (cj:=⟨hn.cX++p,hn.cV++q,rp++ro,mp++mo⟩) (by grind) aub ?_ ?_ aoj ?_ ?_ ?_ yS
  .grind [aS,akq,Af,h.nodup,Nz]
  .grind
  .intro t cs ht;rcases hkk t with hk|⟨hk1,Lw,hk⟩
   .grind
   .rw [hk,at7] at ht;split at ht
    .right;refine ⟨?_,?_,?_⟩
     .have hs:=h.slot t;have V9:au (St.fr ⟨p,q,fr,m⟩) t= .box cs:=ht;rw [V9] at hs;refine YS hs.2.cz ?_;grind
     .intro t2 IP RQ V7;have ⟨g1,Lv,g2⟩:=ZB t2 IP RQ;exact h.bb t2 t Lv cs g2 ht (by grind) V7
     .intro f o ho V7;have ⟨_,o0,g1,_⟩:=Ly f o ho;exact h.bf t cs f o0 ht g1 V7
    .cases ht
  .intro f o b ho hb;rw [xU] at ho;cases hmf:aN mp f with
   |some o1=>grind
   |none=>
    right;simp only [hmf] at ho;have ⟨g0,o0,g1,_⟩:=hmo f o ho;have ⟨I,cells,_,_,_,_,g5⟩:=(h.jC f o0 g1).row;refine ⟨YS (g5 b hb).1 (by grind),?_,?_⟩
    .intro t cs ht V7;have ⟨_,Lv,k2⟩:=ZB t cs ht;exact h.bf t Lv f o0 k2 g1 (by grind)
    .intro f2 o2 dO V7;have ⟨k0,o20,k1,_⟩:=Ly f2 o2 dO;have:=h.ff f f2 o0 o20 b g1 k1 hb V7;grind
  .intro f o I cells b ho hp hz hI eS hb j hj;rw [xU] at ho;grind
 .refine ⟨aol Z p q hpq.1 hpq.2 h.defers.2.2.2 (λ_ h=>h) ?_ ?_ f3.cz,aom,yS,(by grind),λ_ _=>rfl,λt ht=>afu _ (ay3 t ht),?_,?_,?_,?_,agD,aqm⟩
  .intro t cs ht;have ⟨_,Lv,g2⟩:=ZB t cs ht;have hs:=h.slot t;have g2':au (St.fr ⟨p,q,fr,m⟩) t= .box Lv:=g2;rw [g2'] at hs;exact hs.2.cz
  .intro f o b ho hb;have ⟨_,o0,g1,_⟩:=Ly f o ho;have ⟨I,cells,_,_,_,_,g5⟩:=(h.jC f o0 g1).row;exact (g5 b hb).1
  .intro t cs ht hz;exact hz.2.1 t cs ht rfl
  .intro f o b ho hb hz;exact hz.2.2 f o ho hb
  .grind
  .intro f hf;refine ⟨by grind,?_⟩;cases hmf:aN mp f with
   |none=>first|exact hmf|rfl
   |some o1=>grind
 .refine ⟨aol Zi _ _ rfl rfl (λ_ _=>rfl) (by grind) ?_ ?_ yS,λb hb=>hb,yS,λt ht=>ht,λ_ _=>rfl,(by grind),?_,?_,?_,?_,agD,aqm⟩
  .grind
  .grind
  .grind
  .grind
  .grind
  .intro f hf;cases hmf:aN mp f with
   |none=>grind
   |some o1=>grind
def He {K2:St->St->Option R}(h:bT c Z e st a w)(hK:I3 c hn st K2=some r): ∃Zi e1 e2 aZ eG,bT c Zi e1 aZ a w/\Trans Z.In e.φ w e1.φ w/\e2.φ=e1.φ/\e2.key=e1.key/\za c Z Zi e2 (FF st eG) hn a w/\za c Zi Zi e2 eG hn a w/\(∀b,Zi.In b->Z.In b)/\fD c hn.all=true/\K2 aZ eG=some r:=by grind [I3,adp,Nh,Wv,h.nodup]
structure Ev (S:Nat->Prop) (e e':Env):Prop where
 key:e'.key=e.key
 φ:e'.φ=e.φ
 jC: ∀f o,aN e'.m f=some o->S f->(∃o0,aN e.m f=some o0)/\e'.E f=e.E f
def Ev.refl (S:Nat->Prop)(e:Env):Ev S e e:=⟨rfl,rfl,(by grind)⟩
theorem Ev.trans {S:Nat->Prop} {e e' e'':Env}(h:Ev S e e') (h':Ev S e' e''):Ev S e e'':=⟨h'.key.trans h.key,h'.φ.trans h.φ,λf o ho hs=>by have ⟨⟨o1,g1⟩,g2⟩:=h'.jC f o ho hs;have ⟨g3,g4⟩:=h.jC f o1 g1 hs;grind⟩
def Ev.aud {S S':Nat->Prop} {e e':Env}(h:Ev S e e')(hs: ∀f,S' f->S f):Ev S' e e':=⟨h.key,h.φ,λf o ho hf=>h.jC f o ho (hs f hf)⟩
def bp.ev {S:Nat->Prop}(h:Ev S e e'){vs:List Value}{l:aF}(hl: ∀f,l= .own f->S f)(hr:bp e vs l):bp e' vs l:=by
 cases l with
 |own f=>obtain ⟨v,rfl,hv,hf⟩:=hr;refine ⟨v,rfl,hv,λo' FL=> ?_⟩;have ⟨⟨o,ho⟩,hE⟩:=h.jC f o' FL (hl f rfl);grind
 |p m=>exact ⟨hr.1,by rw [h.key,h.φ];exact hr.2⟩
 |_=>exact hr
def av.ev {S:Nat->Prop}(h:Ev S e e'){cs:List aF}: ∀{vs:List Value},(∀f,aF.own f∈cs->S f)->av e vs cs->av e' vs cs:=by
 induction cs with
 |nil=>intro vs _ hr;exact hr
 |cons l r ih=>intro vs hl hr;obtain ⟨v,u,rfl,h1,h2⟩:=hr;exact ⟨v,u,rfl,h1.ev h (by grind),(by grind)⟩
def lz.ev {S:Nat->Prop}(h:Ev S e e'){ob:Obj}{cs:List aF}(hl: ∀f,aF.own f∈cs->S f)(hr:lz e ob cs):lz e' ob cs:=by
 cases ob with
 |cells arr T z=>exact ⟨hr.1,hr.2.ev h hl⟩
 |map es clock=>exact hr
 |stringIter x pos=>exact hr
 |_=>exact hr.elim
def ai.ev {S:Nat->Prop}(h:Ev S e e'){v:Value}{s:Slot}(hp:dP s=false)(hl: ∀f,aF.own f∈ux s->S f)(hr:ai e v s):ai e' v s:=by
 have aue:ll (λ_=>False) (λ_=>False) e e':=⟨h.key,by rw [h.φ];exact .refl _,λ_ hf=>hf.elim,λ_ _ _ hf=>hf.elim⟩
 cases s with
 |sc l=>
  cases l<;>first|exact hr|skip
  .exact bp.ev (l:= .p _) h (λf hf=>by cases hf) hr
  .rename_i f;exact bp.ev (l:= .own f) h (by grind [ux]) hr
 |ag cs=>have ⟨arr,h1,h2⟩:=hr;exact ⟨arr,h1,h2.ev h (λf hf=>hl f hf)⟩
 |tg cs=>have ⟨arr,h1,h2⟩:=hr;exact ⟨arr,h1,h2.ev h (λf hf=>hl f hf)⟩
 |ptr=>grind [dP]
 |Cl=>grind [dP]
 |rp=>grind [dP]
 |hp=>grind [dP]
 |ep=>grind [dP]
 |_=>exact hr.on aue (by simp [iF])
theorem zb {fr:Fr}{s:Slot}(h:dP s=false):dE fr s:=by cases s<;>simp [dP] at h<;>trivial
def bT.als {t:Nat}{s:Slot}(h:bT c Z e st a w)(hp: ∀t,dP (au st.fr t)=false)(hs:dP s=false)(hb:cY s=false)(hr:ai e (a.tmps.getD t undef) s): bT c Z e {st with fr:=gV st.fr t s} a w:=by
 have hg: ∀t',au (gV st.fr t s) t'=if t'=t then s else au st.fr t':=(by grind [bO])
 have yz: ∀t' cs,au (gV st.fr t s) t'= .box cs->t'≠t/\au st.fr t'= .box cs:=by
  intro t' cs ht;rw [hg] at ht;by_cases IV:t'=t
  .simp_all [if_pos,cY]
  .grind
 refine ⟨h.defers,h.size,h.m,h.key,fA h.nodup,?_,?_,h.jC,?_,?_,h.ff,h.mj,h.cz⟩
 .intro t';rw [hg];by_cases IV:t'=t
  .simp_all;cases s<;>first|exact hr|grind
  .simp only [IV,if_false];exact h.slot t'
 .intro t';by_cases IV:t'=t;all_goals simp_all [if_true,zb,if_false]
 .intro t1 t2 c1 c2 h1 h2 eR;exact h.bb t1 t2 c1 c2 (yz t1 c1 h1).2 (yz t2 c2 h2).2 eR
 .intro t1 c1 f o h1 h2;exact h.bf t1 c1 f o (yz t1 c1 h1).2 h2
def bT.aqn {t bg:Nat}{cs:List aF}(h:bT c Z e st a w)(hp: ∀t,dP (au st.fr t)=false)(hv:tied Z t (a.tmps.getD t undef) cs bg)(Mg:xP (Z.bz t) e w bg cs)(h1: ∀t' jM,au st.fr t'= .box jM->t'≠t->e.B t'≠bg)(h2: ∀f o,aN st.aT f=some o->(e.E f).ownBlock≠some bg): bT c Z (e.EL t bg) {st with fr:=gV st.fr t (.box cs)} a w:=by
 have vA:ll (λ_=>True) (λ_=>False) e (e.EL t bg):=⟨rfl,.refl _,λr hr=>hr.elim,λf o ho _=>⟨o,ho,rfl,rfl⟩⟩
 have hg: ∀t',au (gV st.fr t (.box cs)) t'=if t'=t then .box cs else au st.fr t':=(by grind [bO])
 refine ⟨h.defers,h.size,h.m,h.key,fA h.nodup,?_,?_,λf o ho=>(h.jC f o ho).env rfl rfl,?_,?_,h.ff,h.mj,h.cz⟩
 .intro t';rw [hg];by_cases IV:t'=t
  .subst IV;simp only [if_true,eD,Env.EL];exact ⟨hv,Mg.env rfl rfl rfl rfl⟩
  .simp only [IV,if_false];have hs:=h.slot t';have hp':=hp t';generalize au st.fr t'=s at hs hp';cases s<;>simp only [eD] at hs⊢ <;>first|(simp [dP] at hp';done)|exact hs.on vA (by simp [iF,ke])|skip
   simp only [Env.EL,IV,if_false];exact ⟨hs.1,hs.2.env rfl rfl rfl rfl⟩
 .intro t';rw [hg];by_cases IV:t'=t
  .simp_all;trivial
  simp_all [if_false,zb]
 .intro t1 t2 c1 c2 g1 g2 eR;rw [hg] at g1 g2;simp only [Env.EL];by_cases k1:t1=t
  .grind
  .rw [if_neg k1] at g1;by_cases k2:t2=t
   .grind
   .simp_all;exact h.bb t1 t2 c1 c2 g1 g2 eR
 .intro t1 c1 f o g1 g2;rw [hg] at g1;simp only [Env.EL];by_cases k1:t1=t
  .grind
  .simp_all;exact h.bf t1 c1 f o g1 g2
def Env.Tq (e:Env)(f:Nat)(v:Value)(fo:pC):Env:={e with E:=λg=>if g=f then v else e.E g,m:=dh e.m f fo}
def bT.ag6 {f:Nat}{v:Value}{fo:pC}(h:bT c Z e st a w)(hp: ∀t,dP (au st.fr t)=false)(Fm:f∉Z.cV)(im:ch c Z.nc e w v fo)(hb: ∀b,v.ownBlock=some b->(∀t cs,au st.fr t= .box cs->e.B t≠b)/\(∀g o,g≠f->aN st.aT g=some o->(e.E g).ownBlock≠some b))(Ql:Ev (λg=> ∃t,aF.own g∈ux (au st.fr t)) e (e.Tq f v fo)):bT c Z (e.Tq f v fo) {st with aT:=dh st.aT f fo} a w:=by
 refine ⟨h.defers,h.size,by show dh e.m f _=dh st.aT f _;rw [h.m],h.key,h.nodup,?_,h.root,?_,h.bb,?_,?_,h.mj,h.cz⟩
 .intro t;have hs:=h.slot t;have hl: ∀f,aF.own f∈ux (au st.fr t)-> ∃t,aF.own f∈ux (au st.fr t):=λf hf=>⟨t,hf⟩
  have hpt:=hp t;generalize au st.fr t=s at hs hpt hl;by_cases YX: ∃cs,s= .box cs
  .obtain ⟨cs,rfl⟩:=YX;have ⟨o2,h1,h2⟩:=hs.2.obj;exact ⟨hs.1,hs.2.cz,⟨o2,h1,h2.ev Ql hl⟩,hs.2.free⟩
  .have yY:ai e (a.tmps.getD t undef) s:=by cases s<;>simp only [eD] at hs<;>first|exact hs|grind
   have h2:=yY.ev Ql hpt hl;cases s<;>first|exact h2|grind
 .intro f2 o2 dO;rw [bt] at dO;show ch c (Z.fz f2) _ w (if f2=f then v else e.E f2) o2;by_cases kC:f2=f
  .rw [if_pos kC];rw [if_pos kC] at dO;cases dO;rw [kC];exact (im.to Fm).env rfl rfl
  .rw [if_neg kC];rw [if_neg kC] at dO;exact (h.jC f2 o2 dO).env rfl rfl
 .intro t c1 f2 o2 h1 h2;rw [bt] at h2;show (if f2=f then v else e.E f2).ownBlock≠some (e.B t);by_cases kC:f2=f
  .grind
  .rw [if_neg kC] at h2⊢;exact h.bf t c1 f2 o2 h1 h2
 .intro f1 f2 o1 o2 k h1 h2 h3 h4;have h3:(if f1=f then v else e.E f1).ownBlock=some k:=h3;have h4:(if f2=f then v else e.E f2).ownBlock=some k:=h4;rw [bt] at h1 h2;by_cases k1:f1=f
  .grind
  .rw [if_neg k1] at h3 h1;by_cases k2:f2=f
   .grind
   .rw [if_neg k2] at h4 h2;exact h.ff f1 f2 o1 o2 k h1 h2 h3 h4
inductive TK (st:St) (ps:List (Nat×Nat)):LK->aF->MV->List (Nat×Nat)->Prop
 |Tn:TK st ps (.k .l) .nil (.list []) ps
 |hs (k:IntKind) (n:Nat) (x:List Int):TK st ps (.k (.h k n)) (.hs k n x) (.h k n x) ps
 |p (x:Kd) (m:MV):TK st ps (.k x) (.p m) m ps
 |own (f ty:Nat) (iw:Bool) (g:Nat) (o:pC):aN st.aT g=some o->o.ty=ty->(o.iw=true->iw=true)->g∉st.cV->rX ps f (g+1)=true->TK st ps (.own f ty iw) (.own g) (.list o.xs) ((f,g+1)::ps)
 |Ar (f ty:Nat) (iw:Bool):rX ps f 0=true->TK st ps (.own f ty iw) .nil (.list []) ((f,0)::ps)
def ZC {k:Kd}{m:MV} {K':aF->Option R}(h:kw k m K'=some r): ∃l,K' l=some r:=by have ⟨l,_,h⟩:=nk (e:=⟨λn=>n,λ_ _=>none,λ_=>undef,λ_=>0,[]⟩) (vs:=[]) h;grind
def WC {ps:List (Nat×Nat)}{k:LK}{l:aF} {K':MV->List (Nat×Nat)->Option R}(h:SZ st ps k l K'=some r): ∃m lm,TK st ps k l m lm/\K' m lm=some r:=by
 unfold SZ at h;split at h
 .exact ⟨_,_,.Tn,h⟩
 .have ⟨hq,h⟩:=ob h;simp only [sh,decide_eq_true_eq] at hq;have ⟨rfl,hq⟩:=hq;have hq:=bD hq;subst hq;exact ⟨_,_,.hs _ _ _,h⟩
 .have ⟨_,h⟩:=ZC h;exact ⟨_,_,.p _ _,h⟩
 .rename_i f ty iw g;cases ho:aN st.aT g with
  |none=>grind
  |some o=>simp only [ho] at h;have ⟨hc,h⟩:=oz h;simp at hc;have ⟨⟨⟨h1,h2⟩,h3⟩,h4⟩:=hc;refine ⟨_,_,.own f ty iw g o ho (by simp_all) ?_ ?_ h4,h⟩;all_goals grind [bH]
 .rename_i f ty iw;cases hc:rX ps f 0 with
  |false=>grind
  |true=>simp only [hc,cond_true] at h;exact ⟨_,_,.Ar f ty iw hc,h⟩
 .simp at h
def KP {ps:List (Nat×Nat)}{f g:Nat}(h:rX ps f g=true):(∀b,(f,b)∈ps->b=g/\g≠0)/\(∀x,(x,g)∈ps->x≠f->g=0):=by
 induction ps with
 |nil=>simp
 |cons p ps ih=>simp only [rX,sh,iy] at h;grind
structure Inv (c:Ctx) (Zb Zi:bC) (e3:Env) (mr:St) (F:List Nat) (ps:List (Nat×Nat)) (e:Env) (st:St) (a:Act) (w:World):Prop where
 vU:bT c Zb e st a w
 φ:e.φ=e3.φ
 box: ∀t cs,au st.fr t= .box cs-> ¬Zi.In (e.B t)\/(e.B t=e3.B t/\ ∃B4,au mr.fr t= .box B4)
 jC: ∀f o b,aN st.aT f=some o->(e.E f).ownBlock=some b-> ¬Zi.In b\/ ∃g,(f,g+1)∈ps
 pair: ∀f g,(f,g+1)∈ps->e.E f=e3.E g/\ ∃o3,aN mr.aT g=some o3
 has: ∀f x,(f,x)∈ps-> ∃o,aN st.aT f=some o
 own: ∀f∈F,∀o,aN st.aT f=some o-> ∃x,(f,x)∈ps
 ptr: ∀t,dP (au st.fr t)=false
 men: ∀t f,aF.own f∈ux (au st.fr t)->f∉F\/ ∃x,(f,x)∈ps
theorem adr {F:List Nat}{ps lm:List (Nat×Nat)}{k:LK}{l:aF}{m:MV}{vs:List Value} {K':aF->St->Option R}(hi:Inv c Zb Zi e3 mr F ps e st a w)(h3:bT c Zi e3 mr a w)(jb: ∀b,Zi.In b->Zb.In b)(hF: ∀f∈bI [k],f∈F/\f∉Zb.cV)(hl:bp e3 vs l)(ht:TK mr ps k l m lm)(hK:mi st k m K'=some r)(oM: ∀f ty iw,k= .own f ty iw-> ∃I,c.ti ty=some I/\I.cy=[]): ∃e' cj l',K' l' cj=some r/\Inv c Zb Zi e3 mr F lm e' cj a w/\bp e' vs l'/\cj.fr=st.fr/\Ev (λf=>f∉F\/ ∃x,(f,x)∈ps) e e'/\(∀p∈ps,p∈lm)/\(∀f,l'= .own f-> ∃x,(f,x)∈lm)/\e'.B=e.B/\l'≠ .un:=by
 have hkφ: ∀{vs m},jI e3.key e3.φ vs m->jI e.key e.φ vs m:=by intro vs m h;rw [hi.φ,hi.vU.key,<-h3.key];exact h
 have simple: ∀{x:Kd} {m:MV},jI e3.key e3.φ vs m->(kw x m λl=>K' l st)=some r-> ∃e' cj l',K' l' cj=some r/\Inv c Zb Zi e3 mr F ps e' cj a w/\bp e' vs l'/\cj.fr=st.fr/\Ev (λf=>f∉F\/ ∃x,(f,x)∈ps) e e'/\(∀p∈ps,p∈ps)/\(∀f,l'= .own f-> ∃x,(f,x)∈ps)/\e'.B=e.B/\l'≠ .un:=by
  intro x m hr hK;obtain ⟨l',QD,hK⟩:=nk (e:=e) (vs:=vs) hK;refine ⟨e,st,l',hK,hi,QD.rep (hkφ hr),rfl,.refl _ _,λp hp=>hp,λf hf=> ?_,rfl,λhu=> ?_⟩
  .grind [QD.pur,xM]
  .grind [QD.pur,xM]
 cases ht with
 |Tn=>subst hl;exact simple (x:= .l) (.list none 0 [] 0 0 0 (λ_=>[]) abu abu abu abu abu) hK
 |hs k n x=>obtain ⟨rfl,hl⟩:=hl;exact simple (x:= .h k n) (.h k n x hl) hK
 |p x m=>exact simple hl.2 hK
 |own f ty iw g o3 ho auf hfz hg hpo=>
  obtain ⟨v,rfl,hv,hE⟩:=hl;have hE:=hE o3 (by rw [h3.m];exact ho);obtain ⟨hfF,hfp⟩:=hF f (by simp [bI]);have ⟨p1,p2⟩:=KP hpo;simp only [mi,gL,qp] at hK;have hgz:g∉Zi.cV:=by rw [<-h3.defers.2.2.1];exact hg
  have ⟨I,cells,q1,q2,q3,q4,q5⟩:=(h3.jC g o3 ho).row;have Am: ∀b,v.ownBlock=some b->Zi.In b:=λb hb=>YS (q5 b (by rw [<-hE];exact hb)).1 hgz;have im:ch c Zb.nc e w v ⟨ty,iw,o3.xs⟩:=by refine ⟨I,cells,by rw [<-auf];exact q1,q2,by rw [<-auf,hE];exact q3,by rw [hi.φ,hi.vU.key,<-h3.key];exact q4,λbg hb=>⟨jb _ (Am bg hb),λoff u hu=> ?_,λhc=>hc.elim⟩⟩;rw [hi.φ] at hu;obtain ⟨k1,k2⟩:=(q5 bg (by rw [<-hE];exact hb)).2.1 off u hu;exact ⟨hfz k1,k2⟩
  have hold: ∀x,(f,x)∈ps->e.E f=v:=by intro x hx;have:=(p1 x hx).1;subst this;rw [(hi.pair f g hx).1,hE]
  have ag8: ∀S:Nat->Prop,(S f-> ∃x,(f,x)∈ps)->Ev S e (e.Tq f v ⟨ty,iw,o3.xs⟩):=by
   intro S hS;refine ⟨rfl,rfl,λf2 o2 dO hs=> ?_⟩;have dO:aN (dh e.m f ⟨ty,iw,o3.xs⟩) f2=some o2:=dO;rw [bt] at dO;by_cases kC:f2=f
   .subst kC;have ⟨x,hx⟩:=hS hs;have ⟨o0,h0⟩:=hi.has f2 x hx;exact ⟨(by grind [hi.vU.m]),by simp only [Env.Tq,if_true];grind⟩
   .rw [if_neg kC] at dO;exact ⟨⟨o2,dO⟩,by simp only [Env.Tq,kC,if_false]⟩
  have KG: ∀b,v.ownBlock=some b->(∀t cs,au st.fr t= .box cs->e.B t≠b)/\(∀g' o',g'≠f->aN st.aT g'=some o'->(e.E g').ownBlock≠some b):=by
   intro b hb;refine ⟨λt cs Mg hbt=> ?_,λg' o' eR hog hbg=> ?_⟩
   .rcases hi.box t cs Mg with h0|⟨h0,B4,h1⟩
    .exact h0 (by rw [hbt];exact Am b hb)
    .exact h3.bf t B4 g o3 h1 ho (by rw [<-hE,<-h0,hbt];exact hb)
   .rcases hi.jC g' o' b hog hbg with h0|⟨x,h0⟩
    .grind
    .have ⟨h5,o5,h6⟩:=hi.pair g' x h0;rw [h5] at hbg;have:=h3.ff g x o3 o5 b ho h6 (by rw [<-hE];exact hb) hbg;grind
  have nm:=hi.vU.ag6 hi.ptr hfp im KG (ag8 _ (λ⟨t,hm⟩=>(hi.men t f hm).resolve_left (λhn=>hn hfF)));refine ⟨_,_,.own f,hK,⟨nm,hi.φ,hi.box,?_,?_,?_,?_,hi.ptr,?_⟩,?_,rfl,(by grind),λp hp=>by simp [hp],(by grind),rfl,λhu=>by cases hu⟩
  .intro f2 o2 b dO hb;have hb:(if f2=f then v else e.E f2).ownBlock=some b:=hb;rw [bt] at dO;by_cases kC:f2=f
   .grind
   .rw [if_neg kC] at dO hb;rcases hi.jC f2 o2 b dO hb with h0|⟨x,h0⟩;all_goals grind
  .intro f2 g2 hp;show (if f2=f then v else e.E f2)=_/\_;rcases AI.1 hp with hp2|hp2
   .simp at hp2;have ⟨rfl,rfl⟩:=hp2;simp;exact ⟨hE,o3,ho⟩
   .by_cases kC:f2=f
    .subst kC;have:=(p1 _ hp2).1;have:g2=g:=aab
     subst this;simp;exact ⟨hE,o3,ho⟩
    .rw [if_neg kC];exact hi.pair f2 g2 hp2
  .intro f2 x hp;rw [bt];by_cases kC:f2=f
   .grind
   .rw [if_neg kC];rcases AI.1 hp with hp|hp
    .grind
    .exact hi.has f2 x hp
  .intro f2 Nd o2 dO;rw [bt] at dO;by_cases kC:f2=f
   .grind
   .rw [if_neg kC] at dO;have ⟨x,hx⟩:=hi.own f2 Nd o2 dO;grind
  .intro t f2 hm;rcases hi.men t f2 hm with h0|⟨x,hx⟩;all_goals grind
  .exact ⟨v,rfl,hv,(by grind [Env.Tq])⟩
 |Ar f ty iw hpo=>
  have hl:vs=[.slice none 0 0]:=hl;subst hl;obtain ⟨hfF,hfp⟩:=hF f (by simp [bI]);obtain ⟨p1,_⟩:=KP hpo;have hno: ∀x,(f,x)∉ps:=(by grind)
  simp only [mi,gL,qp] at hK;obtain ⟨I,hI,YV⟩:=oM f ty iw rfl;have im:ch c Zb.nc e w (.slice none 0 0) ⟨ty,iw,[]⟩:=⟨I,[],hI,YV,⟨abu,.inl ⟨rfl,rfl⟩⟩,rfl,(by grind [IT])⟩
  have ag8: ∀S:Nat->Prop,(S f->False)->Ev S e (e.Tq f (.slice none 0 0) ⟨ty,iw,[]⟩):=by
   intro S hS;refine ⟨rfl,rfl,λf2 o2 dO hs=> ?_⟩;have dO:aN (dh e.m f ⟨ty,iw,[]⟩) f2=some o2:=dO;rw [bt] at dO;by_cases kC:f2=f
   .grind
   .simp_all [if_neg,Env.Tq,if_false]
  have nm:=hi.vU.ag6 hi.ptr hfp im (by grind [IT]) (ag8 _ (λ⟨t,hm⟩=>(hi.men t f hm).elim (λhn=>hn hfF) (by grind)));refine ⟨_,_,.own f,hK,⟨nm,hi.φ,hi.box,?_,?_,?_,?_,hi.ptr,?_⟩,?_,rfl,(by grind),λp hp=>by simp [hp],(by grind),rfl,λhu=>by cases hu⟩
  .intro f2 o2 b dO hb;have hb:(if f2=f then alv none 0 0 else e.E f2).ownBlock=some b:=hb;rw [bt] at dO;by_cases kC:f2=f
   .simp_all [if_pos,IT]
   .rw [if_neg kC] at dO hb;rcases hi.jC f2 o2 b dO hb with h0|⟨x,h0⟩;all_goals grind
  .intro f2 g2 hp;show (if f2=f then alv none 0 0 else e.E f2)=_/\_;rcases AI.1 hp with hp2|hp2
   .simp at hp2
   .by_cases kC:f2=f
    .grind
    .rw [if_neg kC];exact hi.pair f2 g2 hp2
  .intro f2 x hp;rw [bt];by_cases kC:f2=f
   .simp_all
   .rw [if_neg kC];rcases AI.1 hp with hp|hp
    .grind
    .exact hi.has f2 x hp
  .intro f2 Nd o2 dO;rw [bt] at dO;by_cases kC:f2=f
   .grind
   .rw [if_neg kC] at dO;have ⟨x,hx⟩:=hi.own f2 Nd o2 dO;grind
  .intro t f2 hm;rcases hi.men t f2 hm with h0|⟨x,hx⟩;all_goals grind
  .exact ⟨_,rfl,rfl,(by grind [Env.Tq])⟩
end
def ZD {c:Ctx}{ks:List LK}(h:iR c ks=true): ∀f ty iw,LK.own f ty iw∈ks-> ∃I,c.ti ty=some I/\I.cy=[]:=by
 induction ks with
 |nil=>grind
 |cons k ks ih=>
  cases k with
  |k x=>grind [iR]
  |own f' ty' ayR=>grind [iR,a8]
theorem KQ (k:LK)(ks:List LK):bI (k::ks)=bI [k]++bI ks:=by cases k<;>simp [bI]
section
variable {P:Program}{c:Ctx}{Z Zb Zi:bC}{e e' e3:Env}{st cj mr B:St}{a a':Act}{w w':World}{R:Type}{K:St->Option R}{r:R}{Q:Exit->Act->World->Prop}{o:Oper}{hn:fV}
inductive TKs (st:St):List (Nat×Nat)->List LK->List aF->List MV->List (Nat×Nat)->Prop
 |nil (ps):TKs st ps [] [] [] ps
 |cons {ps ps1 ps2 k l m ks ls ms}:TK st ps k l m ps1->TKs st ps1 ks ls ms ps2->TKs st ps (k::ks) (l::ls) (m::ms) ps2
def Au {ks:List LK}: ∀{ps:List (Nat×Nat)} {ls:List aF} {K':List MV->List (Nat×Nat)->Option R},mC st ps ks ls K'=some r-> ∃ms lm,TKs st ps ks ls ms lm/\K' ms lm=some r:=by
 induction ks with
 |nil=>
  intro ps ls K' h;cases ls with
  |nil=>exact ⟨[],ps,.nil ps,h⟩
  |cons=>grind [mC]
 |cons k ks ih=>
  intro ps ls K' h;cases ls with
  |nil=>grind [mC]
  |cons l ls=>have ⟨m,ps1,h1,h⟩:=WC h;have ⟨ms,ps2,h2,h⟩:=ih h;exact ⟨m::ms,ps2,.cons h1 h2,h⟩
def Cz {F:List Nat}{ks:List LK}: ∀{ps lm:List (Nat×Nat)} {ls:List aF} {ms rest:List MV} {vs:List Value} {e:Env} {st:St} {K':List aF->List MV->St->Option R},Inv c Zb Zi e3 mr F ps e st a w->bT c Zi e3 mr a w->(∀b,Zi.In b->Zb.In b)-> (∀f∈bI ks,f∈F/\f∉Zb.cV)->iR c ks=true->av e3 vs ls->TKs mr ps ks ls ms lm->cZ st ks (ms++rest) K'=some r-> ∃e' cj CA,K' CA rest cj=some r/\Inv c Zb Zi e3 mr F lm e' cj a w/\av e' vs CA/\cj.fr=st.fr/\Ev (λf=>f∉F\/ ∃x,(f,x)∈ps) e e'/\(∀p∈ps,p∈lm)/\(∀f,aF.own f∈CA-> ∃x,(f,x)∈lm)/\e'.B=e.B/\(∀l∈CA,l≠ .un):=by
 induction ks with
 |nil=>intro ps lm ls ms rest vs e st K' hi h3 jb hF oM hl ht hK;cases ht;exact ⟨e,st,[],hK,hi,hl,rfl,.refl _ _,λp hp=>hp,λf hf=>by simp at hf,rfl,abu⟩
 |cons k ks ih=>
  intro ps lm ls ms rest vs e st K' hi h3 jb hF oM hl ht hK;cases ht with
  |cons ht1 RQ=>
   obtain ⟨v,u,rfl,I7,xO⟩:=hl;simp only [cZ,aku,gC] at hK;have uw:=ZD oM;have ⟨e1,aZ,l',xw,yT,Lu,Lt,alw,aqo,NA,hB1,aqp⟩:=adr hi h3 jb (by grind [KQ,afu]) I7 ht1 hK (by grind);have ag9:iR c ks=true:=by
    cases k with
    |k x=>exact oM
    |own f ty iw=>grind [iR]
   have ⟨e2,eG,CA,EP,hi2,V8,ak6,auh,aDt,aBs,hB2,aDv⟩:=ih yT h3 jb (by grind [KQ,afA]) ag9 xO RQ xw;refine ⟨e2,eG,l'::CA,EP,hi2,⟨v,u,rfl,?_,V8⟩,ak6.trans Lt,alw.trans (auh.aud ?_),(by grind),?_,hB2.trans hB1,by grind⟩
   .exact Lu.ev auh (by grind)
   all_goals grind
inductive TO (st:St):List (Nat×Nat)->List (Nat×OK)->List MV->Prop
 |nil (ps):TO st ps [] []
 |sc {ps lm t k l ms r ns}:au st.fr t= .sc l->TKs st ps [k] [l] ms lm->TO st lm r ns->TO st ps ((t,.sc k)::r) (ms++ns)
 |ag {ps lm t ks ls ms r ns}:au st.fr t= .ag ls->TKs st ps ks ls ms lm->TO st lm r ns->TO st ps ((t,.ag ks)::r) (ms++ns)
 |box {ps lm t ks ls ms r ns}:au st.fr t= .box ls->TKs st ps ks ls ms lm->TO st lm r ns->TO st ps ((t,.box ks)::r) (ms++ns)
 |mp {ps t s es r ns}:au st.fr t= .box [.mp s es]->TO st ps r ns->TO st ps ((t,.mp s)::r) (.list es::ns)
 |pt {ps t root off r ns}:au st.fr t= .ptr root off->DN root=false->IZ (au st.fr root)=true->TO st ps r ns->TO st ps ((t,.pt root off)::r) ns
def sb {os:List (Nat×OK)}: ∀{ps:List (Nat×Nat)} {R:Type} {r:R} {K':List MV->Option R},eI st ps os K'=some r-> ∃ms,TO st ps os ms/\K' ms=some r:=by
 induction os with
 |nil=>intro ps R r K' h;exact ⟨[],.nil ps,h⟩
 |cons p os ih=>
  intro ps R r K' h;have ⟨t,k⟩:=p;simp only [eI] at h;split at h
  .rename_i k l hf;have ⟨ms,lm,h1,h⟩:=Au h;have ⟨ns,h2,h⟩:=ih h;simp only [Ae] at h;exact ⟨_,.sc hf h1 h2,h⟩
  .rename_i ks ls hf;have ⟨ms,lm,h1,h⟩:=Au h;have ⟨ns,h2,h⟩:=ih h;simp only [Ae] at h;exact ⟨_,.ag hf h1 h2,h⟩
  .rename_i ks ls hf;have ⟨ms,lm,h1,h⟩:=Au h;have ⟨ns,h2,h⟩:=ih h;simp only [Ae] at h;exact ⟨_,.box hf h1 h2,h⟩
  .rename_i s s' es hf;cases hm:msB s s' with
   |false=>grind
   |true=>simp only [hm,cond_true] at h;have:=ap5 hm;subst this;have ⟨ns,h2,h⟩:=ih h;exact ⟨_,.mp hf h2,h⟩
  .rename_i root off af6 V0 hf;cases hc:AS root af6&&(AS off V0&&(!DN root&&IZ (au st.fr root))) with
   |false=>grind
   |true=>rw [hc] at h;simp only [sh,afy] at hc;have ⟨k1,k2,k3,k4⟩:=hc;have k1:=bD k1;have k2:=bD k2;subst k1 k2;have ⟨ns,h2,h⟩:=ih h;exact ⟨_,.pt hf k3 k4 h2,h⟩
  .simp at h
def aha {os:List (Nat×OK)}: ∀{ps:List (Nat×Nat)} {ms:List MV} {st:St},bT c Zb e st a w->bT c Zi e3 mr a w->TO mr ps os ms->af7 os ms st K=some r-> ∃cj,bT c Zb e cj a w/\K cj=some r:=by
 induction os with
 |nil=>intro ps ms st h h3 ht hK;cases ht;exact ⟨st,h,hK⟩
 |cons p os ih=>
  have ⟨t,k⟩:=p;intro ps ms st h h3 ht hK;cases k with
  |pt root off=>
   cases ht with
   |pt hf hp hb RQ=>
    have ⟨pr,q,fr,m⟩:=st;simp only [af7] at hK;cases hc:!DN root&&(IZ (au fr root)&&!cY (au fr t)) with
    |false=>grind
    |true=>
     rw [hc] at hK;simp at hc;have ⟨_,uU,hn⟩:=hc;simp only [cond_true,pe] at hK;have ⟨cs,hf1,_⟩:=DR uU;have hB:=Wu h3 h hp hb uU;have hv:ai e (a.tmps.getD t undef) (.ptr root off):=by have:=h3.slot t;rw [hf] at this;simp only [eD,ai] at this⊢;rw [hB];exact this
     exact ih (h.agS hf1 hn hv) h3 RQ hK
  |_=>grind [af7]
theorem ads {F:List Nat}{os:List (Nat×OK)}: ∀{ps:List (Nat×Nat)} {ms:List MV} {e:Env} {st:St},Inv c Zb Zi e3 mr F ps e st a w->bT c Zi e3 mr a w->(∀b,Zi.In b->Zb.In b)-> (∀f∈cn os,f∈F/\f∉Zb.cV)->(∀t∈eo os,t∉Zi.cX)->fD c os=true->TO mr ps os ms->qm st os ms K=some r-> ∃e' cj,bT c Zb e' cj a w/\e'.φ=e3.φ/\K cj=some r:=by
 induction os with
 |nil=>intro ps ms e st hi h3 jb hF hk oM ht hK;cases ht;exact ⟨e,st,hi.vU,hi.φ,hK⟩
 |cons p os ih=>
  intro ps ms e st hi h3 jb hF hk oM ht hK;obtain ⟨t,k⟩:=p;have h3t:=h3.slot t;have next: ∀{lm:List (Nat×Nat)} {s:Slot} {e1:Env} {aZ:St} {ns:List MV},Inv c Zb Zi e3 mr F lm e1 aZ a w->dP s=false->cY s=false->ai e1 (a.tmps.getD t undef) s->(∀f,aF.own f∈ux s-> ∃x,(f,x)∈lm)-> (∀f∈cn os,f∈F/\f∉Zb.cV)->fD c os=true->TO mr lm os ns->(V1 aZ t s λst=>qm st os ns K)=some r-> ∃e' cj,bT c Zb e' cj a w/\e'.φ=e3.φ/\K cj=some r:=by
   intro lm s e1 aZ ns yT hp hb hr aqm hF2 ag9 RQ hK;simp only [V1,pe] at hK;have hg: ∀t',au (gV aZ.fr t s) t'=if t'=t then s else au aZ.fr t':=(by grind [bO])
   refine ih ⟨yT.vU.als yT.ptr hp hb hr,yT.φ,?_,yT.jC,yT.pair,yT.has,yT.own,?_,?_⟩ h3 jb hF2 (by grind [eo]) ag9 RQ hK
   .intro t' cs Mg;rw [hg] at Mg;by_cases IV:t'=t
    .simp_all [if_pos,cY]
    .rw [if_neg IV] at Mg;exact yT.box t' cs Mg
   .intro t';rw [hg];by_cases IV:t'=t
    .grind
    .rw [if_neg IV];exact yT.ptr t'
   .intro t' f hm;rw [hg] at hm;by_cases IV:t'=t
    .grind
    .rw [if_neg IV] at hm;exact yT.men t' f hm
  have ahb: ∀{lm:List (Nat×Nat)} {ls CA:List aF} {ob:Obj} {e1:Env} {aZ:St} {ns:List MV},Inv c Zb Zi e3 mr F lm e1 aZ a w->au mr.fr t= .box ls->tied Zb t (a.tmps.getD t undef) CA (e3.B t)->w.heap[e3.B t]? =some ob->lz e1 ob CA-> (∀f,aF.own f∈CA-> ∃x,(f,x)∈lm)->(∀f∈cn os,f∈F/\f∉Zb.cV)->fD c os=true->TO mr lm os ns->(V1 aZ t (.box CA) λst=>qm st os ns K)=some r-> ∃e' cj,bT c Zb e' cj a w/\e'.φ=e3.φ/\K cj=some r:=by
   intro lm ls CA ob e1 aZ ns yT hf hv cD Lu NA hF2 ag9 RQ xw;rw [hf] at h3t;have Mg:=h3t.2;simp only [V1,pe] at xw;have htp:t∉Zi.cX:=hk t (by simp [eo]);have Am:Zi.In (e3.B t):=YS Mg.cz htp;have hg: ∀t',au (gV aZ.fr t (.box CA)) t'=if t'=t then .box CA else au aZ.fr t':=(by grind [bO])
   have ml:=yT.vU.aqn (t:=t) (bg:=e3.B t) (cs:=CA) yT.ptr hv ⟨.inr (jb _ Am),⟨ob,cD,Lu⟩,λoff=>by rw [yT.φ];exact Mg.free off⟩ (by
     intro t' jM EM eR hbe;rcases yT.box t' jM EM with h0|⟨h0,B4,h1⟩
     .grind
     .exact h3.bb t' t B4 ls h1 hf eR (by grind))
    (by
     intro f o ho hbe;rcases yT.jC f o _ ho hbe with h0|⟨g,h0⟩
     .exact h0 Am
     .have ⟨h5,o5,h6⟩:=yT.pair f g h0;rw [h5] at hbe;exact h3.bf t ls g o5 hf h6 hbe)
   refine ih (e:=e1.EL t (e3.B t)) ⟨ml,yT.φ,?_,yT.jC,yT.pair,yT.has,yT.own,?_,?_⟩ h3 jb hF2 (by grind [eo]) ag9 RQ xw
   .intro t' cs EM;rw [hg] at EM;show¬Zi.In (if t'=t then e3.B t else e1.B t')\/((if t'=t then e3.B t else e1.B t')=e3.B t'/\_);by_cases IV:t'=t
    .grind
    .rw [if_neg IV] at EM⊢;exact yT.box t' cs EM
   .intro t';rw [hg];by_cases IV:t'=t
    .rw [if_pos IV];rfl
    .rw [if_neg IV];exact yT.ptr t'
   .intro t' f hm;rw [hg] at hm;by_cases IV:t'=t
    .rw [if_pos IV] at hm;exact .inr (NA f hm)
    .rw [if_neg IV] at hm;exact yT.men t' f hm
  cases ht with
  |sc hf ht1 RQ=>
   rename_i lm k l ms ns;rw [hf] at h3t;simp only [fD] at oM;cases WD:iR c [k] with
   |false=>grind
   |true=>
    simp only [WD,cond_true] at oM;have hF1: ∀f∈bI [k],f∈F/\f∉Zb.cV:=(by grind [cn,afu])
    have hF2: ∀f∈cn os,f∈F/\f∉Zb.cV:=(by grind [cn,afA])
    simp only [qm] at hK;have qq: ∃vs,bp e3 vs l/\ ∀(e1:Env) (l':aF),bp e1 vs l'->(∀m,l'= .p m->m.one=true)->l'≠ .un->ai e1 (a.tmps.getD t undef) (.sc l'):=by
     have h3s:ai e3 (a.tmps.getD t undef) (.sc l):=h3t;cases ht1 with
     |cons hk1 _=>
      generalize a.tmps.getD t undef=v at h3s;by_cases hh: ∃k n x,l= .hs k n x
      .obtain ⟨k,n,x,rfl⟩:=hh;have ⟨hv,Zq⟩:=h3s;refine ⟨bN k x,⟨rfl,Zq⟩,λe1 l' QD ho hu=> ?_⟩;have hlen:=dj k x;cases l' with
       |un=>grind
       |hs k2 n2 y=>have ⟨QD,h2⟩:=QD;refine ⟨?_,h2⟩;grind
       |nil=>have QD:bN k x=[_]:=QD;grind
       |mp s es=>exact QD.elim
       |own f=>have ⟨u,hu2,_⟩:=QD;grind
       |p m=>have ⟨u,hu2,_⟩:=QD.2.one (ho m rfl);grind
      .have hun:l≠ .un:=by intro he;subst he;cases hk1
       have fG:bp e3 [v] l:=(by grind [ai.apD])
       refine ⟨[v],fG,λe1 l' QD ho hu=> ?_⟩;cases l' with
       |un=>grind
       |hs k2 n2 y=>have ⟨QD,h2⟩:=QD;grind [dj]
       |nil=>exact QD
       |mp s es=>exact QD
       |own f=>exact QD
       |p m=>exact QD
    have ⟨vs,rQ,auj⟩:=qq;have ⟨e1,aZ,CA,xw,yT,Lu,Lt,alw,aqo,NA,hB1,aqp⟩:=Cz (vs:=vs) hi h3 jb hF1 WD (show av e3 vs [l] from ⟨vs,[],abu,rQ,rfl⟩) ht1 hK;split at xw
    .rename_i l';have ⟨v1,u1,hvu,I7,hu1⟩:=Lu;subst hu1;have hvu:vs=v1:=by simpa using hvu
     subst hvu;refine next yT rfl rfl ?_ (by grind [ux]) hF2 oM RQ xw
     refine auj e1 l' I7 ?_ ?_
     .intro m hm;subst hm;exact I7.1
     grind
    .cases xw
  |ag hf ht1 RQ=>
   rename_i lm ks ls ms ns;rw [hf] at h3t;simp only [fD] at oM;cases WD:iR c ks with
   |false=>grind
   |true=>simp only [WD,cond_true] at oM;have h3s:ai e3 (a.tmps.getD t undef) (.ag ls):=h3t;have ⟨arr,hv,rQ⟩:=h3s;have ⟨e1,aZ,CA,xw,yT,Lu,Lt,alw,aqo,NA,hB1,aqp⟩:=Cz hi h3 jb (by grind [cn,afu]) WD rQ ht1 hK;exact next (s:= .ag CA) yT rfl rfl ⟨arr,hv,Lu⟩ NA (by grind [cn,afA]) oM RQ xw
  |box hf ht1 RQ=>
   rename_i lm ks ls ms ns;rw [hf] at h3t;simp only [fD] at oM;cases WD:iR c ks with
   |false=>grind
   |true=>
    simp only [WD,cond_true] at oM;simp only [qm] at hK;have IQ:fU ls=false:=by
     cases hm:fU ls with
     |false=>rfl
     |true=>obtain ⟨s,es,rfl⟩:=S6 hm;cases ht1;rename_i h1 _;cases h1
    have ⟨hv,Mg⟩:=h3t;cases IU:DN t&&!bL st.cX (posOf t) with
    |true=>grind
    |false=>
    simp only [IU,cond_false] at hK;have ng: ∀CA,fU CA=false->tied Zb t (a.tmps.getD t undef) CA (e3.B t):=λCA hm'=>⟨λhp=>by rw [hv.1 hp,yy IQ,yy hm'],λhp=>by
     have ⟨k1,k2⟩:=hv.2 hp;rw [hp] at IU;have k3:posOf t∈Zb.cX:=by rw [<-hi.vU.defers.2.1,<-bH];simpa using IU
     exact ⟨k3,by rw [<-hi.vU.defers.2.2.2 _ k3,h3.defers.2.2.2 _ k1,k2]⟩⟩
    have ⟨arr,T,cD,rQ⟩:=Mg.cells IQ;have ⟨e1,aZ,CA,xw,yT,Lu,Lt,alw,aqo,NA,hB1,aqp⟩:=Cz hi h3 jb (by grind [cn,afu]) WD rQ ht1 hK;exact ahb yT hf (ng _ Lu.Fk) cD ⟨rfl,Lu⟩ NA (by grind [cn,afA]) oM RQ xw
  |mp hf RQ=>
   rename_i s es ns;rw [hf] at h3t;simp only [qm] at hK;cases IU:DN t with
   |true=>grind
   |false=>
   simp only [IU,cond_false,gC,gL] at hK;have ⟨hv0,Mg⟩:=h3t;have hv:tied Zb t (a.tmps.getD t undef) [aF.mp s es] (e3.B t):= .own IU (hv0.1 IU);have ⟨ob,cD,hob⟩:=Mg.obj;cases ob with
   |cells arr T z=>exact absurd hob.2.Fk (by simp [fU])
   |map arr n=>exact ahb hi hf hv cD hob (by grind) (by grind [cn]) oM RQ hK
   |stringIter x n=>exact ahb hi hf hv cD hob (by grind) (by grind [cn]) oM RQ hK
   |_=>exact hob.elim
  |pt hf hp hb RQ=>have ⟨cj,g1,g2⟩:=aha hi.vU h3 (.pt hf hp hb RQ) hK;grind [hi.φ]
def Hf {os:List (Nat×OK)}{ms:List MV}(hJ:za c Zb Zi e B hn a w)(h3:bT c Zi e3 mr a w) (hφ:e3.φ=e.φ)(hos:(∀t∈eo os,t∈eo hn.all)/\(∀f∈cn os,f∈cn hn.all))(oM:fD c os=true)(ht:TO mr [] os ms)(hK:qm B os ms K=some r): ∃e' cj,bT c Zb e' cj a w/\e'.φ=e.φ/\K cj=some r:=by
 rw [<-hφ];refine ads (F:=cn hn.all) ⟨hJ.vU,hφ.symm,λt cs hb=> .inl (hJ.box t cs hb),λf o b ho hb=> .inl (hJ.jC f o b ho hb),(by grind),(by grind),?_,hJ.ptr,λt f hm=> .inl (hJ.men t f hm)⟩ h3 hJ.sub ?_ ?_ oM ht hK
 .intro f hf o ho;rw [(hJ.alq f hf).2] at ho;cases ho
 .intro f hf;exact ⟨hos.2 f hf,(hJ.alq f (hos.2 f hf)).1⟩
 .intro t V9;exact (hJ.aqi t (hos.1 t V9)).2
end
theorem KR {os:List (Nat×OK)}{t:Nat}:t∈eo os↔ ∃k,(t,k)∈os:=by
 induction os with
 |nil=>simp [eo]
 |cons p os ih=>simp only [eo,AI,ih,afC];grind
def ahc:OK->List Nat
 | .sc k=>bI [k]
 | .ag ks=>bI ks
 | .box ks=>bI ks
 | .mp _=>[]
 | .pt _ _=>[]
theorem Ts (t:Nat)(k:OK)(os:List (Nat×OK)):cn ((t,k)::os)=ahc k++cn os:=by cases k<;>rfl
theorem KT {os:List (Nat×OK)}{f:Nat}:f∈cn os↔ ∃p∈os,f∈ahc p.2:=by
 induction os with
 |nil=>simp [cn]
 |cons p os ih=>grind [Ts]
def NB (c:Ctx):OK->Bool
 | .sc k=>iR c [k]
 | .ag ks=>iR c ks
 | .box ks=>iR c ks
 | .mp _=>true
 | .pt _ _=>true
def WE {c:Ctx}(t:Nat)(k:OK)(os:List (Nat×OK)):fD c ((t,k)::os)=(NB c k&&fD c os):=by
 cases k with
 |sc k=>grind [fD,NB,iR]
 |ag k=>grind [fD,NB,iR]
 |box k=>grind [fD,NB,iR]
 |mp s=>simp only [fD,NB,akr]
 |pt r o=>simp only [fD,NB,akr]
theorem NC {c:Ctx}{os:List (Nat×OK)}:fD c os=true↔ ∀p∈os,NB c p.2=true:=by
 induction os with
 |nil=>simp [fD]
 |cons p os ih=>rw [WE,sh,ih,akL]
def ahd {l:List (Nat×List (Nat×OK))}{e:Nat}{p:Nat×OK}(h:p∈afQ l e):p∈abl l:=by
 induction l with
 |nil=>grind [afQ]
 |cons q l ih=>grind [afQ,abl,AS]
def Tt {hn:fV}{e:Nat}:(∀t∈eo (hn.ex e),t∈eo hn.all)/\(∀f∈cn (hn.ex e),f∈cn hn.all)/\ ∀{c:Ctx},fD c hn.all=true->fD c (hn.ex e)=true:=by have hm: ∀p∈hn.ex e,p∈hn.all:=λp hp=>afA _ (ahd hp);grind [KR,KT,NC]
def ahe {hn:fV}:(∀t∈eo hn.outs,t∈eo hn.all)/\(∀f∈cn hn.outs,f∈cn hn.all)/\ ∀{c:Ctx},fD c hn.all=true->fD c hn.outs=true:=by have hm: ∀p∈hn.outs,p∈hn.all:=λp hp=>afu _ hp;grind [KR,KT,NC]
def WG {R:Type}{r:R}{l:List Nat}{e:Nat}{K:Nat->Option R}(h:Qr l e K=some r):K e=some r:=by
 induction l with
 |nil=>grind [Qr]
 |cons p l ih=>
  cases l with
  |nil=>grind [Qr,iy]
  |cons q l=>simp only [Qr,iy] at h;grind
def adt {σ R:Type}{r:R}{body:σ->Option (Sum σ R)}{k:Nat}{s:σ}(h:oT k body s=some r): ∃n,iter body n s=some r:=by
 unfold oT at h;split at h
 .grind
 .split at h;all_goals grind
def CB:Nat->Exit
 |0=> .normal
 |1=> .ret
 |n+2=> .exit n
section
variable {P:Program}{c:Ctx}{Z Zb Zi:bC}{e e' e3:Env}{st cj mr B:St}{a a':Act}{w w':World}{R:Type}{r:R}{Q:Exit->Act->World->Prop}{o:Oper}{hn:fV}
def Tu (P:Program)(c:Ctx)(id:Nat)(ops:Array Oper)(d:Bool)(l:List Oper):Prop:=∀{Z:bC} {e:Env} {st:St} {a:Act} {w:World} {R:Type} {K:St->Option R} {r:R} {Q:Exit->Act->World->Prop},bT c Z e st a w->GY c ops.toList l st K=some r-> (∀a' w',Out c Z K r e.φ w a' w'->Q .normal a' w')->(akM id ops d).wp P Q a w
def adu (hG:Good P c)(id:Nat)(ops:Array Oper):Tu P c id ops false ops.toList:=by intro Z e st a w R K r Q h hK hQ;refine wp_region (aqh hG (os:=ops.toList) ?_ h hK (.refl _ _ _) hQ);apply agO;grind
def RR {id:Nat}{ops:Array Oper}{d:Bool}{l:List Oper}{K:St->Option R}(hr:Tu P c id ops d l)(h:bT c Z e st a w)(hK:Mb c id ops.toList l st K=some r)(hQ: ∀a' w',Out c Z K r e.φ w a' w'->Q .normal a' w'):(akM id ops d).wp P Q a w:=by
 unfold Mb at hK;cases hg:guarded ops.toList with
 |false=>simp only [hg,cond_false] at hK;have ⟨cj,h',hK⟩:=tz h hK;exact hr h' hK hQ
 |true=>
  simp only [hg,cond_true] at hK;have ⟨Zi,e1,e2,aZ,eG,h1,t1,hφ,hk,j1,j2,jb,oM,hK⟩:=He h hK;have ⟨vs,hv,hK⟩:=mE hK;have ⟨ay7,Md,hv⟩:=tz h1 hv;refine hr Md hv ?_;rintro a' w' ⟨e3,mr,h3,t3,hv3⟩;have ⟨ms,ht,Tv⟩:=sb hv3;cases Tv;have t3':Trans Zi.In e2.φ w e3.φ w':=by rw [hφ];exact t3
  have jl:=j1.later t3' h3.mj h3.defers.1 h3.size h3.defers.2.2.2;have ⟨s1,s2,s3⟩:=Tt (hn:=c.eV id) (e:=0);have ⟨e5,st5,g1,g2,g3⟩:=Hf jl h3 rfl ⟨s1,s2⟩ (s3 oM) ht hK;refine hQ a' w' ⟨e5,st5,g1,?_,g3⟩;rw [g2];exact t1.trans ⟨t3.ph,λb hb=>t3.heap b (by grind),λb o hb=>t3.free b o (by grind),t3.size,t3.rest⟩
def Trans.sup {I J:Nat->Prop} {φ φ':Ph}(h:Trans I φ w φ' w')(hs: ∀b,I b->J b):Trans J φ w φ' w':=⟨h.ph,λb hb=>h.heap b (λhz=>hb (hs b hz)),λb o hb=>h.free b o (λhz=>hb (hs b hz)),h.size,h.rest⟩
def RS {n:Nat}{next:Act->World->Prop}(hn:n≠0):Exit.then next Q (CB n)=Q (CB n):=by
 match n,hn with
 |1,_=>rfl
 |n+2,_=>rfl
def WH (P:Program)(c:Ctx)(id:Nat)(ops:Array Oper):Prop:=∀{Z:bC} {e:Env} {st:St} {a:Act} {w:World} {R:Type} {K:St->Option R} {r:R} {Q:Exit->Act->World->Prop},bT c Z e st a w->aga c id ops.toList st K=some r-> (∀a' w',Out c Z K r e.φ w a' w'->Q .normal a' w')->(akM id ops false).wp P Q a w
def WI (P:Program)(c:Ctx):Prop:=(∀(id:Nat) (ops:Array Oper),WH P c id ops)/\(∀(id:Nat) (ops:Array Oper) (l:List Oper),Ad c ops (c.ord id)=true->s7 ops.toList (c.ord id)=some l->Tu P c id ops true l)/\ ∀(id:Nat) (ops:Array Oper) (k:Nat) (l:List Nat) {Z:bC} {e:Env} {st:St} {a:Act} {w:World} {R:Type} [Fg R] {K:St->Option R} {r:R} {Q:Exit->Act->World->Prop},bT c Z e st a w->M0 c st K k ops l=some r-> (∀a' w',Out c Z K r e.φ w a' w'->Q .normal a' w')->(akM id ops true).wp P Q a w
def adv {R:Type}[Fg R]{x y:Option R}{r:R}(h:both x y=some r):x=some r/\y=some r:=by grind [abk]
def ZE {n:Nat}{l o1 o2:List Nat}{A B:Nat}(h:agb n l=some (o1,o2,A,B)):A≠B/\A<n/\B<n:=by
 unfold agb at h;split at h
 .rename_i m A' B' _;cases hb:AS A' B'||(ahs n A'||ahs n B') with
  |true=>grind
  |false=>grind [BY,iy,agV]
 .cases h
def aqr {ts:List Nat}{K:St->Option R}(h:bT c Z e st a w)(hK:fzK c ts st K=some r): ∃e' cj,bT c Z e' cj a w/\Trans Z.In e.φ w e'.φ w/\K cj=some r:=by
 unfold fzK at hK;split at hK
 .exact ⟨e,st,h,.refl _ _ _,hK⟩
 .have ⟨e',cj,ms,h1,h2,_,h3,_⟩:=vS h hK;grind [h2.tr]
theorem Tw (hG:Good P c)(hD:WI P c): ∀(code:Code) {R:Type} [Fg R] {r:R} {Z:bC} {e:Env} {st:St} {a:Act} {w:World} {K:Nat->St->Option R} {Q:Exit->Act->World->Prop},bT c Z e st a w->pT c code R st K=some r-> (∀n e' cj a' w',bT c Z e' cj a' w'->Trans Z.In e.φ w e'.φ w'->K n cj=some r->Q (CB n) a' w')->code.wp P Q a w:=by
 intro code;induction code with
 |skip=>intro R _ r Z e st a w K Q h hK hQ;exact wp_skip (hQ 0 e st a w h (.refl _ _ _) hK)
 |exit id=>intro R _ r Z e st a w K Q h hK hQ;exact wp_exit (hQ (id+2) e st a w h (.refl _ _ _) hK)
 |ret=>intro R _ r Z e st a w K Q h hK hQ;exact wp_ret (hQ 1 e st a w h (.refl _ _ _) hK)
 |region id ops d=>
  intro R _ r Z e st a w K Q h hK hQ;have ND: ∀a' w',Out c Z (λst=>K 0 st) r e.φ w a' w'->Q .normal a' w':=by rintro a' w' ⟨e2,eG,h1,h2,h3⟩;exact hQ 0 e2 eG a' w' h1 h2 h3
  simp only [pT,abr] at hK;have ⟨e0,DQ,h0,t0,hK⟩:=aqr h hK;have ND: ∀a' w',Out c Z (λst=>K 0 st) r e0.φ w a' w'->Q .normal a' w':=by rintro a' w' ⟨e2,eG,h1,h2,h3⟩;exact ND a' w' ⟨e2,eG,h1,t0.trans h2,h3⟩
  replace h:=h0
  cases d with
  |false=>exact hD.1 id ops h hK ND
  |true=>
   cases h2:!AS (c.ord id).length ops.toList.length with
   |true=>
    simp only [h2,cond_true] at hK;unfold ato at hK;cases hg:guarded ops.toList with
    |true=>
     simp only [hg,cond_true] at hK;have ⟨Zi,e1,e2,aZ,eG,h1,t1,hφ,hk,j1,j2,jb,oM,hK⟩:=He h hK;have ⟨vs,hv,hK⟩:=mE hK;have ⟨ay7,Md,hv⟩:=tz h1 hv;refine hD.2.2 id ops _ _ Md hv ?_;rintro a' w' ⟨e3,mr,h3,t3,hv3⟩;have ⟨ms,ht,Tv⟩:=sb hv3;cases Tv;have t3':Trans Zi.In e2.φ w e3.φ w':=by rw [hφ];exact t3
     have jl:=j1.later t3' h3.mj h3.defers.1 h3.size h3.defers.2.2.2;have ⟨s1,s2,s3⟩:=Tt (hn:=c.eV id) (e:=0);have ⟨e5,st5,g1,g2,g3⟩:=Hf jl h3 rfl ⟨s1,s2⟩ (s3 oM) ht hK;refine ND a' w' ⟨e5,st5,g1,?_,g3⟩;rw [g2];exact t1.trans ⟨t3.ph,λb hb=>t3.heap b (by grind),λb o hb=>t3.free b o (by grind),t3.size,t3.rest⟩
    |false=>simp only [hg,cond_false] at hK;have ⟨cj,h',hK⟩:=tz h hK;exact hD.2.2 id ops _ _ h' hK ND
   |false=>
   simp only [h2,cond_false] at hK;have ⟨hd,hK⟩:=ob hK;cases hp:s7 ops.toList (c.ord id) with
   |none=>grind
   |some l=>simp only [hp] at hK;exact RR (hD.2.1 id ops l hd hp) h hK ND
 |seq x y ihx ihy=>
  intro R _ r Z e st a w K Q h hK hQ;refine wp_seq (ihx h hK ?_);intro n e1 aZ a1 w1 h1 t1 xw;by_cases hn:n=0
  .subst hn;exact ihy h1 xw (λn e2 eG a2 w2 h2 t2 EP=>hQ n e2 eG a2 w2 h2 (t1.trans t2) EP)
  .rw [RS hn];have:AS n 0=false:=by rw [iy];simp [hn]
   grind
 |cond x y z ihy ihz=>
  intro R _ r Z e st a w K Q h hK hQ;simp only [pT] at hK;have ⟨hx,_⟩:=h.eval x;split at hK
  .rename_i v hv;rw [hv] at hx;have hxv:=We hx;refine wp_cond hxv ?_;cases hj:bL (mX y) 0&&bL (mX z) 0 with
   |false=>
    simp only [hj,cond_false] at hK;cases v with
    |true=>exact ihy h hK hQ
    |false=>exact ihz h hK hQ
   |true=>
    simp only [hj,cond_true] at hK;generalize hh:c.ft ((gp (.seq y z)).getD 0)=hn at hK;have ⟨Zi,e1,e2,aZ,eG,h1,t1,hφ,hk,j1,j2,jb,oM,hK⟩:=He h hK;have ⟨⟨n,vs⟩,hv,hK⟩:=mE hK;have hK:=WG hK;have fin: ∀n' e3 mr a3 w3,bT c Zi e3 mr a3 w3->Trans Zi.In e1.φ w e3.φ w3->eI mr [] (hn.ex n') (λvs=>some (n',vs))=some (n,vs)->Q (CB n') a3 w3:=by
     intro n' e3 mr a3 w3 h3 t3 hv3;obtain ⟨ms,ht,Tv⟩:=sb hv3;cases Tv;have t3':Trans Zi.In e2.φ w e3.φ w3:=by rw [hφ];exact t3
     have jl:=j1.later t3' h3.mj h3.defers.1 h3.size h3.defers.2.2.2;obtain ⟨s1,s2,s3⟩:=Tt (hn:=hn) (e:=n);obtain ⟨e5,st5,g1,g2,g3⟩:=Hf jl h3 rfl ⟨s1,s2⟩ (s3 oM) ht hK;refine hQ n e5 st5 a3 w3 g1 ?_ g3;rw [g2];exact t1.trans (t3.sup jb)
    cases v with
    |true=>exact ihy h1 hv fin
    |false=>exact ihz h1 hv fin
  .simp at hK
 |block id b ih=>
  intro R _ r Z e st a w K Q h hK hQ;refine wp_block (ih h hK ?_);intro n e1 aZ a1 w1 h1 t1 xw;by_cases hn:n=id+2
  .subst hn;simp at xw;grind [CB,Exit.inBlock]
  .simp only [iy,hn,decide_false,cond_false] at xw;have:=hQ n e1 aZ a1 w1 h1 t1 xw;match n,hn,this with
   |0,_,this=>exact this
   |1,_,this=>exact this
   |i+2,hn,this=>grind [CB,Exit.inBlock]
 |loop b ih=>
  intro R _ r Z e st a w K Q h hK hQ;simp only [pT] at hK;generalize hh:c.eW ((gp b).getD 0)=hn at hK;have ⟨Zi,e1,e2,aZ,eG,h1,t1,hφ,hk,j1,j2,jb,oM,hK⟩:=He h hK;have ⟨vs,ht,hK⟩:=sb hK;have ⟨⟨n,ms⟩,hl,hK⟩:=mE hK;have ⟨k,Lw⟩:=adt hl;have hK:=WG hK;refine wp_loop_rounds k ?_;have key: ∀(k:Nat) (vs:List MV) (e2 e3:Env) (mr:St) (a3:Act) (w3:World),bT c Zi e3 mr a3 w3->e3.φ=e2.φ->TO mr [] hn.outs vs->za c Z Zi e2 (FF st eG) hn a3 w3->za c Zi Zi e2 eG hn a3 w3->Trans Z.In e.φ w e2.φ w3-> iter (λms=>qm eG hn.outs ms λst=>pT c b (Sum (List MV) (Nat×List MV)) st λe st=>bif AS e 0 then eI st [] hn.outs λvs=>some (.inl vs) else eI st [] (hn.ex e) λvs=>some (.inr (e,vs))) k vs=some (n,ms)->Code.rounds P b Q k a3 w3:=by
   intro k;induction k with
   |zero=>grind [iter]
   |succ k ihk=>
    intro vs e2 e3 mr a3 w3 h3 hφ3 ht3 j1 j2 t3 hi;simp only [iter] at hi;have ⟨s1,s2,s3⟩:=ahe (hn:=hn);rw [rounds_succ];have go: ∀(res:Sum (List MV) (Nat×List MV)),(qm eG hn.outs vs λst=>pT c b (Sum (List MV) (Nat×List MV)) st λe st=>
     bif AS e 0 then eI st [] hn.outs λvs=>some (.inl vs) else eI st [] (hn.ex e) λvs=>some (.inr (e,vs)))=some res->
     (∀Wi,res= .inl Wi->iter (λms=>qm eG hn.outs ms λst=>pT c b (Sum (List MV) (Nat×List MV)) st λe st=>bif AS e 0 then eI st [] hn.outs λvs=>some (.inl vs) else eI st [] (hn.ex e) λvs=>some (.inr (e,vs))) k Wi=some (n,ms))->
     (∀q,res= .inr q->q=(n,ms))->b.wp P (Exit.then (Code.rounds P b Q k) Q) a3 w3:=by
     intro res qh hl hr;obtain ⟨e5,st5,g1,g2,g3⟩:=Hf j2 h3 hφ3 ⟨s1,s2⟩ (s3 oM) ht3 qh;refine ih g1 g3 ?_;intro n' e6 st6 a6 w6 h6 t6 hK6;have t6':Trans Zi.In e2.φ w3 e6.φ w6:=by rw [<-g2];exact t6
     have jl1:=j1.later t6' h6.mj h6.defers.1 h6.size h6.defers.2.2.2;have jl2:=j2.later t6' h6.mj h6.defers.1 h6.size h6.defers.2.2.2;by_cases hn0:n'=0
     .subst hn0;have ⟨Wi,ht6,hv6⟩:=sb hK6;cases hv6;exact ihk Wi {e2 with φ:=e6.φ} e6 st6 a6 w6 h6 rfl ht6 jl1 jl2 (t3.trans (t6'.sup jb)) (hl Wi rfl)
     .rw [RS hn0];have:AS n' 0=false:=by rw [iy];simp [hn0]
      simp only [this,cond_false] at hK6;have ⟨Wi,ht6,hv6⟩:=sb hK6;cases hv6;cases hr _ rfl;have ⟨x1,x2,x3⟩:=Tt (hn:=hn) (e:=n);have ⟨e7,st7,q1,q2,q3⟩:=Hf jl1 h6 rfl ⟨x1,x2⟩ (x3 oM) ht6 hK;refine hQ n e7 st7 a6 w6 q1 ?_ q3;rw [q2];exact t3.trans (t6'.sup jb)
    grind
  grind
 |_=>grind [pT]
def CC {ts:List Nat}: ∀{n:Nat} {vs:List Value} {ms:List MV} {K:Fr->List MV->Option R},bj e.key e.φ vs ms->FH c ts n ms K=some r-> ∃fr rest Ak Hg,K fr rest=some r/\vs=Ak++Hg/\Ak.length=ts.length/\bj e.key e.φ Hg rest/\aS fr=akO n ts.length/\ (∀p∈fr,dP p.2=false/\cY p.2=false/\ ∃v,Ak[p.1-n]? =some v/\ai e v p.2):=by
 induction ts with
 |nil=>intro n vs ms K h hK;exact ⟨[],ms,[],vs,hK,rfl,rfl,h,rfl,abu⟩
 |cons t ts ih=>
  intro n vs ms K h hK;simp only [FH] at hK;cases hI:c.tv t with
  |none=>grind
  |some I=>
   simp only [hI] at hK;cases ms with
   |nil=>grind [gC]
   |cons m ms=>
    simp only [gC] at hK;obtain ⟨v,u,rfl,h1,h2⟩:=h;have ⟨s,g1,g2,hK⟩:=An h1 hK;obtain ⟨fr,rest,Ak,Hg,hK,rfl,q1,q2,q3,q4⟩:=ih h2 hK;refine ⟨(n,s)::fr,rest,v::Ak,Hg,hK,rfl,by simp [q1],q2,?_,?_⟩
    .grind [aS,afL,akw]
    .intro p hp;rcases AI.1 hp with rfl|hp
     .refine ⟨?_,?_,v,abu,g1⟩
      .cases s<;>simp [G3] at g2<;>rfl
      .cases s<;>simp [G3] at g2<;>rfl
     .have hk:p.1∈aS fr:=afK.2 ⟨p,hp,rfl⟩;grind
def RT {Ni:List (List Kd)}: ∀{n:Nat} {vs:List Value} {ms:List MV} {K:Fr->Option R},bj e.key e.φ vs ms->Ze Ni n ms K=some r-> ∃fr,K fr=some r/\vs.length=Ni.length/\aS fr=akO n Ni.length/\ (∀p∈fr,dP p.2=false/\(∀cs,p.2≠ .box cs)/\ ∃v,vs[p.1-n]? =some v/\ai e v p.2):=by
 induction Ni with
 |nil=>
  intro n vs ms K h hK;cases ms with
  |nil=>cases h;exact ⟨[],hK,rfl,rfl,abu⟩
  |cons m ms=>grind [Ze,gN]
 |cons ks Ni ih=>
  intro n vs ms K h hK;cases ms with
  |nil=>grind [Ze,gC]
  |cons m ms=>
   simp only [Ze,gC] at hK;obtain ⟨v,u,rfl,h1,h2⟩:=h;unfold gP at hK;split at hK
   .rename_i cs;have ⟨_,h1⟩:=h1;have ⟨bg,off,us,hv,hr,hφ⟩: ∃bg off us,v= .pointer (some ⟨bg,off,none⟩)/\il e.key e.φ us cs/\ ∀j,j<us.length->e.φ bg (off+j)=us[j]? :=by
     generalize EN:[v]=ws at h1;cases h1 with
     |rp bg off us _ hr hφ=>grind
    have ⟨ls,Qn,hK⟩:=uT (e:=e) (vs:=us) hK;have ⟨fr,hK,q1,q3,q4⟩:=ih h2 hK;refine ⟨(n,.MM ls)::fr,hK,by simp [q1],?_,?_⟩
    .grind [aS,afL,akw]
    .intro p hp;rcases AI.1 hp with rfl|hp
     .refine ⟨rfl,(by grind),v,abu,?_⟩;exact ⟨bg,off,us,hv,Qn.rep hr,Qn.pur,hφ⟩
     .have hk:p.1∈aS fr:=afK.2 ⟨p,hp,rfl⟩;grind
   .simp at hK
theorem CD {r:Fr}{t:Nat}(ht:t∈aS r):(t,au r t)∈r:=by
 induction r with
 |nil=>grind [aS]
 |cons p r ih=>
  have ⟨k,x⟩:=p;simp only [au,iy];by_cases h:k=t
  .simp [h]
  .simp only [h,decide_false,cond_false];simp only [aS,aks,AI] at ht;exact aeY _ (ih (ht.resolve_left (λe=>h e.symm)))
def gu (tmps:Array Value):ResultVar->Sem Value
 | .tmp t=>pure (tmps.getD t undef)
 | .cell a t=>do loadVar t (<-asAddr (tmps.getD a undef))
def adw {rs:List ResultVar}(hT:iz P c.ti): ∀{e:Env} {st:St} {K:List MV->Option R},bT c Z e st a w->Qw c st none rs K=some r-> ∃e' cj ms vs,bT c Z e' cj a w/\Ext Z.In e e'/\(rs.mapM (gu a.tmps)).run P w= .ok vs w/\bj e'.key e'.φ vs ms/\K ms=some r:=by
 induction rs with
 |nil=>intro e st K h hK;exact ⟨e,st,[],[],h,.refl _ _,abu,rfl,hK⟩
 |cons x rs ih=>
  intro e st K h hK;have go: ∀(s:Slot) (v:Value),ai e v s->(gu a.tmps x).run P w= .ok v w->(pD st s λm st=>Qw c st none rs λms=>K (m::ms))=some r-> ∃e' cj ms vs,bT c Z e' cj a w/\Ext Z.In e e'/\((x::rs).mapM (gu a.tmps)).run P w= .ok vs w/\bj e'.key e'.φ vs ms/\K ms=some r:=by
   intro s v hs bU hK;obtain ⟨e1,aZ,m,h1,h2,h3,h4,hK⟩:=nj h hs hK;obtain ⟨e2,eG,ms,vs,q1,q2,q3,q4,hK⟩:=ih h1 hK;refine ⟨e2,eG,m::ms,v::vs,q1,h2.trans q2,?_,⟨v,vs,rfl,?_,q4⟩,hK⟩
   .simp_all
   .have:=h4.mono q2.on.φ;grind [q2.on.key]
  simp only [Qw] at hK;cases x with
  |tmp t=>
   simp only at hK;split at hK
   .have ⟨e1,aZ,ns,h1,h2,h3,hK,h5⟩:=vS h hK;cases ns with
    |nil=>cases hK
    |cons m ns=>
    cases ns with
    |cons=>cases hK
    |nil=>
    have ⟨e2,eG,ms,vs,q1,q2,q3,q4,hK⟩:=ih h1 hK;refine ⟨e2,eG,m::ms,a.tmps.getD t undef::vs,q1,h2.trans q2,?_,⟨_,vs,rfl,?_,q4⟩,hK⟩
    .have:(gu a.tmps (.tmp t)).run P w= .ok (a.tmps.getD t undef) w:=rfl;simp_all
    .have hm:=h5 m abu;generalize hv:List.map a.eval [.tmp t]=us at h3;cases h3 with
     |cons v1 _ Ak _ g1 g2=>
     cases g2;rw [akD] at hv;subst hv;have g1:=g1.mono q2.on.φ;rw [<-q2.on.key] at g1;cases m<;>first|exact ⟨rfl,g1⟩|grind [MV.one]
   have hs:=h.slot t;by_cases hb: ∃cs,au st.fr t= .box cs
   .grind [pD]
   .refine go (au st.fr t) (a.tmps.getD t undef) ?_ rfl hK;generalize au st.fr t=s at hs hb;cases s<;>first|exact hs|grind
  |cell b t=>
   simp only at hK;have hs:=h.slot b;split at hK
   .rename_i I cs hI hb;have ⟨S9,VL⟩:=a8 hI;rw [hb] at hs;have ⟨hv,Mg⟩:=hs;cases Ly:fU cs||DN b with
    |true=>grind
    |false=>
    have ⟨IQ,hpb⟩:=BY.1 Ly;simp only [Ly,cond_false] at hK;have hv:=hv.1 hpb;rw [yy IQ] at hv;have ⟨arr,T,cD,rQ⟩:=Mg.cells IQ;have hm:w.rangeAt (e.B b) 0 arr.toList:=by intro j v hj;rw [agK,cell_of cD];simpa using hj
    have ⟨v,s,h1,h2,h3,h4⟩:=jO (P:=P) (st:=st) (s:= .skip) (hT t I S9) VL rQ hm hK;grind [gu,asAddr,akB,akn]
   .simp at hK
def RU {rs:List ResultVar}(hT:iz P c.ti)(h:bT c Z e st a w): ∀{K:List MV->Option R},V4 c st rs K=some r-> ∃ms vs,(rs.mapM (gu a.tmps)).run P w= .ok vs w/\bj e.key e.φ vs ms/\ms.length=rs.length/\K ms=some r:=by
 induction rs with
 |nil=>intro K hK;exact ⟨[],[],abu,rfl,rfl,hK⟩
 |cons x rs ih=>
  intro K hK;have go: ∀(s:Slot) (v:Value),ai e v s->(gu a.tmps x).run P w= .ok v w->(match s with
   | .sc (.p m)=>V4 c st rs λms=>K (m::ms)
   |_=>none)=some r-> ∃ms vs,((x::rs).mapM (gu a.tmps)).run P w= .ok vs w/\bj e.key e.φ vs ms/\ms.length=(x::rs).length/\K ms=some r:=by
   intro s v hs bU hK;split at hK
   .rename_i m;have ⟨ms,vs,q1,q2,q3,hK⟩:=ih hK;have ⟨g1,g2⟩:m.one=true/\jI e.key e.φ [v] m:=hs;exact ⟨m::ms,v::vs,by simp_all,⟨v,vs,rfl,by cases m<;>simp [MV.one] at g1<;>exact ⟨rfl,g2⟩,q2⟩,by simp [q3],hK⟩
   .cases hK
  simp only [V4] at hK;cases x with
  |tmp t=>
   have hs:=h.slot t;by_cases hb: ∃cs,au st.fr t= .box cs
   .grind
   .refine go (au st.fr t) (a.tmps.getD t undef) ?_ rfl hK;generalize au st.fr t=s at hs hb;cases s<;>first|exact hs|grind
  |cell b t=>
   simp only at hK;have hs:=h.slot b;split at hK
   .rename_i I cs hI hb;have ⟨S9,VL⟩:=a8 hI;rw [hb] at hs;have ⟨hv,Mg⟩:=hs;cases Ly:fU cs||DN b with
    |true=>grind
    |false=>
    have ⟨IQ,hpb⟩:=BY.1 Ly;simp only [Ly,cond_false] at hK;have hv:=hv.1 hpb;rw [yy IQ] at hv;have ⟨arr,T,cD,rQ⟩:=Mg.cells IQ;have hm:w.rangeAt (e.B b) 0 arr.toList:=by intro j v hj;rw [agK,cell_of cD];simpa using hj
    have ⟨v,s,h1,h2,h3,h4⟩:=jO (P:=P) (st:=st) (s:= .skip) (hT t I S9) VL rQ hm hK;grind [gu,asAddr,akB,akn]
   .simp at hK
def adx {x:ResultVar}{rs:List ResultVar}{ty:Nat}{I:TI}{K:List MV->Option R}(hI:c.tv ty=some I)(hT:iz P c.ti)(Fm:Z.cV=[])(h:bT c Z e st a w)(hK:Qw c st (some ty) (x::rs) K=some r): ∃v xs us ms,((x::rs).mapM (gu a.tmps)).run P w= .ok (v::us) w/\ch c Z.nc e w v ⟨ty,false,xs⟩/\bj e.key e.φ us ms/\ms.length=rs.length/\K (.fresh xs::ms)=some r:=by
 have ⟨ng,hc⟩:=a8 hI;have go: ∀(s:Slot) (v:Value),ai e v s->(gu a.tmps x).run P w= .ok v w->(match s with
  | .sc (.own f)=>(match aN st.aT f with|some o=>bif o.iw||!AS o.ty ty then none else V4 c st rs λms=>K (.fresh o.xs::ms)|none=>none)
  | .sc .nil=>V4 c st rs λms=>K (.fresh []::ms)
  |_=>none)=some r-> ∃v xs us ms,((x::rs).mapM (gu a.tmps)).run P w= .ok (v::us) w/\ch c Z.nc e w v ⟨ty,false,xs⟩/\bj e.key e.φ us ms/\ms.length=rs.length/\K (.fresh xs::ms)=some r:=by
  intro s v hs bU hK;have hr: ∀{us:List Value},(rs.mapM (gu a.tmps)).run P w= .ok us w->((x::rs).mapM (gu a.tmps)).run P w= .ok (v::us) w:=(by simp_all)
  split at hK
  .rename_i f;cases hf:aN st.aT f with
   |none=>grind
   |some o=>
    simp only [hf] at hK;have ⟨hb,hK⟩:=oz hK;have ⟨ms,us,q1,q2,q3,hK⟩:=RU hT h hK;have oM:o.ty=ty:=(by simp_all)
    have ⟨hv,_⟩:=uS h hs hf;have ⟨J,cells,k1,k2,k3,k4,k5⟩:=(h.jC f o hf).row;refine ⟨v,o.xs,us,ms,hr q1,⟨J,cells,by grind,k2,by grind,k4,λbg hb=> ?_⟩,q2,q3,hK⟩;rw [hv] at hb;have ⟨q1,q2,_⟩:=k5 bg hb;refine ⟨YS q1 (by grind),λoff u hu=> ?_,λhc=>hc.elim⟩;grind
  .have ⟨ms,us,q1,q2,q3,hK⟩:=RU hT h hK;have hs:[v]=[alv none 0 0]:=hs;simp at hs;refine ⟨v,[],us,ms,hr q1,⟨I,[],ng,hc,by rw [hs];exact World.ownsRow_nil w 0 ty I.size,rfl,λbg hb=> ?_⟩,q2,q3,hK⟩;grind [IT]
  .cases hK
 simp only [Qw] at hK;cases x with
 |tmp t=>
  have hs:=h.slot t;by_cases hb: ∃cs,au st.fr t= .box cs
  .grind
  .refine go (au st.fr t) (a.tmps.getD t undef) ?_ rfl hK;generalize au st.fr t=s at hs hb;cases s<;>first|exact hs|grind
 |cell b t=>
  simp only at hK;have hs:=h.slot b;split at hK
  .rename_i I cs hI hb;have ⟨S9,VL⟩:=a8 hI;rw [hb] at hs;have ⟨hv,Mg⟩:=hs;cases Ly:fU cs||DN b with
   |true=>grind
   |false=>
   have ⟨IQ,hpb⟩:=BY.1 Ly;simp only [Ly,cond_false] at hK;have hv:=hv.1 hpb;rw [yy IQ] at hv;have ⟨arr,T,cD,rQ⟩:=Mg.cells IQ;have hm:w.rangeAt (e.B b) 0 arr.toList:=by intro j v hj;rw [agK,cell_of cD];simpa using hj
   have ⟨v,s,h1,h2,h3,h4⟩:=jO (P:=P) (st:=st) (s:= .skip) (hT t I S9) VL rQ hm hK;grind [gu,asAddr,akB,akn]
  .simp at hK
theorem WJ {X:Code->St->(Nat->St->Option MV)->Option MV}(hX: ∀(b:Code){r:MV}{Z:bC}{e:Env}{st:St}{a:Act}{w:World}{K:Nat->St->Option MV}{Q:Exit->Act->World->Prop},bT c Z e st a w->X b st K=some r-> (∀n e' cj a' w',bT c Z e' cj a' w'->Trans Z.In e.φ w e'.φ w'->K n cj=some r->Q (CB n) a' w')->b.wp P Q a w){f:FuncId}{fn:Func}{m:MV}{b:Code}{Z:Nat->Prop} {φ:Ph}{e:Env}{st:St}{a:Act}{w:World}{vs:List Value}(hG:Good P c){fresh:Option Nat}(B1: ∀ty,fresh=some ty->ty=c.mV (c.key f)/\1<=fn.results.toList.length/\ ∃I,c.tv ty=some I)(nm:bT c (bC.plain Z) e st a w) (hφ:e.φ=φ)(hb:X b st (λe st=>bif ahs e 1 then Qw c st fresh fn.results.toList λms=>(match ms with|[m]=>some m|ms=>some (.cw ms)) else none)=some m): b.wp P (bodyPost P fn λe W=> ∃v,e= .returned v/\ ∃φ',Trans Z φ w φ' W/\oN φ' W/\vT c Z φ' W (c.key f) vs v m) a w:=by
 subst hφ;refine hX b nm hb ?_;intro n e' cj a' w' h' t' hK;have ⟨hle,hK⟩:=ob hK;have aza: ∃φ' us,Trans Z e'.φ w' φ' w'/\oN φ' w'/\(fn.results.toList.mapM (gu a'.tmps)).run P w'= .ok us w'/\iG c Z φ' w' (c.key f) (if h:us.toArray.size=1 then us.toArray[0] else .tuple us.toArray) m:=by
  cases fresh with
  |some ty=>
   have ⟨h1,h2,I,h3⟩:=B1 ty rfl;match hrs:fn.results.toList,h2 with
   |x::rs,_=>
    rw [hrs] at hK;have ⟨v,xs,us,ms,g1,g2,g4,g5,g3⟩:=adx (P:=P) h3 hG.ti rfl h' hK;have g2':ch c (bC.plain Z) (np c.key e'.φ) w' v ⟨c.mV (c.key f),false,xs⟩:=by rw [<-h1];exact g2.env (e':=np c.key e'.φ) h'.key.symm rfl
    rw [h'.key] at g4;refine ⟨e'.φ,v::us,.refl _ _ _,h'.mj,g1,?_⟩;cases ms with
    |nil=>cases g3;have:us=[]:=g4;subst this;exact g2'
    |cons m1 ms=>cases g3;obtain ⟨u1,us1,rfl,g6,g7⟩:=g4;exact ⟨v,u1::us1,rfl,g2',u1,us1,rfl,g6,g7⟩
  |none=>
  have ⟨e2,eG,ns,us,q1,q2,q3,q4,hK⟩:=adw (P:=P) hG.ti h' hK;refine ⟨e2.φ,us,q2.tr,q1.mj,q3,?_⟩;have Lw:e2.key=c.key:=q1.key;rw [Lw] at q4;split at hK
  .cases hK;obtain ⟨v,u,rfl,g1,g2⟩:=q4;subst g2;cases m<;>first|exact g1|exact absurd g1.1 (by simp [MV.one])
  .cases hK;have eR:us.toArray.size≠1:=by
    intro h1;cases us with
    |nil=>simp at h1
    |cons v us=>
     cases us with
     |cons=>simp at h1
     |nil=>
      cases ns with
      |nil=>cases q4
      |cons m1 ns1=>
       have ⟨v',u',h2,g1,g2⟩:=q4;obtain ⟨rfl,rfl⟩:=h2;cases ns1 with
       |nil=>grind
       |cons=>have ⟨_,_,h3,_⟩:=g2;simp at h3
   rw [dif_neg eR];exact QF.args (by grind)
 have ⟨φ2,us,p1,p2,q3,p4⟩:=aza;have qh:(results fn a'.tmps).run P w'= .ok (if h:us.toArray.size=1 then us.toArray[0] else .tuple us.toArray) w':=by
  have hm:(fn.results.mapM (gu a'.tmps)).run P w'= .ok us.toArray w':=by rw [ako];simp [q3]
  have hm2:results fn a'.tmps=(do let vs<-fn.results.mapM (gu a'.tmps);pure (if h:vs.size=1 then vs[0] else .tuple vs)):=by unfold results;congr 1
  rw [hm2];simp [hm]
 have WK: ∃φ',Trans Z e.φ w φ' w'/\oN φ' w'/\iG c Z φ' w' (c.key f) (if h:us.toArray.size=1 then us.toArray[0] else .tuple us.toArray) m:=⟨φ2,t'.trans p1,p2,p4⟩
 match n,hle with
 |0,_=>exact ⟨h'.defers.1,_,qh,_,rfl,WK.imp λφ' h=>⟨h.1,h.2.1,.plain h.2.2⟩⟩
 |1,_=>exact ⟨h'.defers.1,_,qh,_,rfl,WK.imp λφ' h=>⟨h.1,h.2.1,.plain h.2.2⟩⟩
 |n+2,hle=>simp_all
theorem ahf {X:Code->St->(Nat->St->Option MV)->Option MV}(hX: ∀(b:Code){r:MV}{Z:bC}{e:Env}{st:St}{a:Act}{w:World}{K:Nat->St->Option MV}{Q:Exit->Act->World->Prop},bT c Z e st a w->X b st K=some r-> (∀n e' cj a' w',bT c Z e' cj a' w'->Trans Z.In e.φ w e'.φ w'->K n cj=some r->Q (CB n) a' w')->b.wp P Q a w)
 {f:FuncId} {fn:Func} {aV:List (List Kd)} {ms:List MV} {m:MV} (hG:Good P c) (hf:P.funcs[f]? =some fn) (zd:(fn.name== "runtime.NumGoroutine")=false)
 (hn:c.n=fn.ntmps) (yS:fn.params.size+aV.length<=fn.ntmps) (hg:c.cS (c.key f)=false) {fresh:Option Nat} (B1: ∀ty,fresh=some ty->ty=c.mV (c.key f)/\1<=fn.results.toList.length/\ ∃I,c.tv ty=some I) (hb:agd X c aV fresh fn ms=some m):dG P c f ms m:=by
 intro φ w Z vs hz dx iA;simp only [cR,hg,afw,if_false] at dx;unfold agd at hb;cases jP:fn.body with
 |none=>grind
 |some b=>
  simp only [jP] at hb;have bU:(callFunc f vs.toArray).run P w= .ok (.enter f vs.toArray) w:=by
   have Me: ¬fn.name= "runtime.NumGoroutine" :=by simpa using zd
   simp [callFunc,hf,Me,jP]
  unfold dF;rw [bU];refine calls_of_wp hf jP ?_;let e:Env:=np c.key φ;have dx:bj e.key e.φ vs ms:=dx;obtain ⟨fr,rest,Ak,Hg,hb,rfl,l1,a2,k1,s1⟩:=CC dx hb;obtain ⟨z8,hb,l2,k2,s2⟩:=RT a2 hb;simp only [Ae] at hb;have htn:(Ak++Hg).toArray.size=fn.params.size+aV.length:=by simp [l1,l2]
  let a:Act:={tmps:=(Ak++Hg).toArray++ad1 (fn.ntmps-(Ak++Hg).toArray.size) undef,defers:=[]}
  have Qz: ∀(t:Nat) (v:Value),(Ak++Hg)[t]? =some v->a.tmps.getD t undef=v:=by
   intro t v ht;have dX:t<(Ak++Hg).length:=(by grind)
   rw [ac4];show (((Ak++Hg).toArray++ad1 _ undef)[t]?).getD undef=v;rw [afJ (by grind)];simp only [akG];rw [ht];rfl
  have NE: ∀t,dP (au (fr++z8) t)=false/\(∀cs,au (fr++z8) t≠ .box cs)/\ai e (a.tmps.getD t undef) (au (fr++z8) t):=by
   intro t;rw [Cr];by_cases h1:t∈aS fr
   .simp only [h1,if_true];have ⟨g1,g2,v,g3,g4⟩:=s1 _ (CD h1);refine ⟨g1,?_,?_⟩
    .grind [cY]
    grind
   .simp only [h1,if_false];by_cases h2:t∈aS z8
    .have ⟨g1,g2,v,g3,g4⟩:=s2 _ (CD h2);grind
    .rw [r8 _ _ h2];exact ⟨rfl,(by grind),by simp [ai]⟩
  have nm:bT c (bC.plain Z) e ⟨[],[],fr++z8,[]⟩ a w:=by
   refine ⟨⟨rfl,rfl,rfl,(by grind [bC.plain])⟩,?_,rfl,rfl,?_,?_,(by grind [zb]),(by grind [aN]),(by grind),(by grind),(by grind [aN]),iA,hz⟩
   .grind
   .have:aS (fr++z8)=aS fr++aS z8:=by simp [aS]
    grind [List.nodup_range']
   .intro t;have ⟨g1,g2,g3⟩:=NE t;generalize au (fr++z8) t=s at g1 g2 g3;cases s<;>first|exact g3|grind
  exact WJ hX hG B1 nm rfl hb
def alx {f:FuncId}{fn:Func}{aV:List (List Kd)}{ms:List MV}{m:MV}(hG:Good P c)(hD:WI P c)(hf:P.funcs[f]? =some fn)(zd:(fn.name== "runtime.NumGoroutine")=false)
 (hn:c.n=fn.ntmps) (yS:fn.params.size+aV.length<=fn.ntmps) (hg:c.cS (c.key f)=false) {fresh:Option Nat} (B1: ∀ty,fresh=some ty->ty=c.mV (c.key f)/\1<=fn.results.toList.length/\ ∃I,c.tv ty=some I) (hb:rN c aV fresh fn ms=some m):dG P c f ms m:=
 ahf (by grind [Tw]) hG hf zd hn yS hg B1 hb
def ady {rs:List ResultVar}(hT:iz P c.ti): ∀{e:Env} {st:St} {K:List MV->St->Option R},bT c Z e st a w->ac0 c st rs K=some r-> ∃e' cj ms vs,bT c Z e' cj a w/\Ext Z.In e e'/\(rs.mapM (gu a.tmps)).run P w= .ok vs w/\bj e'.key e'.φ vs ms/\K ms cj=some r:=by
 induction rs with
 |nil=>intro e st K h hK;exact ⟨e,st,[],[],h,.refl _ _,abu,rfl,hK⟩
 |cons x rs ih=>
  intro e st K h hK;have go: ∀(s:Slot) (v:Value),ai e v s->(gu a.tmps x).run P w= .ok v w->(pD st s λm st=>ac0 c st rs λms st=>K (m::ms) st)=some r-> ∃e' cj ms vs,bT c Z e' cj a w/\Ext Z.In e e'/\((x::rs).mapM (gu a.tmps)).run P w= .ok vs w/\bj e'.key e'.φ vs ms/\K ms cj=some r:=by
   intro s v hs bU hK;obtain ⟨e1,aZ,m,h1,h2,h3,h4,hK⟩:=nj h hs hK;obtain ⟨e2,eG,ms,vs,q1,q2,q3,q4,hK⟩:=ih h1 hK;refine ⟨e2,eG,m::ms,v::vs,q1,h2.trans q2,?_,⟨v,vs,rfl,?_,q4⟩,hK⟩
   .simp_all
   .have:=h4.mono q2.on.φ;grind [q2.on.key]
  simp only [ac0] at hK;cases x with
  |tmp t=>
   have hs:=h.slot t;by_cases hb: ∃cs,au st.fr t= .box cs
   .grind [pD]
   .refine go (au st.fr t) (a.tmps.getD t undef) ?_ rfl hK;generalize au st.fr t=s at hs hb;cases s<;>first|exact hs|grind
  |cell b t=>
   simp only at hK;have hs:=h.slot b;split at hK
   .rename_i I cs hI hb;have ⟨S9,VL⟩:=a8 hI;rw [hb] at hs;have ⟨hv,Mg⟩:=hs;cases Ly:fU cs||DN b with
    |true=>grind
    |false=>
    have ⟨IQ,hpb⟩:=BY.1 Ly;simp only [Ly,cond_false] at hK;have hv:=hv.1 hpb;rw [yy IQ] at hv;have ⟨arr,T,cD,rQ⟩:=Mg.cells IQ;have hm:w.rangeAt (e.B b) 0 arr.toList:=by intro j v hj;rw [agK,cell_of cD];simpa using hj
    have ⟨v,s,h1,h2,h3,h4⟩:=jO (P:=P) (st:=st) (s:= .skip) (hT t I S9) VL rQ hm hK;grind [gu,asAddr,akB,akn]
   .simp at hK
def NF {key:Nat->Nat} {φ:Ph}{v:Value}{m:MV}(h:cQ key φ v (.cell m)):False:=by have:=h.1;grind [MV.one]
def aum (off pos:Nat):DN (1000000+off *1000+pos)=true:=agV aab
theorem ahg {f pos:Nat}{ks ko:List LK}{fn:Func}{aV:List (List Kd)}{ms:List MV}{m:MV}(hG:Good P c)(hD:WI P c)(hf:P.funcs[f]? =some fn)(zd:(fn.name== "runtime.NumGoroutine")=false)
 (hn:c.n=fn.ntmps) (hnp:fn.ntmps<=1000000) (yS:fn.params.size+aV.length<=fn.ntmps) (hg:c.cS (c.key f)=true) (At:c.sig (c.key f)=some (pos,ks,ko)) (hb:KB c aV pos ks ko fn ms=some m):dG P c f ms m:=by
 intro φ w Z vs hz dx iA;unfold KB at hb;cases jP:fn.body with
 |none=>simp [jP] at hb
 |some b=>
 simp only [jP] at hb;split at hb;rotate_left
 .simp at hb
 rename_i b' off ls EM Ly;cases EM;cases rT:!iR c ks||!iR c ko||!ahs pos 999 with
 |true=>simp [rT] at hb
 |false=>
 simp only [rT,cond_false] at hb;simp only [BY,ajW] at rT;obtain ⟨⟨_,oM⟩,gq⟩:=rT;have gq:=afH gq;simp only [cR,hg,if_true] at dx;have hC:aoc c Z φ w (c.key f) vs ms:=by
  rcases dx with ⟨v0,v1,v2,xs,m1,ys,_,rfl,_,h4,_⟩|⟨v0,v1,v2,xs,m1,m2,_,rfl,_,_,h4,h5⟩|h
  .exfalso;rcases pos with _|_|_|pos<;>simp at Ly;subst Ly;exact NF h4
  .exfalso;rcases pos with _|_|_|pos<;>simp at Ly
   .subst Ly;exact NF h4
   .subst Ly;exact NF h5
  .exact h
 obtain ⟨pos',ks',ko',V0,CA,bg,yY,hvp,aqt,ze,qq⟩:=hC;rw [At] at yY;simp only [By,afC] at yY;obtain ⟨rfl,rfl,rfl⟩:=yY;rw [Ly] at aqt;simp only [By,MV.cell.injEq,MV.func.injEq] at aqt;obtain ⟨rfl,rfl⟩:=aqt;obtain ⟨cs,mm,E,arr,T,Jb,cD,hzb,rR,rQ,im,kC⟩:=qq;let e:Env:=⟨c.key,φ,E,λ_=>bg,mm⟩
 have bU:(callFunc f vs.toArray).run P w= .ok (.enter f vs.toArray) w:=by
  have Me: ¬fn.name= "runtime.NumGoroutine" :=by simpa using zd
  simp [callFunc,hf,Me,jP]
 unfold dF;rw [bU];refine calls_of_wp hf jP ?_;have ze:bj e.key e.φ vs (ms.set pos (.rp [])):=ze;obtain ⟨fr,rest,Ak,Hg,hb,rfl,l1,a2,k1,s1⟩:=CC ze hb;have ⟨z8,hb,l2,k2,s2⟩:=RT a2 hb;simp only [Ae] at hb;have ⟨jM,aun,DQ,g1,hb⟩:=nq hb;cases aun with
 |cons=>simp [gN] at hb
 |nil=>
 have Aa:cs=jM/\mm=DQ.aT:=by unfold RJ at Jb;rw [g1] at Jb;simp only [gN,By,afC] at Jb;exact ⟨Jb.1.symm,Jb.2.symm⟩
 have ⟨rfl,hmm⟩:=Aa;rw [<-hmm] at hb;have htn:(Ak++Hg).toArray.size=fn.params.size+aV.length:=by simp [l1,l2]
 let a:Act:={tmps:=(Ak++Hg).toArray++ad1 (fn.ntmps-(Ak++Hg).toArray.size) undef,defers:=[]}
 have Qz: ∀(t:Nat) (v:Value),(Ak++Hg)[t]? =some v->a.tmps.getD t undef=v:=by intro t v ht;have dX:t<(Ak++Hg).length:=(afT.1 ht).1;rw [ac4];show (((Ak++Hg).toArray++ad1 _ undef)[t]?).getD undef=v;rw [afJ (by simpa using dX)];simp only [akG];rw [ht];rfl
 have NE: ∀t,dP (au (fr++z8) t)=false/\(∀cs,au (fr++z8) t≠ .box cs)/\ai e (a.tmps.getD t undef) (au (fr++z8) t):=by
  intro t;rw [Cr];by_cases h1:t∈aS fr
  .simp only [h1,if_true];have ⟨g1,g2,v,g3,g4⟩:=s1 _ (CD h1);refine ⟨g1,?_,?_⟩
   .intro cs hc;simp only [hc,cY] at g2;cases g2
   .rw [Qz t v ?_];exact g4;have dX:t<Ak.length:=(afT.1 g3).1;rw [List.getElem?_append_left dX];exact g3
  .simp only [h1,if_false];by_cases h2:t∈aS z8
   .have ⟨g1,g2,v,g3,g4⟩:=s2 _ (CD h2);refine ⟨g1,g2,?_⟩;rw [Qz t v ?_];exact g4;have hk:=h2;rw [k2,alD] at hk;have IU:fn.params.size=Ak.length:=by rw [l1];simp
    rw [afz aab,<-IU];exact g3
   .rw [r8 _ _ h2];exact ⟨rfl,λcs hc=>(by cases hc),by simp [ai]⟩
 have ⟨q,hq⟩: ∃q,q=1000000+off *1000+pos:=⟨_,rfl⟩
 have hpq:DN q=true:=by rw [hq];exact aum off pos
 have hpo:posOf q=pos:=by rw [hq];unfold posOf;omega
 have hof:VV q=off:=by rw [hq];unfold VV;omega
 rw [<-hq] at hb;let Zc:bC:={bC.plain Z with cX:=[pos],T:=λ_=> .pointer (some ⟨bg,off,none⟩)}
 have auo:a.tmps.getD pos undef= .pointer (some ⟨bg,off,none⟩):=Qz pos _ hvp;have Nw: ∀t,au ((q,Slot.box cs)::(fr++z8)) t=if t=q then .box cs else au (fr++z8) t:=by
  intro t;simp only [au,iy];by_cases htq:t=q
  .subst htq;simp
  .have: ¬q=t:=λh=>htq h.symm;simp [htq,this]
 have ahh:aS (fr++z8)=akO 0 (fn.params.toList.length+aV.length):=by
  have:aS (fr++z8)=aS fr++aS z8:=by simp [aS]
  rw [this,k1,k2];have:=List.range'_append_1 (s:=0) (m:=fn.params.toList.length) (n:=aV.length);simpa using this
 have aop: ∀t ds,au ((q,Slot.box cs)::(fr++z8)) t= .box ds->t=q:=by
  intro t ds ht;rw [Nw] at ht;by_cases htq:t=q
  .exact htq
  .rw [if_neg htq] at ht;exact absurd ht ((NE t).2.1 ds)
 have nm:bT c Zc e ⟨[pos],[],(q,.box cs)::(fr++z8),mm⟩ a w:=by
  refine ⟨⟨rfl,rfl,rfl,λt ht=> ?_⟩,?_,rfl,rfl,?_,?_,?_,λf o ho=> ?_,λt t' cs jM h1 h2 eR=> ?_,λt ds f o h1 ho=> ?_,λf f' o o' k h1 h2 h3 h4=>kC f f' o o' k h1 h2 h3 h4,iA,hz⟩
  .have:t=pos:=by simpa [Zc] using ht
   rw [this];exact auo
  .rw [Array.size_append,Array.size_replicate,htn,hn];omega
  .show (q::aS (fr++z8)).Nodup;rw [ahh];refine agx.2 ⟨λhm=> ?_,List.nodup_range'⟩;rw [alD] at hm;have:fn.params.toList.length=fn.params.size:=abu
   omega
  .intro t;rw [Nw];by_cases htq:t=q
   .rw [if_pos htq,htq];exact ⟨⟨λhp=>(by rw [hpq] at hp;cases hp),λ_=>⟨by rw [hpo];simp [Zc],by rw [hof]⟩⟩,⟨.inr hzb,⟨_,cD,rfl,rQ⟩,rR⟩⟩
   .rw [if_neg htq];have ⟨g1,g2,g3⟩:=NE t;generalize au (fr++z8) t=s at g1 g2 g3;cases s<;>first|exact g3|exact absurd rfl (g2 _)
  .intro t;rw [Nw];by_cases htq:t=q
   .rw [if_pos htq];trivial
   .rw [if_neg htq];exact zb (NE t).1
  .have ⟨I,cells,q1,q2,q3,q4,q5⟩:=(im f o ho).1.row;exact ⟨I,cells,q1,q2,q3,q4,λb hb=>⟨.inr (q5 b hb).1,(q5 b hb).2.1,λhc=>by simp [Zc,bC.fz,bC.plain] at hc⟩⟩
  .exact absurd ((aop t _ h1).trans (aop t' _ h2).symm) eR
  .exact (im f o ho).2
 refine Tw hG hD b nm hb ?_;intro n e' cj a' w' h' t' hK;have ⟨hle,hK⟩:=ob hK;have ⟨e2,eG,ns,us,q1,q2,q3,q4,hK⟩:=ady (P:=P) hG.ti h' hK;split at hK;rotate_left
 .simp at hK
 rename_i IP Nd;cases hm2:fU IP with
 |true=>simp [hm2] at hK
 |false=>
 simp only [hm2,cond_false] at hK;have ⟨outs,ps,ht,hK⟩:=FO hK;simp at hK;have qh:(results fn a'.tmps).run P w'= .ok (if h:us.toArray.size=1 then us.toArray[0] else .tuple us.toArray) w':=by
  have hm:(fn.results.mapM (gu a'.tmps)).run P w'= .ok us.toArray w':=by rw [ako];simp [q3]
  have hm2:results fn a'.tmps=(do let vs<-fn.results.mapM (gu a'.tmps);pure (if h:vs.size=1 then vs[0] else .tuple vs)):=by unfold results;congr 1
  rw [hm2];simp [hm]
 have aup:=q1.slot q;rw [Nd] at aup;have ⟨_,hT⟩:=aup.1.2 hpq;have hB:e2.B q=bg:=by have hT:ags (some ⟨bg,off,none⟩)= .pointer (some ⟨e2.B q,VV q,none⟩):=hT;simp only [amk,By,Addr.mk.injEq] at hT;exact hT.1.symm
 have auq:bL eG.cX q=false:=by
  rw [q1.defers.2.1];cases hh:bL Zc.cX q with
  |false=>rfl
  |true=>
   have:=(bH _ _).1 hh;have:q=pos:=by simpa [Zc] using this
   omega
 have hco:=(Nl q1 Nd hm2 oM ht).wide (Hd q1 Nd auq ht);have Lw:e2.key=c.key:=q1.key;have WK: ∃φ',Trans Z φ w φ' w'/\oN φ' w'/\vT c Z φ' w' (c.key f) (Ak++Hg) (if h:us.toArray.size=1 then us.toArray[0] else .tuple us.toArray) m:=by
  refine ⟨e2.φ,t'.trans q2.tr,q1.mj,?_⟩;rw [Lw] at q4;subst hK;refine ⟨?_,pos,ks,ko,bg,off,At,hvp,by rw [<-hB];exact hco⟩;by_cases hns: ∃m',ns=[m']
  .obtain ⟨m',rfl⟩:=hns;obtain ⟨v,u,rfl,g1,g2⟩:=q4;subst g2;cases m'<;>first|exact g1|exact absurd g1.1 (by simp [MV.one])
  .have hm:atp ns= .cw ns:=by
    cases ns with
    |nil=>rfl
    |cons x l=>
     cases l with
     |nil=>exact absurd ⟨x,rfl⟩ hns
     |cons=>rfl
   have eR:us.toArray.size≠1:=by intro h1;have:=q4.length;rw [List.size_toArray] at h1;rw [h1] at this;obtain ⟨m1,h2⟩:=List.length_eq_one_iff.1 this.symm;exact hns ⟨m1,h2⟩
   rw [hm,dif_neg eR];exact QF.args (by simpa using q4)
 match n,hle with
 |0,_=>exact ⟨h'.defers.1,_,qh,_,rfl,WK⟩
 |1,_=>exact ⟨h'.defers.1,_,qh,_,rfl,WK⟩
 |n+2,hle=>simp [ahs] at hle
end
section
open Go.WideShapes
def Jc (W:World):Ph:=λb o=>W.cell? ⟨b,o,none⟩
def ahi (W:World):oN (Jc W) W:=λb o v h=>h
def Tx (P:Program):List Field->Nat->Nat->Bool
 |[],o,n=>AS o n
 |f::fs,o,n=>AS f.offset o&&Tx P fs (o+P.cellsOf f.type) n
def okT (P:Program):Nat->TypeId->Bool
 |0,_=>false
 |d+1,t=>match P.underlying t with
  |some .bool=>true
  |some (.int _)=>true
  |some .string=>true
  |some (.slice e)=>okT P d e&&ahs 1 (P.cellsOf e)
  |some (.struct fs)=>Tx P fs.toList 0 (P.cellsOf t)&&fs.toList.all λf=>okT P d f.type
  |some (.array n e)=>AS n 32&&(match P.underlying e with|some (.int .u8)=>true|_=>false)&&AS (P.cellsOf e) 1&&AS (P.cellsOf t) 32
  |_=>false
def ME (P:Program)(F:TypeId->List MV->Prop)(e:TypeId)(x:MV):Prop:=match P.underlying e with
 |some (.struct _)=> ∃cs,x= .agg cs/\F e cs
 |_=>F e [x]
def FT (F:TypeId->List MV->Prop):List TypeId->List MV->Prop
 |[],ms=>ms=[]
 |t::ts,ms=> ∃a b,ms=a++b/\F t a/\FT F ts b
def MT (P:Program):Nat->TypeId->List MV->Prop
 |0,_,_=>False
 |d+1,t,ms=>match P.underlying t with
  |some .bool=> ∃b,ms=[.b b]
  |some (.int k)=> ∃n,ms=[.i k n]/\(Lit.int k n).wf=true
  |some .string=> ∃l:List UInt8,ms=[.s l]/\l.length<=maxLen
  |some (.slice e)=> ∃xs,ms=[.list xs]/\xs.length<=maxLen/\ ∀x∈xs,ME P (MT P d) e x
  |some (.struct fs)=>FT (MT P d) (fs.toList.map (·.type)) ms
  |some (.array _ _)=> ∃x:List Int,ms=[.h .u8 30 x]/\x.length=32/\ ∀y∈x,0<=y/\y<=255
  |_=>False
section
variable {H:Type}{enc:TypeId×Value->H}{P:Program}{W:World}{base:Nat}{sp:Nat->Bool}{held:Bool}{key:Nat->Nat}
def il.append {key:Nat->Nat} {φ:Ph}{ms ns:List MV}: ∀{vs us:List Value},il key φ vs ms->il key φ us ns->il key φ (vs++us) (ms++ns):=by
 induction ms with
 |nil=>intro vs us h h';cases h;grind
 |cons m ms ih=>
  intro vs us h h';cases h with
  |cons v _ vs _ h1 h2=>rw [List.append_assoc];exact .cons v m _ _ h1 (ih h2 h')
def il.ahj {key:Nat->Nat} {φ:Ph}{v:Value}{m:MV}(h:jI key φ [v] m):il key φ [v] [m]:=by have:=il.cons [v] m [] [] h .nil;grind
def il.single {key:Nat->Nat} {φ:Ph}{vs:List Value}{m:MV}(h:il key φ vs [m]):jI key φ vs m:=by
 cases h with
 |cons v _ vs _ h1 h2=>cases h2;grind
theorem Jd {a:Addr}{n:Nat}{cs:List Value}(h:W.cells? base a n=some cs):cs.length=n/\ ∀j,j<n->W.cell? (a.add j)=cs[j]? :=by
 unfold World.cells? at h;split at h
 .have hl:=mapM_some_length h;refine ⟨by grind,λj hj=> ?_⟩;exact mapM_some_get h j j (by simp [hj])
 .cases h
def WL {F:TypeId->List MV->Prop}{fuel:Nat}{cs:List Value}: ∀(fs:List Field) (o n:Nat) (xs:List (DataW H×List MemPlace)),Tx P fs o n=true->cs.length=n-> (∀(i:Nat) (f:Field),fs[i]? =some f->DataW.trod enc P W base sp held fuel f.type ((cs.drop f.offset).take (P.cellsOf f.type))=xs[i]?)->xs.length=fs.length-> (∀f∈fs,∀jM x,DataW.trod enc P W base sp held fuel f.type jM=some x-> ∃ms,il key (Jc W) jM ms/\F f.type ms)-> ∃ms,il key (Jc W) (cs.drop o) ms/\FT F (fs.map (·.type)) ms:=by
 intro fs;induction fs with
 |nil=>intro o n xs hc hl _ _ _;have:o=n:=bD hc;subst this;refine ⟨[],?_,rfl⟩;rw [<-hl,List.drop_length];exact .nil
 |cons f fs ih=>
  intro o n xs hc hl hx Zq hF;simp only [Tx,sh] at hc;have ho:=bD hc.1;cases xs with
  |nil=>simp at Zq
  |cons x xs=>have h0:=hx 0 f rfl;obtain ⟨m1,r1,t1⟩:=hF f abu _ x (by simpa using h0);have ⟨m2,r2,t2⟩:=ih (o+P.cellsOf f.type) n xs hc.2 hl (λi g hg=>by have:=hx (i+1) g (by simpa using hg);simpa using this) (by simpa using Zq) (λg hg=>hF g (by simp [hg]));refine ⟨m1++m2,?_,m1,m2,rfl,t1,t2⟩;have:=r1.append r2;grind [afD,afv]
theorem ahk: ∀(fuel D:Nat) (t:TypeId) (cs:List Value) (x:DataW H×List MemPlace),okT P D t=true->DataW.trod enc P W base sp held fuel t cs=some x-> ∃ms,il key (Jc W) cs ms/\MT P fuel t ms:=by
 intro fuel;induction fuel with
 |zero=>simp_all [DataW.trod]
 |succ fuel ih=>
  intro D t cs x hD h;cases D with
  |zero=>grind [okT]
  |succ D=>
   unfold okT at hD;cases hu:P.underlying t with
   |none=>grind
   |some d=>
    cases d<;>simp only [hu] at hD<;>try (cases hD;done)
    case bool=>obtain ⟨b,rfl,_⟩:=DataW.trod_bool hu h;exact ⟨[.b b],.ahj (.b b),by simp only [MT,hu];grind⟩
    case int k=>obtain ⟨n,rfl,_,hw⟩:=DataW.trod_int hu h;exact ⟨[.i k n],.ahj (.i k n),by simp only [MT,hu];grind⟩
    case string=>obtain ⟨s,rfl,_,hw⟩:=DataW.trod_string hu h;exact ⟨[.s s.data.toList],.ahj (.s s),by simp only [MT,hu];simp_all⟩
    case struct fs=>have ⟨xs,n,hn,_,hl,Zq,hx⟩:=DataW.trod_struct hu h;simp only [sh] at hD;have ⟨ms,r1,t1⟩:=WL (F:=MT P n) (key:=key) fs.toList 0 (P.cellsOf t) xs hD.1 hl (λi f hf=>hx i f (by simpa using hf)) (by simpa using Zq) (by grind);grind [MT]
    case slice e=>
     simp only [sh] at hD;have gq:1<=P.cellsOf e:=(by simp_all)
     rcases DataW.trod_slice hu h with ⟨rfl,_⟩|⟨a,len,cap,elems,rest,n,hn,rfl,_,_,hlc,Ls,hel,hx,_⟩
     .refine ⟨[.list []],.ahj (.list none 0 [] 0 0 0 (λ_=>[]) abu abu abu abu abu),?_⟩;simp only [MT,hu];grind
     .have hn:n=fuel:=aab
      subst hn;have lB: ∀i,i<len-> ∃jM m,W.cells? base (a.add (i *P.cellsOf e)) (P.cellsOf e)=some jM/\jI key (Jc W) jM m/\ME P (MT P n) e m:=by
       intro i hi;have h1:=hx i hi;cases hc:W.cells? base (a.add (i *P.cellsOf e)) (P.cellsOf e) with
       |none=>grind
       |some jM=>
        rw [hc] at h1;have dX:i<elems.length:=aab
        rw [ab2 dX] at h1;have ⟨ms,r1,t1⟩:=ih D e jM _ hD.1 (by simpa using h1);by_cases hs: ∃fs,P.underlying e=some (.struct fs)
        .exact ⟨jM,.agg ms,rfl,.agg jM ms r1,by simp only [ME,hs];grind⟩
        .have h1m: ∃m,ms=[m]:=by
          cases n with
          |zero=>exact t1.elim
          |succ n=>simp only [MT] at t1;grind
         obtain ⟨m,rfl⟩:=h1m;refine ⟨jM,m,rfl,r1.single,?_⟩;grind [ME,absurd]
      let f:Nat->List Value:=λi=>(W.cells? base (a.add (i *P.cellsOf e)) (P.cellsOf e)).getD [];let g:Nat->MV:=λi=>if hi:i<len then akx (afI (lB i hi)) else default
      have hfg: ∀i,i<len->W.cells? base (a.add (i *P.cellsOf e)) (P.cellsOf e)=some (f i)/\jI key (Jc W) (f i) (g i)/\ME P (MT P n) e (g i):=by
       intro i hi;have hsp:=afI (afI (lB i hi));have hf:f i=akx (lB i hi):=by show (W.cells? base (a.add (i *P.cellsOf e)) (P.cellsOf e)).getD []=_;exact congrArg (λo=>o.getD []) hsp.1
       have hg:g i=akx (afI (lB i hi)):=by show (if hi:i<len then _ else _)=_;rw [dif_pos hi]
       rw [hf,hg];exact hsp
      have aur:0<len->a=⟨a.block,a.off,none⟩:=by
       intro h0;obtain ⟨h1,_,_⟩:=hfg 0 h0;obtain ⟨ER,hcg⟩:=Jd h1;have:=hcg 0 aab;rw [Nat.zero_mul] at this;have hz:(a.add 0).add 0=a:=rfl;rw [hz] at this;have dX:0<(f 0).length:=aab
       rw [ab2 dX] at this;unfold World.cell? at this;split at this
       .cases hsp:a.spot with
        |none=>cases a;grind
        |some s=>grind
       .cases this
      have aBx: ∀i j,i<len->j<P.cellsOf e->Jc W a.block (a.off+i *P.cellsOf e+j)=(f i)[j]? :=by intro i j hi hj;obtain ⟨h1,_,_⟩:=hfg i hi;obtain ⟨ER,hcg⟩:=Jd h1;have:=hcg j hj;rw [<-this];unfold Jc;congr 1;have ha:=aur aab;rw [ha];rw [ak3,ak3]
      refine ⟨[.list ((afG len).map g)],.ahj ?_,?_⟩
      .have:=jI.list (key:=key) (φ:=Jc W) (some a) cap ((afG len).map g) a.block a.off (P.cellsOf e) f (by grind) (by grind) (by grind [Jd]) (by grind) (by grind);grind
      .simp only [MT,hu];grind
    case array n e=>
     simp only [sh] at hD;have ⟨⟨⟨h1,h2⟩,h3⟩,h4⟩:=hD;have h1:=bD h1;have h3:=bD h3;have h4:=bD h4;subst h1;have ⟨xs,m,hm,_,hl,Zq,hx⟩:=DataW.trod_array hu h;rw [h4] at hl;split at h2
     .rename_i hue;have qq: ∀i (hi:i<cs.length),∃b:Int,cs[i]= .int .u8 b/\0<=b/\b<=255:=by
       intro i hi;have apV:i<32:=aab
       have:=hx i apV;rw [h3,Nat.mul_one] at this;have YW:(cs.drop i).take 1=[cs[i]]:=by rw [List.take_one,List.head?_drop,ab2 hi];rfl
       rw [YW,ab2 aab] at this;obtain ⟨k,hk,_,hw⟩:=DataW.trod_int hue this;simp only [alB,and_true] at hk;refine ⟨k,hk,?_⟩;simp only [Lit.wf,sh,decide_eq_true_eq] at hw;have apR:IntKind.u8.min=0:=abq
       have azc:IntKind.u8.max=255:=abq
       rw [apR,azc] at hw;exact hw
      have: ∃l:List Int,cs=l.map (alY .u8)/\ ∀y∈l,0<=y/\y<=255:=by
       clear hx hl h;induction cs with
       |nil=>simp_all
       |cons c cs ihc=>have ⟨b,hb,B3⟩:=qq 0 abu;have ⟨l,hl,xO⟩:=ihc (λi hi=>by have:=qq (i+1) (by grind);grind);exact ⟨b::l,by grind,(by grind)⟩
      obtain ⟨l,rfl,xO⟩:=this;have azd:l.length=32:=by simpa using hl
      refine ⟨[.h .u8 30 l],?_,by simp only [MT,hu];grind⟩;have:=il.cons (key:=key) (φ:=Jc W) _ (.h .u8 30 l) [] [] (.h _ _ l azd) .nil;grind
     .cases h2
def ahl {r:Reach}{b0 D:Nat}{t:TypeId}{v:Value}{d:DataW H}{ps:List MemPlace}(hD:okT P D t=true)(hv:ahQ P W r b0 t v)(h:DataW.Trod enc P W base sp held t v d ps): ∃m n,cQ key (Jc W) v m/\ME P (MT P n) t m:=by
 obtain ⟨fuel,hf⟩:=h;have ⟨ms,r1,t1⟩:=ahk (key:=key) fuel D t _ _ hD hf;cases fuel with
 |zero=>exact t1.elim
 |succ fuel=>
  have t2:=t1;simp only [MT] at t1;cases hu:P.underlying t with
  |none=>grind
  |some k=>
   simp only [hu] at t1;cases k<;>simp only at t1<;>try (exact t1.elim)
   case bool=>obtain ⟨b,rfl⟩:=t1;obtain ⟨b',rfl⟩:=okWide_bool hu hv;refine ⟨.b b,fuel+1,⟨rfl,r1.single⟩,by grind [ME]⟩
   case int k=>obtain ⟨n,rfl,_⟩:=t1;obtain ⟨n',rfl⟩:=okWide_int hu hv;refine ⟨.i k n,fuel+1,⟨rfl,r1.single⟩,by grind [ME]⟩
   case string=>obtain ⟨l,rfl,_⟩:=t1;obtain ⟨s',rfl⟩:=okWide_string hu hv;refine ⟨.s l,fuel+1,⟨rfl,r1.single⟩,by grind [ME]⟩
   case slice e=>
    obtain ⟨xs,rfl,_⟩:=t1;have hvc:v.cells.toList=[v]:=by simp only [ahQ,hu,Cell.okWide] at hv;cases v<;>simp_all [Cell.ok,afE]
    rw [hvc] at r1;refine ⟨.list xs,fuel+1,⟨rfl,r1.single⟩,by grind [ME]⟩
   case struct fs=>obtain ⟨arr,rfl,_⟩:=okWide_struct hu hv;refine ⟨.agg ms,fuel+1,⟨arr,rfl,by grind [afE]⟩,by unfold ME;grind⟩
   case array n e=>
    obtain ⟨h,rfl,hh,_⟩:=t1;have: ∃arr,v= .agg arr:=by simp only [ahQ,hu] at hv;obtain ⟨arr,rfl,_⟩:=hv;exact ⟨arr,rfl⟩
    obtain ⟨arr,rfl⟩:=this;refine ⟨.h .u8 30 h,fuel+1,?_,by grind [ME]⟩;have hr:=r1.single;simp only [afE] at hr;generalize EN:arr.toList=vs at hr;cases hr;refine ⟨?_,hh⟩;rw [<-EN]
end
end
section
open Go.WideShapes Go.ChangeShapes Go.RowKit
section
variable {H:Type}{enc:TypeId×Value->H}{P:Program}{W W':World}{c:Ctx}
theorem Fq (hl:laidOutB P=true)(hb:Below W.heap.size W W'): ∀{ts:List TypeId} {vs:List Value} {ds:List (DataW H)} {ps:List MemPlace},(∀t∈ts,P.readableRec t=true/\t<P.types.size)-> DataW.TrodAll enc P W 0 (λ_=>true) true ts vs ds ps->(∀x∈ps,x.block<W.heap.size)->DataW.TrodAll enc P W' 0 (λb=>decide (b<W.heap.size)) true ts vs ds ps
 |[],[],[],_,_,h,_=>h
 |t::ts,v::vs,d::ds,_,ht,⟨p,q,h1,h2,e⟩,hs=>⟨p,q,(by grind [Below.trod,afu]),Fq hl hb (by grind) h2 (by grind),e⟩
def Hh (P:Program):List TypeId->List MV->Prop
 |[],ms=>ms=[]
 |t::ts,ms=> ∃m r,ms=m::r/\(∃n,ME P (MT P n) t m)/\Hh P ts r
theorem RV {base:Nat}{sp:Nat->Bool}{held:Bool}{key:Nat->Nat}{r:Reach}{b0:Nat}: ∀{ts:List TypeId} {vs:List Value} {ds:List (DataW H)} {ps:List MemPlace},(∀t∈ts,∃D,okT P D t=true)-> (∀(j:Nat) t v,ts[j]? =some t->vs[j]? =some v->ahQ P W r b0 t v)->DataW.TrodAll enc P W base sp held ts vs ds ps-> ∃ms,bj key (Jc W) vs ms/\Hh P ts ms/\ds.length=ts.length
 |[],[],[],_,_,_,_=>⟨[],rfl,rfl,rfl⟩
 |t::ts,v::vs,d::ds,_,ht,hv,⟨p,q,h1,h2,e⟩=>by have ⟨D,hD⟩:=ht t (by simp);have ⟨m,n,r1,t1⟩:=ahl (key:=key) hD (hv 0 t v rfl rfl) h1;have ⟨ms,r2,t2,hl⟩:=RV (key:=key) (by grind) (λj u x hu hx=>hv (j+1) u x (by grind) (by grind)) h2;exact ⟨m::ms,⟨v,vs,rfl,r1,r2⟩,⟨m,ms,rfl,⟨n,t1⟩,t2⟩,by simp [hl]⟩
theorem adA {fn:Func}{f:FuncId}{s:ChangeSpec}{args:Array Value}{ds gs:List (DataW H)}{before:List MemPlace}{tb:TypeId}{base:Nat}(hf:P.funcs[f]? =some fn)(jP:fn.body.isSome=true)(zd:(fn.name== "runtime.NumGoroutine")=false)
 (hl:laidOutB P=true) (aly: ∀t∈fn.params.toList,(∃D,okT P D t=true)/\P.readableRec t=true/\t<P.types.size) (qh:fn.resultTypes= #[tb]) (htb:P.underlying tb=some .bool) (hv:s.vars=[])
 (hfn: ∀ds:List (DataW H),ds.length=fn.params.toList.length->s.fn H ds={results:=[.lit (.bool true)],args:=ds})
 (aqg: ∀(j:Nat) t v,fn.params[j]? =some t->args[j]? =some v->ahQ P W .any base t v)
 (hW:DataW.Whole enc P fn.params.toList s.vars false W args.toList ds gs before) (hg:c.cS (c.key f)=false)
 (BL: ∀ms,Hh P fn.params.toList ms->dG P c f ms (.b true)):
 Calls P f args W λe W'=> ∃v,e= .returned v/\s.post enc P fn false true false false W args v W':=by
 have hW':=hW;obtain ⟨p,q,hA,hV,rfl,hfz,hnd⟩:=hW;rw [hv] at hV;obtain ⟨rfl,rfl⟩:=trodVars_none hV;have dX: ∀x∈p,x.block<W.heap.size:=λx hx=>by simpa using hW'.lt x (by simp [hx])
 have ⟨ms,r1,t1,VO⟩:=RV (key:=c.key) (λt ht=>(aly t ht).1) (λj t v h1 h2=>aqg j t v (by simpa using h1) (by simpa using h2)) hA;have hc:=BL ms t1 (Jc W) W (λb=>W.heap.size<=b) args.toList (λb hb=>hb) (by simp_all [cR,afw,if_false]) (ahi W);have bU:(callFunc f args).run P W= .ok (.enter f args) W:=by
  have Me: ¬fn.name= "runtime.NumGoroutine" :=by simpa using zd
  cases hb:fn.body with
  |none=>grind
  |some b=>simp_all [callFunc]
 unfold dF at hc;rw [akK,bU] at hc;refine hc.mono ?_;rintro x W' ⟨v,rfl,φ',ht,iA,hr⟩;have hvb:v= .bool true:=by obtain ⟨_,hr⟩:=hr;generalize EN:[v]=vs at hr;cases hr;simpa using EN
 subst hvb;have aqu:Below W.heap.size W W':=⟨ht.rest.1,ht.rest.2.1,ht.rest.2.2,ht.size,λk hk=>ht.heap k (by omega) hk⟩
 have aus:=hfn (ds++[]) (by simpa using VO);refine ⟨_,rfl,ds,[],_,[],p,[],hW',?_,?_,?_,aqu.frame _,λh=>by cases h⟩
 ·rw [aus,qh];exact trodAll_mk1 (shut_bool htb _)
 ·grind [Fq]
 ·rw [aus,hv];rfl
end
theorem alz {α:Type}{f:α->MV}{Q:α->Prop}{R:MV->Prop}{xs:List MV}(h: ∀x,R x-> ∃y,x=f y/\Q y)(hx: ∀x∈xs,R x): ∃L:List α,xs=L.map f/\ ∀y∈L,Q y:=by
 induction xs with
 |nil=>simp_all
 |cons x xs ih=>obtain ⟨y,rfl,hq⟩:=h x (hx x (by simp));obtain ⟨L,rfl,hL⟩:=ih (by grind);exact ⟨y::L,rfl,by grind⟩
theorem ahm {n:Int}(h:(Lit.int .i64 n).wf=true): -9223372036854775808<=n/\n<=9223372036854775807:=by simp only [Lit.wf,sh,decide_eq_true_eq] at h;exact h
end
theorem ahn {a b:Kd}(h:kdB a b=true):a=b:=by cases a<;>cases b<;>simp [kdB,kB] at h<;>first|rfl|(subst h;rfl)|grind
def pG:List Kd->Kd->Bool
 |[k],k'=>kdB k k'
 |_,_=>false
theorem gw {l:List Kd}{k:Kd}(h:pG l k=true):l=[k]:=by
 cases l with
 |nil=>grind [pG]
 |cons a l=>cases l with
  |nil=>grind [pG,ahn]
  |cons=>grind [pG]
def KU:List Nat->List Nat->Bool
 |[],[]=>true
 |a::l,b::m=>AS a b&&KU l m
 |_,_=>false
theorem NG {l m:List Nat}(h:KU l m=true):l=m:=by
 induction l generalizing m with
 |nil=>grind [KU]
 |cons a l ih=>
  cases m with
  |nil=>grind [KU]
  |cons b m=>simp only [KU,sh] at h;grind [bD]
def Av {α:Type}:List α->Bool
 |[]=>true
 |_=>false
theorem s8 {α:Type}{l:List α}(h:Av l=true):l=[]:=by grind [Av]
def Ty (ti:Nat->Option TI)(t:Nat):Bool:=match ti t with|some J=>Av J.cy&&ahs 1 J.size|none=>false
def RW {ti:Nat->Option TI}{t:Nat}(h:Ty ti t=true): ∃J,ti t=some J/\J.cy=[]/\0<J.size:=by
 unfold Ty at h;cases hJ:ti t with
 |none=>grind
 |some J=>simp only [hJ,sh] at h;exact ⟨J,rfl,s8 h.1,afH h.2⟩
def NH (k:IntKind):List Value->Nat->Bool
 |[],n=>AS n 0
 | .int k' v::r,n+1=>kB k' k&&(decide (v=0)&&NH k r n)
 |_,_=>false
def WM {k:IntKind}{l:List Value}{n:Nat}(h:NH k l n=true):l=IN n (.int k 0):=by
 induction l generalizing n with
 |nil=>have:=bD h;grind
 |cons v l ih=>
  cases n with
  |zero=>simp_all [NH]
  |succ n=>
   unfold NH at h;split at h
   .grind
   .simp only [kB,sh,decide_eq_true_eq] at h;grind
   .cases h
def Je:List aF->aF->Bool
 |[.nil],.nil=>true
 |[.p (.b false)],.p (.b false)=>true
 |[.p (.i k n)],.p (.i k' m)=>kB k k'&&decide (n=m)
 |[.p (.s [])],.p (.s [])=>true
 |_,_=>false
theorem DV {l:List aF}{x:aF}(h:Je l x=true):l=[x]:=by unfold Je at h;grind [kB]
def aho (k:IntKind)(m:Nat):List aF->Bool
 |[.hs k' m' x]=>kB k' k&&(AS m' m&&decide (x=zA m))
 |_=>false
def ahp {k:IntKind}{m:Nat}{l:List aF}(h:aho k m l=true):l=[.hs k m (zA m)]:=by unfold aho at h;split at h;all_goals simp_all [kB,sh,decide_eq_true_eq,bD]
def ahq (ti:Nat->Option TI)(P:Program)(I:TI)(z:Option Value):TypeDesc->Bool
 | .struct fs=>I.st&&Av I.cy&&ahs 1 I.size&&AS (Lr I.lay) I.size&&KU (fs.toList.map (·.offset)) I.xx&&KU (fs.toList.map (·.type)) I.acV&& (fs.toList.all λf=>Ty ti f.type)&&(match z with|some (.agg cs)=>xN I.zero cs.toList&&AS cs.size I.size|_=>false)
 | .tuple ts=>KU I.cy ts.toList&&!Av I.cy&&Av I.lay&&!I.st
 | .slice el=>!I.st&&Av I.cy&&AS I.size 1&&AS I.elem el&&Ty ti el&&(match z with|some (.slice none 0 0)=>true|_=>false)&&Je I.zero .nil&&pG I.lay .l
 | .array n el=>!I.st&&Av I.cy&&AS I.size n&&AS I.elem el&&(match I.lay with
  |[.h k m]=>AS n (m+2)&&(match P.underlying el with|some (.int k')=>kB k' k|_=>false)&&(match P.info? el with|some i=>AS i.size 1|none=>false)&& aho k m I.zero&&(match z with|some (.agg cs)=>NH k cs.toList (m+2)|_=>false)
  |_=>false)
 | .bool=>!I.st&&Av I.cy&&AS I.size 1&&pG I.lay .b&&Je I.zero (.p (.b false))&&(match z with|some (.bool false)=>true|_=>false)
 | .int k=>!I.st&&Av I.cy&&AS I.size 1&&pG I.lay (.i k)&&Je I.zero (.p (.i k 0))&&(match z with|some (.int k' n)=>kB k' k&&decide (n=0)|_=>false)
 | .string=>!I.st&&Av I.cy&&AS I.size 1&&pG I.lay .s&&Je I.zero (.p (.s []))&&(match z with|some (.string b)=>Av b.data.toList|_=>false)
 |_=>!I.st&&Av I.cy&&AS I.size 1&&pG I.lay .raw&&(match z with|some v=>v.oneCell'&&xN I.zero [v]|none=>false)
def ahr {ti:Nat->Option TI}{P:Program}{I:TI}{z:Option Value}{d:TypeDesc}(h:ahq ti P I z d=true):tt ti P I z d:=by
 cases d<;>simp only [ahq,sh,afy] at h<;>simp only [tt];case struct fs=>
  have ⟨⟨⟨⟨⟨⟨⟨h1,h2⟩,h3⟩,h4⟩,h5⟩,h6⟩,h7⟩,h8⟩:=h;refine ⟨h1,s8 h2,⟨afH h3,bD h4⟩,NG h5,NG h6,λk f hk=> ?_,?_⟩
  .exact RW (by grind)
  .split at h8;all_goals simp_all
 case tuple ts=>grind [NG,Av,s8]
 case slice el=>have ⟨⟨⟨⟨⟨⟨⟨h1,h2⟩,h3⟩,h4⟩,h5⟩,h6⟩,h7⟩,h8⟩:=h;refine ⟨h1,s8 h2,bD h3,bD h4,RW h5,?_,DV h7,.l,gw h8,rfl⟩;grind
 case array n el=>
  have ⟨⟨⟨⟨h1,h2⟩,h3⟩,h5⟩,h⟩:=h;split at h;case h_2=>cases h
  rename_i k m hl;simp only [sh] at h;have ⟨⟨⟨⟨h4,h6⟩,h7⟩,h9⟩,Hi⟩:=h;refine ⟨h1,s8 h2,bD h3,bD h5,k,m,bD h4,?_,hl,ahp h9,?_⟩
  .split at h6
   .simp only [kB,decide_eq_true_eq] at h6;grind [bD]
   .cases h6
  .split at Hi
   .have:=WM Hi;congr 1;congr 1;apply aft.1;simp_all [bN]
   .cases Hi
 case bool=>grind [s8,bD,gw,DV]
 case int k=>have ⟨⟨⟨⟨⟨h1,h2⟩,h3⟩,h4⟩,h5⟩,h6⟩:=h;refine ⟨h1,s8 h2,bD h3,gw h4,DV h5,?_⟩;split at h6;all_goals simp_all [kB,sh,decide_eq_true_eq]
 case string=>
  have ⟨⟨⟨⟨⟨h1,h2⟩,h3⟩,h4⟩,h5⟩,h6⟩:=h;refine ⟨h1,s8 h2,bD h3,gw h4,DV h5,?_⟩;split at h6
  .rename_i b;exact ⟨b,rfl,s8 h6⟩
  .cases h6
 all_goals
  have ⟨⟨⟨⟨h1,h2⟩,h3⟩,h4⟩,h5⟩:=h;refine ⟨h1,s8 h2,bD h3,gw h4,?_⟩;split at h5
  .rename_i v;simp at h5;exact ⟨v,rfl,h5.1,h5.2⟩
  .cases h5
def FP (ti:Nat->Option TI)(P:Program)(t:Nat)(I:TI):Bool:=match P.underlying t,P.info? t with
 |some d,some i=>(!Av I.cy||(AS i.size I.size&&AS i.bytes I.bytes))&&ahq ti P I i.zero d
 |_,_=>false
def alA {ti:Nat->Option TI}{P:Program}{t:Nat}{I:TI}(h:FP ti P t I=true):pU ti P t I:=by
 unfold FP at h;split at h
 .rename_i d i hu hi;simp at h;refine ⟨d,i,hu,hi,λhc=> ?_,ahr h.2⟩;grind [Av,bD]
 .cases h
def vW:List (Nat×TI)->Nat->Option TI
 |[],_=>none
 |(k,s)::r,t=>bif AS k t then some s else vW r t
def WN (P:Program)(tab:List (Nat×TI)):Bool:=tab.all λp=>FP (vW tab) P p.1 p.2
def Jf {l:List (Nat×TI)}{t:Nat}{I:TI}(h:vW l t=some I):(t,I)∈l:=by
 induction l with
 |nil=>grind [vW]
 |cons p l ih=>simp only [vW,iy] at h;grind
def Tz {P:Program}{tab:List (Nat×TI)}(h:WN P tab=true):iz P (vW tab):=λt I hI=>alA (ad5.1 h (t,I) (Jf hI))
def KV:List (Nat×TI):=[(3,⟨false,1,8,[.i .i64],[.p (.i .i64 0)],[],[],0,[]⟩),(4,⟨false,1,1,[.b],[.p (.b false)],[],[],0,[]⟩),(5,⟨false,1,1,[.i .u8],[.p (.i .u8 0)],[],[],0,[]⟩),(9,⟨false,1,16,[.s],[.p (.s [])],[],[],0,[]⟩),(21,⟨false,1,4,[.i .i32],[.p (.i .i32 0)],[],[],0,[]⟩),(22,⟨false,1,24,[.l],[.nil],[],[],77,[]⟩),(25,⟨false,1,24,[.l],[.nil],[],[],124,[]⟩),(27,⟨true,1,24,[.l],[.nil],[0],[25],0,[]⟩),(28,⟨false,1,24,[.l],[.nil],[],[],149,[]⟩),(30,⟨true,2,32,[.i .i64,.l],[.p (.i .i64 0),.nil],[0,1],[3,28],0,[]⟩),(31,⟨false,1,24,[.l],[.nil],[],[],151,[]⟩),(33,⟨true,1,24,[.l],[.nil],[0],[31],0,[]⟩),(34,⟨false,1,24,[.l],[.nil],[],[],69,[]⟩),(36,⟨true,5,104,[.l,.i .i64,.l,.l,.l],[.nil,.p (.i .i64 0),.nil,.nil,.nil],[0,1,3,4],[27,30,33,34],0,[]⟩),(37,⟨false,1,24,[.l],[.nil],[],[],181,[]⟩),(38,⟨false,0,0,[],[],[],[],0,[36,34,37]⟩),(41,⟨false,1,24,[.l],[.nil],[],[],134,[]⟩),(43,⟨true,1,24,[.l],[.nil],[0],[41],0,[]⟩),(44,⟨false,1,24,[.l],[.nil],[],[],161,[]⟩),(46,⟨true,2,32,[.i .i64,.l],[.p (.i .i64 0),.nil],[0,1],[3,44],0,[]⟩),(47,⟨false,1,24,[.l],[.nil],[],[],162,[]⟩),(49,⟨true,1,24,[.l],[.nil],[0],[47],0,[]⟩),(50,⟨false,1,24,[.l],[.nil],[],[],70,[]⟩),(52,⟨true,5,104,[.l,.i .i64,.l,.l,.l],[.nil,.p (.i .i64 0),.nil,.nil,.nil],[0,1,3,4],[43,46,49,50],0,[]⟩),(53,⟨false,1,24,[.l],[.nil],[],[],203,[]⟩),(54,⟨false,0,0,[],[],[],[],0,[52,50,53]⟩),(57,⟨false,1,24,[.l],[.nil],[],[],88,[]⟩),(59,⟨false,1,8,[.i .i64],[.p (.i .i64 0)],[],[],0,[]⟩),(60,⟨false,0,0,[],[],[],[],0,[36,34,59]⟩),(62,⟨false,0,0,[],[],[],[],0,[52,50,59]⟩),(67,⟨false,1,24,[.l],[.nil],[],[],9,[]⟩),(69,⟨true,6,72,[.i .i64,.i .i64,.i .i64,.s,.i .i64,.l],[.p (.i .i64 0),.p (.i .i64 0),.p (.i .i64 0),.p (.s []),.p (.i .i64 0),.nil],[0,1,2,3,4,5],[3,3,59,9,3,67],0,[]⟩),(70,⟨true,6,72,[.i .i64,.i .i64,.i .i64,.s,.i .i64,.l],[.p (.i .i64 0),.p (.i .i64 0),.p (.i .i64 0),.p (.s []),.p (.i .i64 0),.nil],[0,1,2,3,4,5],[3,3,59,9,3,67],0,[]⟩),(72,⟨false,32,32,[.h .u8 30],[.hs .u8 30 (zA 30)],[],[],5,[]⟩),(77,⟨true,8,80,[.i .i64,.i .i64,.i .i64,.s,.s,.i .i64,.i .i64,.i .i64],[.p (.i .i64 0),.p (.i .i64 0),.p (.i .i64 0),.p (.s []),.p (.s []),.p (.i .i64 0),.p (.i .i64 0),.p (.i .i64 0)],[0,1,2,3,4,5,6,7],[3,3,3,9,9,3,3,3],0,[]⟩),(78,⟨false,0,0,[],[],[],[],0,[9,59]⟩),(80,⟨false,0,0,[],[],[],[],0,[22,59]⟩),(82,⟨false,0,0,[],[],[],[],0,[36,69,37]⟩),(86,⟨false,0,0,[],[],[],[],0,[52,70,53]⟩),(88,⟨true,8,80,[.i .i64,.i .i64,.i .i64,.s,.s,.i .i64,.i .i64,.i .i64],[.p (.i .i64 0),.p (.i .i64 0),.p (.i .i64 0),.p (.s []),.p (.s []),.p (.i .i64 0),.p (.i .i64 0),.p (.i .i64 0)],[0,1,2,3,4,5,6,7],[3,3,3,9,9,3,3,3],0,[]⟩),
 (90,⟨false,0,0,[],[],[],[],0,[57,59]⟩),
 (92,⟨false,0,0,[],[],[],[],0,[69,4]⟩),
 (95,⟨false,1,8,[.raw],[.p (.raw .nilFunc)],[],[],0,[]⟩),
 (99,⟨false,1,24,[.l],[.nil],[],[],5,[]⟩),
 (103,⟨false,1,8,[.i .u64],[.p (.i .u64 0)],[],[],0,[]⟩),
 (105,⟨false,0,0,[],[],[],[],0,[103,99,59]⟩),
 (107,⟨false,0,0,[],[],[],[],0,[77,99,59]⟩),
 (110,⟨false,1,8,[.raw],[.p (.raw (.pointer none))],[],[],113,[]⟩),
 (111,⟨false,1,24,[.l],[.nil],[],[],177,[]⟩),
 (113,⟨true,20,280,[.l,.i .i64,.l,.l,.l,.i .i64,.i .i64,.i .i64,.s,.s,.i .i64,.i .i64,.i .i64,.i .i64,.i .i64,.i .i64,.s,.i .i64,.l,.l],[.nil,.p (.i .i64 0),.nil,.nil,.nil,.p (.i .i64 0),.p (.i .i64 0),.p (.i .i64 0),.p (.s []),.p (.s []),.p (.i .i64 0),.p (.i .i64 0),.p (.i .i64 0),.p (.i .i64 0),.p (.i .i64 0),.p (.i .i64 0),.p (.s []),.p (.i .i64 0),.nil,.nil],[0,5,13,19],[36,77,69,111],0,[]⟩),
 (114,⟨false,1,8,[.raw],[.p (.raw .nilFunc)],[],[],0,[]⟩),
 (115,⟨false,1,24,[.l],[.nil],[],[],114,[]⟩),
 (117,⟨false,0,0,[],[],[],[],0,[33,37]⟩),
 (120,⟨false,0,0,[],[],[],[],0,[3,4]⟩),
 (124,⟨true,4,48,[.s,.s,.i .i64,.i .i64],[.p (.s []),.p (.s []),.p (.i .i64 0),.p (.i .i64 0)],[0,1,2,3],[9,9,3,3],0,[]⟩),
 (126,⟨false,0,0,[],[],[],[],0,[70,4]⟩),
 (128,⟨false,1,24,[.l],[.nil],[],[],201,[]⟩),
 (129,⟨false,0,0,[],[],[],[],0,[52,70,128]⟩),
 (131,⟨false,0,0,[],[],[],[],0,[49,53]⟩),
 (134,⟨true,4,48,[.s,.s,.i .i64,.i .i64],[.p (.s []),.p (.s []),.p (.i .i64 0),.p (.i .i64 0)],[0,1,2,3],[9,9,3,3],0,[]⟩),
 (135,⟨false,0,0,[],[],[],[],0,[88,99,59]⟩),
 (139,⟨false,1,8,[.raw],[.p (.raw (.pointer none))],[],[],210,[]⟩),
 (143,⟨false,1,8,[.raw],[.p (.raw (.pointer none))],[],[],145,[]⟩),
 (145,⟨true,1,24,[.l],[.nil],[0],[99],0,[]⟩),
 (149,⟨true,3,24,[.i .i64,.i .i64,.i .i64],[.p (.i .i64 0),.p (.i .i64 0),.p (.i .i64 0)],[0,1,2],[3,3,3],0,[]⟩),
 (151,⟨true,3,32,[.s,.i .i64,.b],[.p (.s []),.p (.i .i64 0),.p (.b false)],[0,1,2],[9,3,4],0,[]⟩),
 (155,⟨false,1,4,[.i .u32],[.p (.i .u32 0)],[],[],0,[]⟩),
 (156,⟨false,8,32,[.h .u32 6],[.hs .u32 6 (zA 6)],[],[],155,[]⟩),
 (157,⟨false,0,0,[],[],[],[],0,[156,59]⟩),
 (161,⟨true,3,24,[.i .i64,.i .i64,.i .i64],[.p (.i .i64 0),.p (.i .i64 0),.p (.i .i64 0)],[0,1,2],[3,3,3],0,[]⟩),
 (162,⟨true,3,32,[.s,.i .i64,.b],[.p (.s []),.p (.i .i64 0),.p (.b false)],[0,1,2],[9,3,4],0,[]⟩),
 (167,⟨false,1,8,[.i .u64],[.p (.i .u64 0)],[],[],0,[]⟩),
 (168,⟨false,1,8,[.raw],[.p (.raw (.pointer none))],[],[],170,[]⟩),
 (170,⟨true,2,32,[.l,.i .i64],[.nil,.p (.i .i64 0)],[0,1],[99,59],0,[]⟩),
 (172,⟨false,1,8,[.raw],[.p (.raw (.pointer none))],[],[],3,[]⟩),
 (174,⟨false,1,8,[.raw],[.p (.raw (.pointer none))],[],[],9,[]⟩),
 (177,⟨true,2,24,[.i .i64,.s],[.p (.i .i64 0),.p (.s [])],[0,1],[3,9],0,[]⟩),
 (181,⟨true,5,56,[.s,.i .i64,.b,.i .i64,.s],[.p (.s []),.p (.i .i64 0),.p (.b false),.p (.i .i64 0),.p (.s [])],[0,3],[151,177],0,[]⟩),
 (182,⟨false,1,8,[.raw],[.p (.raw .nilFunc)],[],[],0,[]⟩),
 (185,⟨false,1,8,[.raw],[.p (.raw .nilFunc)],[],[],0,[]⟩),
 (190,⟨false,0,0,[],[],[],[],0,[46,59]⟩),
 (193,⟨false,0,0,[],[],[],[],0,[43,128]⟩),
 (195,⟨false,1,24,[.l],[.nil],[],[],3,[]⟩),
 (196,⟨false,0,0,[],[],[],[],0,[46,195,59]⟩),
 (198,⟨false,0,0,[],[],[],[],0,[49,59]⟩),
 (201,⟨true,2,24,[.i .i64,.s],[.p (.i .i64 0),.p (.s [])],[0,1],[3,9],0,[]⟩),
 (203,⟨true,5,56,[.s,.i .i64,.b,.i .i64,.s],[.p (.s []),.p (.i .i64 0),.p (.b false),.p (.i .i64 0),.p (.s [])],[0,3],[162,201],0,[]⟩),
 (204,⟨false,0,0,[],[],[],[],0,[195,99,59]⟩),
 (206,⟨false,0,0,[],[],[],[],0,[9,99,59]⟩),
 (210,⟨true,10,64,[.h .u32 6,.l,.i .i64],[.hs .u32 6 (zA 6),.nil,.p (.i .i64 0)],[0,8,9],[156,99,3],0,[]⟩),
 (212,⟨false,1,8,[.raw],[.p (.raw (.pointer none))],[],[],156,[]⟩),
 (215,⟨false,64,256,[.h .u32 62],[.hs .u32 62 (zA 62)],[],[],155,[]⟩),
 (216,⟨false,0,0,[],[],[],[],0,[215,59]⟩),
 (220,⟨false,1,24,[.l],[.nil],[],[],172,[]⟩),
 (221,⟨false,0,0,[],[],[],[],0,[3,99,59]⟩),
 (224,⟨false,0,0,[],[],[],[],0,[27,59]⟩),
 (227,⟨false,0,0,[],[],[],[],0,[124,59]⟩),
 (230,⟨false,0,0,[],[],[],[],0,[67,59]⟩),
 (232,⟨false,0,0,[],[],[],[],0,[30,59]⟩),
 (235,⟨false,0,0,[],[],[],[],0,[30,195,59]⟩),
 (237,⟨false,0,0,[],[],[],[],0,[33,59]⟩),
 (240,⟨false,1,8,[.raw],[.p (.raw .nilFunc)],[],[],0,[]⟩),
 (244,⟨false,0,0,[],[],[],[],0,[43,59]⟩),
 (246,⟨false,0,0,[],[],[],[],0,[134,59]⟩),
 (250,⟨false,0,0,[],[],[],[],0,[43,67]⟩),
 (254,⟨false,1,8,[.raw],[.p (.raw (.pointer none))],[],[],215,[]⟩),
 (257,⟨false,1,8,[.raw],[.p (.raw .nilFunc)],[],[],0,[]⟩),
 (260,⟨false,0,0,[],[],[],[],0,[3,59]⟩),
 (269,⟨false,0,0,[],[],[],[],0,[27,67]⟩),
 (272,⟨false,0,0,[],[],[],[],0,[67,4]⟩),
 (281,⟨false,1,8,[.raw],[.p (.raw .nilFunc)],[],[],0,[]⟩),
 (283,⟨false,1,8,[.raw],[.p (.raw .nilFunc)],[],[],0,[]⟩),
 (289,⟨false,0,0,[],[],[],[],0,[9,4]⟩),
 (300,⟨false,1,8,[.raw],[.p (.raw .nilFunc)],[],[],0,[]⟩),
 (301,⟨false,0,0,[],[],[],[],0,[155,155]⟩),
 (312,⟨false,1,8,[.raw],[.p (.raw (.pointer none))],[],[],308,[]⟩)]
def cks:List Kd->List Kd
 |[]=>[]
 | .h k n::r=>IN (n+2) (.i k)++cks r
 |k::r=>k::cks r
def TA:Kd->Value->Bool
 | .b,.bool _=>true
 | .i k,.int k' _=>decide (k'=k)
 | .s,.string _=>true
 |_,_=>false
def ln:List Kd->List Value->Prop
 |[],vs=>vs=[]
 |k::ks,vs=> ∃v r,vs=v::r/\TA k v=true/\ln ks r
def ceq:Value->Value->Bool
 | .bool a,.bool b=>decide (a=b)
 | .int _ a,.int _ b=>decide (a=b)
 | .string a,.string b=>decide (a.data.toList=b.data.toList)
 |_,_=>false
def mS:List Value->List Value->Bool
 |[],[]=>true
 |x::xs,y::ys=>ceq x y&&mS xs ys
 |_,_=>false
def xV {xs ys us vs:List Value}(h:xs.length=ys.length):mS (xs++us) (ys++vs)=(mS xs ys&&mS us vs):=by
 induction xs generalizing ys with
 |nil=>grind [mS]
 |cons x xs ih=>cases ys with|nil=>simp at h|cons y ys=>grind [mS,Bool.and_assoc]
theorem ln.length {ks:List Kd}: ∀{vs:List Value},ln ks vs->vs.length=ks.length:=by
 induction ks with
 |nil=>intro vs h;cases h;rfl
 |cons k ks ih=>intro vs h;obtain ⟨v,r,rfl,_,h2⟩:=h;simp [ih h2]
def ln.append {ks js:List Kd}: ∀{vs us:List Value},ln ks vs->ln js us->ln (ks++js) (vs++us):=by
 induction ks with
 |nil=>intro vs us h h';cases h;grind
 |cons k ks ih=>intro vs us h h';obtain ⟨v,r,rfl,h1,h2⟩:=h;exact ⟨v,r++us,rfl,h1,ih h2 h'⟩
def ln.split {ks js:List Kd}: ∀{vs:List Value},ln (ks++js) vs->ln ks (vs.take ks.length)/\ln js (vs.drop ks.length):=by
 induction ks with
 |nil=>grind [ln]
 |cons k ks ih=>intro vs h;obtain ⟨v,r,rfl,h1,h2⟩:=h;have ⟨h3,h4⟩:=ih h2;exact ⟨⟨v,_,rfl,h1,h3⟩,by grind⟩
def NI (k:IntKind)(x:List Int):ln (IN x.length (.i k)) (bN k x):=by
 induction x with
 |nil=>rfl
 |cons b l ih=>exact ⟨_,_,rfl,by simp [TA],ih⟩
def RX (k:IntKind): ∀(l m:List Int),l.length=m.length->mS (bN k l) (bN k m)=decide (l=m):=by
 intro l;induction l with
 |nil=>intro m h;cases m with|nil=>rfl|cons=>simp at h
 |cons b l ih=>
  intro m h;cases m with
  |nil=>simp at h
  |cons b' m=>grind [bN,mS,ceq]
section
variable {e:Env}
def RY {lay:List Kd}: ∀{ls:List aF} {vs:List Value},av e vs ls->mW lay ls=true->ln (cks lay) vs:=by
 induction lay with
 |nil=>
  intro ls vs h hf;cases ls with
  |nil=>cases h;rfl
  |cons=>grind [mW]
 |cons k lay ih=>
  intro ls vs h hf;cases ls with
  |nil=>grind [mW]
  |cons l ls=>
   simp only [mW] at hf;cases h1:Cn k l with
   |false=>grind
   |true=>
    simp only [h1,cond_true] at hf;obtain ⟨v,u,rfl,g1,g2⟩:=h;have hr:=ih g2 hf;have one: ∀m:MV,∀kd:Kd,l= .p m->(∀w:List Value,jI e.key e.φ w m-> ∃x,w=[x]/\TA kd x=true)->ln (kd::cks lay) (v++u):=by intro m kd hl hm;subst hl;obtain ⟨x,rfl,hx⟩:=hm v g1.2;exact ⟨x,u,rfl,hx,hr⟩
    cases k<;>cases l<;>simp only [Cn] at h1<;>try (cases h1;done)
    .rename_i m;cases m<;>simp only [Cn] at h1<;>try (cases h1;done)
     exact one _ _ rfl (λw hw=>by cases hw;exact ⟨_,rfl,rfl⟩)
    .rename_i k m;cases m<;>simp only [Cn] at h1<;>try (cases h1;done)
     exact one _ _ rfl (λw hw=>by cases hw;exact ⟨_,rfl,h1⟩)
    .rename_i m;cases m<;>simp only [Cn] at h1<;>try (cases h1;done)
     exact one _ _ rfl (λw hw=>by cases hw;exact ⟨_,rfl,rfl⟩)
    .rename_i k n k' n' x;simp only [sh,decide_eq_true_eq] at h1;have ⟨rfl,h1⟩:=h1;have h1:=bD h1;subst h1;obtain ⟨rfl,hx⟩:=g1;have:=(NI k' x).append hr;rw [hx] at this;exact this
def QG {l l':aF} {v v':List Value}{b:Bool}(h:bp e v l) (h':bp e v' l')(hb:MP l l'=some b):mS v v'=b/\v.length=v'.length:=by
 unfold MP at hb;split at hb
 .have ⟨_,h⟩:=h;have ⟨_,h'⟩:=h';cases h;cases h';exact ⟨by grind [mS,ceq],rfl⟩
 .have ⟨_,h⟩:=h;have ⟨_,h'⟩:=h';cases h;cases h';rename_i k x k' y _ _;cases hk:decide (k=k') with
  |false=>grind
  |true=>exact ⟨by grind [mS,ceq],rfl⟩
 .have ⟨_,h⟩:=h;have ⟨_,h'⟩:=h';cases h;cases h';exact ⟨by simp_all [mS,ceq],rfl⟩
 .obtain ⟨rfl,hx⟩:=h;obtain ⟨rfl,hy⟩:=h';have ⟨hq,hb⟩:=ob hb;simp_all [sh,decide_eq_true_eq,bD,RX,dj]
 .cases hb
def aht {ls:List aF}: ∀{CA:List aF} {vs Wi:List Value} {b:Bool},av e vs ls->av e Wi CA->kA ls CA=some b->mS vs Wi=b:=by
 induction ls with
 |nil=>
  intro CA vs Wi b h h' hb;cases CA with
  |nil=>cases h;cases h';simp [kA] at hb;subst hb;rfl
  |cons l' CA=>grind [kA]
 |cons l ls ih=>
  intro CA vs Wi b h h' hb;cases CA with
  |nil=>grind [kA]
  |cons l' CA=>
   obtain ⟨v,u,rfl,h1,h2⟩:=h;obtain ⟨v',u',rfl,Md,VM⟩:=h';have two: ∀x y,MP l l'=some x->kA ls CA=some y->b=(x&&y)->mS (v++u) (v'++u')=b:=by intro x y hx hy hxy;obtain ⟨g1,g2⟩:=QG h1 Md hx;rw [xV g2,g1,ih h2 VM hy,hxy]
   cases ls with
   |nil=>
    cases CA with
    |nil=>exact two b true hb rfl abu
    |cons p q=>grind [kA,hb.symm]
   |cons p q=>grind [kA,hb.symm]
end
def Aw (F:TypeId->Option (List Kd))(P:Program):List Field->Nat->Nat->Option (List Kd)
 |[],o,n=>bif AS o n then some [] else none
 |f::fs,o,n=>match F f.type with
  |some ks=>bif AS f.offset o&&AS ks.length (P.cellsOf f.type)&&!(f.name== "_") then (match Aw F P fs (o+ks.length) n with|some r=>some (ks++r)|none=>none) else none
  |none=>none
def ZF:Nat->List Kd->List Kd
 |0,_=>[]
 |n+1,ks=>ks++ZF n ks
def pi (P:Program):Nat->TypeId->Option (List Kd)
 |0,_=>none
 |d+1,t=>match P.underlying t with
  |some .bool=>some [.b]
  |some (.int k)=>some [.i k]
  |some .string=>some [.s]
  |some (.array n e)=>match pi P d e with
   |some ks=>bif AS ks.length (P.cellsOf e)&&(match P.info? e with|some _=>true|none=>false) then some (ZF n ks) else none
   |none=>none
  |some (.struct fs)=>bif P.stoodInHeld t then none else Aw (pi P d) P fs.toList 0 (P.cellsOf t)
  |_=>none
def QH:TypeDesc->Bool
 | .struct _=>true
 | .array _ _=>true
 |_=>false
theorem NJ {F:TypeId->Option (List Kd)}{P:Program}: ∀(fs:List Field) (o n:Nat) (ks:List Kd),Aw F P fs o n=some ks->o+ks.length=n:=by
 intro fs;induction fs with
 |nil=>grind [Aw,AS,bD]
 |cons f fs ihf=>intro o n ks hk;simp only [Aw] at hk;grind
def xz (P:Program)(t:TypeId)(v:Value)(cs:List Value):Prop:=match P.underlying t with
 |some (.struct _)|some (.array _ _)=>v= .agg cs.toArray
 |_=>cs=[v]
def WO (n:Nat)(ks:List Kd):(ZF n ks).length=n *ks.length:=by
 induction n with
 |zero=>simp [ZF]
 |succ n ih=>grind [ZF,ak0,ak2]
section
variable {P:Program}{w:World}
def DW {t:TypeId}{xs:Array Value}{off:Nat}{n:Nat}{d:TypeDesc}(hu:P.underlying t=some d)(hn:P.cellsOf t=n)(lB:QH d=false->n=1)(hl:off+n<=xs.size): ∃v,(Go.part t xs off).run P w= .ok v w/\xz P t v ((xs.toList.drop off).take n):=by
 have ⟨i,hi⟩:=info_of_underlying hu;have yS:i.size=n:=by rw [<-hn];simp [Program.cellsOf,hi]
 cases hd:QH d with
 |true=>
  refine ⟨.agg (xs.extract off (off+n)),?_,?_⟩
  .cases d<;>simp [QH] at hd<;>simp [Go.part,isAgg,run_underlying hu,Go.sizeOf,typeInfo,hi,yS]
  .have he:(xs.extract off (off+n))=((xs.toList.drop off).take n).toArray:=by apply aft.1;rw [Array.toList_extract];simp [List.extract]
   unfold xz;cases d<;>simp [QH] at hd<;>simp only [hu]<;>rw [he]
 |false=>
  have YU:=lB hd;have dX:off<xs.size:=aab
  refine ⟨xs[off],?_,?_⟩
  .cases d<;>simp [QH] at hd<;>simp [Go.part,isAgg,run_underlying hu,dX]
  grind [List.take_one,List.head?_drop,xz,QH]
def adB {F:TypeId->Option (List Kd)}{dd:Nat}{xs ys:Array Value}: ∀(fs:List Field) (o n:Nat) (ks:List Kd),Aw F P fs o n=some ks->xs.size=n->ys.size=n->ln ks (xs.toList.drop o)->ln ks (ys.toList.drop o)-> (∀f∈fs,∀js,F f.type=some js->(∃d,P.underlying f.type=some d/\(QH d=false->js.length=1))/\ ∀(x y:Value) (us vs:List Value),xz P f.type x us->xz P f.type y vs->ln js us->ln js vs->(akC dd f.type x y).run P w= .ok (mS us vs) w)-> (Op.eqFields dd xs ys fs).run P w= .ok (mS (xs.toList.drop o) (ys.toList.drop o)) w:=by
 intro fs;induction fs with
 |nil=>
  intro o n ks hk hx hy _ _ _;simp only [Aw] at hk;cases hb:AS o n with
  |false=>grind
  |true=>simp_all [bD,List.drop_eq_nil_of_le,Op.eqFields,mS]
 |cons f fs ih=>
  intro o n ks hk hx hy fx fy hF;simp only [Aw] at hk;cases hf:F f.type with
  |none=>grind
  |some js=>
   simp only [hf] at hk;have ⟨hc,hk⟩:=ob hk;simp only [sh,afy] at hc;have ⟨⟨h1,h2⟩,h3⟩:=hc;have h1:=bD h1;have h2:=bD h2
   have h3:f.name≠ "_" :=by intro he;rw [he] at h3;simp at h3
   cases hr:Aw F P fs (o+js.length) n with
   |none=>grind
   |some rs=>
    simp only [hr,By] at hk;subst hk;have ⟨fx1,fx2⟩:=fx.split;have ⟨fy1,fy2⟩:=fy.split;rw [afD] at fx2 fy2;have lx:=fx.length;have ⟨⟨d,hu,lB⟩,Aa⟩:=hF f abu js hf;by_cases hz:o+js.length<=xs.size/\o+js.length<=ys.size
    .have ⟨x,px,wx⟩:=DW (w:=w) (xs:=xs) (off:=f.offset) hu h2.symm lB (by grind);have ⟨y,py,wy⟩:=DW (w:=w) (xs:=ys) (off:=f.offset) hu h2.symm lB (by grind);rw [h1] at wx wy;have he:=Aa x y _ _ wx wy fx1 fy1;have vX:=ih (o+js.length) n rs hr hx hy fx2 fy2 (λg hg=>hF g (by simp [hg]));simp only [Op.eqFields,h3,ne_eq,not_false_eq_true,if_true,amd,px,py,he,alj];have Ny:mS (xs.toList.drop o) (ys.toList.drop o)=(mS ((xs.toList.drop o).take js.length) ((ys.toList.drop o).take js.length)&&mS (xs.toList.drop (o+js.length)) (ys.toList.drop (o+js.length))):=by rw [<-afD,<-afD,<-xV (by grind),afv,afv]
     rw [Ny];cases mS ((xs.toList.drop o).take js.length) ((ys.toList.drop o).take js.length)
     .simp
     grind
    grind [NJ]
def ahu {e:TypeId}{dd:Nat}{xs ys:Array Value}{js:List Kd}(M7:js.length=P.cellsOf e)(hd: ∃d,P.underlying e=some d/\(QH d=false->js.length=1))(Aa: ∀(x y:Value)(us vs:List Value),xz P e x us->xz P e y vs->ln js us->ln js vs->(akC dd e x y).run P w= .ok (mS us vs) w): ∀(m i:Nat),xs.size=(i+m) *js.length->ys.size=(i+m) *js.length->ln (ZF m js) (xs.toList.drop (i *js.length))->ln (ZF m js) (ys.toList.drop (i *js.length))-> (Op.eqItems dd e (P.cellsOf e) xs ys (akO i m)).run P w= .ok (mS (xs.toList.drop (i *js.length)) (ys.toList.drop (i *js.length))) w:=by
 intro m;induction m with
 |zero=>
  intro i hx hy _ _;have h1:xs.toList.drop (i *js.length)=[]:=(by simp_all)
  have h2:ys.toList.drop (i *js.length)=[]:=(by simp_all)
  rw [h1,h2];simp [Op.eqItems,mS]
 |succ m ih=>
  intro i hx hy fx fy;have ⟨fx1,fx2⟩:=fx.split;have ⟨fy1,fy2⟩:=fy.split;have hmul:i *js.length+js.length=(i+1) *js.length:=by rw [ak2]
  rw [afD,hmul] at fx2 fy2;have ⟨d,hu,lB⟩:=hd;have hle:(i+1) *js.length<=(i+(m+1)) *js.length:=(by grind)
  have ⟨x,px,wx⟩:=DW (w:=w) (xs:=xs) (off:=i *js.length) hu M7.symm lB aab;have ⟨y,py,wy⟩:=DW (w:=w) (xs:=ys) (off:=i *js.length) hu M7.symm lB aab;have he:=Aa x y _ _ wx wy fx1 fy1;have vX:=ih (i+1) (by rw [hx];congr 1;omega) (by rw [hy];congr 1;omega) fx2 fy2;rw [akw];simp only [Op.eqItems,amd,<-M7,px,py,he,alj];have Ny:mS (xs.toList.drop (i *js.length)) (ys.toList.drop (i *js.length))=(mS ((xs.toList.drop (i *js.length)).take js.length) ((ys.toList.drop (i *js.length)).take js.length)&&mS (xs.toList.drop ((i+1) *js.length)) (ys.toList.drop ((i+1) *js.length))):=by rw [<-hmul,<-afD,<-afD,<-xV (by grind),afv,afv]
  rw [Ny];cases mS ((xs.toList.drop (i *js.length)).take js.length) ((ys.toList.drop (i *js.length)).take js.length);all_goals simp_all
def RZ: ∀(d:Nat) (t:TypeId) (ks:List Kd),pi P d t=some ks-> ∃k,P.underlying t=some k/\(QH k=false->ks.length=1):=by
 intro d t ks h;cases d with
 |zero=>grind [pi]
 |succ d=>
  simp only [pi] at h;cases hu:P.underlying t with
  |none=>grind
  |some k=>grind [By,QH]
def KW: ∀(d:Nat) (t:TypeId) (ks:List Kd),pi P d t=some ks-> ∀(m:Nat) (x y:Value) (us vs:List Value),xz P t x us->xz P t y vs->ln ks us->ln ks vs-> (akC (m+d) t x y).run P w= .ok (mS us vs) w:=by
 intro d;induction d with
 |zero=>grind [pi]
 |succ d ih=>
  intro t ks h m x y us vs hx hy fx fy;simp only [pi] at h;have hmd:m+(d+1)=(m+d)+1:=rfl;rw [hmd];cases hu:P.underlying t with
  |none=>grind
  |some k=>
   cases k<;>simp only [hu] at h<;>try (cases h;done)
   case bool=>simp at h;subst h;simp only [xz,hu] at hx hy;subst hx;subst hy;have ⟨v,r,h1,h2,h3⟩:=fx;have ⟨v',r',Md,VM,h3'⟩:=fy;simp at h1 Md;have ⟨rfl,_⟩:=h1;have ⟨rfl,_⟩:=Md;cases x<;>simp [TA] at h2;cases y<;>simp [TA] at VM;grind [run_equalIn_bool',mS,ceq]
   case int k=>simp at h;subst h;simp only [xz,hu] at hx hy;subst hx;subst hy;have ⟨v,r,h1,h2,h3⟩:=fx;have ⟨v',r',Md,VM,h3'⟩:=fy;simp at h1 Md;have ⟨rfl,_⟩:=h1;have ⟨rfl,_⟩:=Md;cases x<;>simp [TA] at h2;cases y<;>simp [TA] at VM;subst h2;subst VM;rw [run_equalIn_int w _ t _ _ _ _ hu];simp only [mS,ceq,alX];congr 1
   case string=>simp at h;subst h;simp only [xz,hu] at hx hy;subst hx;subst hy;have ⟨v,r,h1,h2,h3⟩:=fx;have ⟨v',r',Md,VM,h3'⟩:=fy;obtain ⟨rfl,_⟩:=h1;obtain ⟨rfl,_⟩:=Md;cases x<;>simp [TA] at h2;cases y<;>simp [TA] at VM;simp_all [run_equalIn_string,mS,ceq,alX,toList_data,Bool.beq_eq_decide_eq]
   case array n e=>
    cases hke:pi P d e with
    |none=>grind
    |some js=>
     simp only [hke] at h;have ⟨hc,h⟩:=ob h;simp at h;subst h;simp only [sh] at hc;have M7:=bD hc.1;have ⟨i,hi⟩: ∃i,P.info? e=some i:=by grind
     simp only [xz,hu] at hx hy;subst hx;subst hy;rw [run_equalIn_array w (m+d) us.toArray vs.toArray hu hi,List.range_eq_range'];have l1:=fx.length;have l2:=fy.length;rw [WO] at l1 l2;have:=ahu (w:=w) (xs:=us.toArray) (ys:=vs.toArray) (js:=js) (dd:=m+d) M7 (RZ d e js hke) (by grind) n 0 (by grind) (by grind) (by grind) (by grind);grind
   case struct fs=>
    have ⟨fw,h⟩:=oz h;simp only [xz,hu] at hx hy;subst hx;subst hy;have hfs:P.fieldsOf t=fs:=by simp [Program.fieldsOf,hu]
    rw [run_equalIn_struct w (m+d) t us.toArray vs.toArray (by grind) fw,hfs];have hl:=NJ _ _ _ _ h;have:=adB (w:=w) (dd:=m+d) (xs:=us.toArray) (ys:=vs.toArray) fs.toList 0 (P.cellsOf t) ks h (by grind [fx.length]) (by grind [fy.length]) (by grind) (by grind) (λf hf js hjs=>⟨RZ d f.type js hjs,(by grind)⟩);grind
end
def abH {l m:List Kd}(h:Lo l m=true):l=m:=by
 induction l generalizing m with
 |nil=>grind [Lo]
 |cons a l ih=>
  cases m with
  |nil=>grind [Lo]
  |cons b m=>simp only [Lo,sh] at h;grind [ahn]
def ZG:List Kd->Bool
 |[]=>true
 | .l::_=>false
 | .raw::_=>false
 |_::r=>ZG r
def eqB (P:Program)(t:Nat)(I:TI):Bool:=!ZG I.lay||!Av I.cy||((match pi P 20 t with|some ks=>Lo ks (cks I.lay)|none=>false)&&!P.eqGuardType P.depth t&& (match P.underlying t with|some (.struct _)=>I.st|some (.array _ _)=>!I.st&&(match I.lay with|[.h _ _]=>true|_=>false)|some .bool=>!I.st&&pG I.lay .b|some (.int k)=>!I.st&&pG I.lay (.i k)|some .string=>!I.st&&pG I.lay .s|_=>false))
def aqv (P:Program)(tab:List (Nat×TI)):Bool:=tab.all λp=>eqB P p.1 p.2&&(!afR p.2.zero||(match P.underlying p.1 with|some (.pointer _)=>true|_=>false))
def adC {lay:List Kd}: ∀{ls:List aF},mW lay ls=true->ZG lay=true:=by
 induction lay with
 |nil=>intro ls _;rfl
 |cons k lay ih=>
  intro ls h;cases ls with
  |nil=>grind [mW]
  |cons l ls=>
   simp only [mW] at h;cases h1:Cn k l with
   |false=>grind
   |true=>simp only [h1,cond_true] at h;have:=ih h;cases k<;>first|exact this|grind [Cn]
def adD {t:TypeId}{x y:Value}(h:(∃b,x= .bool b)\/ ∃cs,x= .agg cs)(op:BinOp): (op= .eql->binOp op t x y=(do pure (.bool (<-akH t x y))))/\(op= .neq->binOp op t x y=(do pure (.bool (!(<-akH t x y))))):=by rcases h with ⟨b,rfl⟩|⟨cs,rfl⟩<;>refine ⟨?_,?_⟩<;>rintro rfl<;>cases y<;>rfl
theorem adE {P:Program}{tab:List (Nat×TI)}(h:aqv P tab=true):Wh P (vW tab):=by
 refine ⟨λt I hI hz=> ?_,?_⟩
 .have hr:=ad5.1 h (t,I) (Jf hI);grind
 intro t I hI hc e w vx vy sx sy b rx ry fx fy shx shy hb n1 n2;have hr:=ad5.1 h (t,I) (Jf hI);simp at hr;replace hr:=hr.1;simp only [eqB,adC fx,ahB,akW] at hr;rw [hc] at hr;simp only [Av,ahB,akW,sh,afy] at hr;have ⟨⟨hk,hg⟩,hd⟩:=hr;cases hks:pi P 20 t with
 |none=>grind
 |some ks=>
  simp only [hks] at hk;have hk:=abH hk;subst hk;have cells: ∀(v:Value) (s:Slot),ai e v s->mW I.lay (aX s)=true->Co I.st s=true->(∃us,xz P t v us/\av e us (aX s))/\((∃b,v= .bool b)\/(∃cs,v= .agg cs)\/(∃k n,s= .sc (.p (.i k n)))\/ ∃l,s= .sc (.p (.s l))):=by
   intro v s hv hf hs;cases s<;>simp only [Co] at hs<;>try (cases hs;done)
   .rename_i l;have fw:I.st=false:=by simpa using hs
    cases hu:P.underlying t with
    |none=>grind
    |some d=>
     simp only [hu] at hd;cases d<;>simp only [fw,alQ,akr] at hd<;>try (cases hd;done)
     .have hl:=gw hd;rw [hl] at hf;simp only [aX,mW] at hf;cases l<;>simp [Cn] at hf;rename_i m;cases m<;>simp [Cn] at hf;have:=We hv;exact ⟨⟨[v],by simp [xz,hu],[v],[],rfl,hv,rfl⟩,.inl ⟨_,this⟩⟩
     .have hl:=gw hd;rw [hl] at hf;simp only [aX,mW] at hf;cases l<;>simp [Cn] at hf;exact ⟨⟨[v],by simp [xz,hu],[v],[],rfl,hv,rfl⟩,(by grind)⟩
     .have hl:=gw hd;rw [hl] at hf;simp only [aX,mW] at hf;cases l<;>simp [Cn] at hf;exact ⟨⟨[v],by simp [xz,hu],[v],[],rfl,hv,rfl⟩,(by grind)⟩
     .split at hd;case h_2=>cases hd
      rename_i kk n hl;rw [hl] at hf;simp only [aX,mW] at hf;cases l<;>simp [Cn] at hf;rename_i k' n' x;have ⟨hv,hx⟩:=hv;exact ⟨⟨bN k' x,by grind [xz],bN k' x,[],abu,⟨rfl,hx⟩,rfl⟩,.inr (.inl ⟨_,hv⟩)⟩
   .cases hu:P.underlying t with
    |none=>grind
    |some d=>
     simp only [hu] at hd;cases d<;>simp only [hs,ahB,Bool.false_and] at hd<;>try (cases hd;done)
     have ⟨arr,hv,rQ⟩:=hv;exact ⟨⟨arr.toList,by simp_all [xz],rQ⟩,.inr (.inl ⟨_,hv⟩)⟩
  have ⟨⟨us,wx,lx⟩,kx⟩:=cells vx sx rx fx shx;have ⟨⟨vs,wy,ly⟩,ky⟩:=cells vy sy ry fy shy;have Aa:(akH t vx vy).run P w= .ok b w:=by have:=KW (P:=P) (w:=w) 20 t _ hks 9980 vx vy us vs wx wy (RY lx fx) (RY ly fy);rw [aht lx ly hb] at this;exact this
  refine ⟨Aa,λx y op=> ?_⟩;have hxk:(∃b,vx= .bool b)\/ ∃cs,vx= .agg cs:=by
   rcases kx with h1|h1|⟨k,n,h1⟩|⟨l,h1⟩
   .exact .inl h1
   .exact .inr h1
   .subst h1;cases hu:P.underlying t with
    |none=>grind
    |some d=>
     simp only [aX] at fx fy hb;cases B0:I.lay with
     |nil=>grind [mW]
     |cons k0 r0=>
      rw [B0] at fx fy;simp only [mW] at fx;cases k0<;>simp [Cn] at fx;cases sy<;>simp only [Co] at shx shy<;>try (cases shy;done)
      .rename_i l;simp only [aX,mW] at fy;cases l<;>simp [Cn] at fy;simp_all
      grind
   .subst h1;simp only [aX] at fx fy hb;cases B0:I.lay with
    |nil=>grind [mW]
    |cons k0 r0=>
     rw [B0] at fx fy;simp only [mW] at fx;cases k0<;>simp [Cn] at fx;cases sy<;>simp only [Co] at shx shy<;>try (cases shy;done)
     .rename_i l;simp only [aX,mW] at fy;cases l<;>simp [Cn] at fy;simp_all
     grind
  refine ⟨?_,adD hxk op⟩;have hg':P.eqGuardType P.depth t=false:=hg;rcases hxk with ⟨bb,rfl⟩|⟨cs,rfl⟩
  .cases op<;>rfl
  .cases vy<;>cases op<;>first|rfl|(simp [eqGuard,hg'])
section
variable {P:Program}{c:Ctx}{ops:Array Oper}{N:Act->World->Prop}
def qt (N:Act->World->Prop):Exit->Act->World->Prop
 | .normal,a,w=>N a w
 |_,_,_=>False
def sf (c:Ctx)(oi:Oper)(ops:Array Oper)(i:Nat):Bool:=match ops[i]? with|some o=>S1 c o||xL oi o|none=>true
def B5 (P:Program)(c:Ctx)(ops:Array Oper)(N:Act->World->Prop) (φ:Ph):Nat->Array Bool->Act->World->Prop
 |0,listed,a,w=>AT .any ops listed=[]/\N a w
 |fuel+1,listed,a,w=>(AT .any ops listed=[]->N a w)/\ ∀i∈AT .any ops listed,wpOp P ops (qt N) i (λa' w'=>((∀oi,sf c oi ops i=true->gf c oi w w')/\oN φ w')/\B5 P c ops N φ fuel (listed.setIfInBounds i true) a' w') a w
def adF {φ φ':Ph}(hp:iZ φ φ'): ∀(fuel:Nat) (listed:Array Bool) (a:Act) (w:World),B5 P c ops N φ' fuel listed a w->B5 P c ops N φ fuel listed a w:=by
 intro fuel;induction fuel with
 |zero=>intro listed a w h;exact h
 |succ fuel ih=>intro listed a w h;exact ⟨h.1,λi hi=>wpOp_mono (λa w h=>⟨⟨h.1.1,λb o v hv=>h.1.2 b o v (hp b o v hv)⟩,ih _ _ _ h.2⟩) (h.2 i hi)⟩
def WQ {φ:Ph}: ∀(fuel:Nat) (listed:Array Bool) (a:Act) (w:World),B5 P c ops N φ fuel listed a w->wpAny P .any ops (qt N) fuel listed a w:=by
 intro fuel;induction fuel with
 |zero=>intro listed a w h;exact h
 |succ fuel ih=>intro listed a w h;exact ⟨h.1,λi hi=>wpOp_mono (by grind) (h.2 i hi)⟩
theorem ZH {oi oj p:Oper} {w w':World}(h1:xL oi p=true)(h2:xL oj p=true)(h:gf c oi w w'):gf c oj w w':=by grind [xL,bD,gf,ag5]
def aqw {j:Nat}{oi oj:Oper}{v:Value}(hj:ops[j]? =some oj)(y7:oi.apart ops oj=true)(hsi: ∀cs b,oi.op≠ .select cs b)(hsj: ∀cs b,oj.op≠ .select cs b){K:Act->World->Prop}{a:Act}{w:World}(h:wpOp P ops (qt N) j K (a.put oi.dst v) w): wpOp P ops (qt N) j (λa' w'=>(execOp a'.eval oi=execOp a.eval oi/\No oi (yielded ops a'.tmps)=No oi (yielded ops a.tmps))/\K (a'.put oi.dst v) w') a w:=by
 have ⟨h1,h2,h3⟩:=Oper.apart_spec y7;have keep: ∀(a:Act) (u:Value),execOp (a.put oj.dst u).eval oi=execOp a.eval oi/\No oi (yielded ops (a.put oj.dst u).tmps)=No oi (yielded ops a.tmps):=λa u=>⟨execOp_put oi hsi a oj.dst u h3,wanted_put oi a oj.dst u h3⟩
 unfold wpOp at *;simp only [hj] at *;rw [wanted_put oj a oi.dst v h1] at h;split
 .rename_i hw;simp only [hw,if_true] at h;rcases h with h|⟨auy,ahv⟩;case inr=>have ⟨_,_,hf⟩:=ahv;exact hf.elim
  refine .inl ?_;unfold akA at *;rw [execOp_put oj hsj a oi.dst v h1] at h;generalize (execOp a.eval oj).run P w=r at *;cases r with
  |ok n w'=>
   cases n<;>simp only [aky] at h⊢;case value u=>grind [aec]
   case skip=>grind [aec,undef]
   case defer d=>refine ⟨keep _ _,?_⟩;grind [aec,undef,Act.put_defers]
   case enter f args=>
    refine Calls.mono h λx I6 he=> ?_;cases x with
    |returned u=>grind [aec]
    |panicked c=>exact he
    |outgrown=>exact he
   grind [Rows.mono,aec]
  |halt x w'=>cases x<;>simp only [aky] at h⊢;case panic u=>exact h
 grind [aec,undef]
def abI (P:Program)(c:Ctx)(ops:Array Oper) (φ:Ph)(o:Oper)(v:Value)(a:Act)(w:World):Prop:=(No o (yielded ops a.tmps)=true/\ ∀w',(mR c o=true->(still c o=false->gf c o w w')/\oN φ w')->(execOp a.eval o).run P w'= .ok (.value v) w')\/ (No o (yielded ops a.tmps)=false/\v=undef)
theorem Ax {φ:Ph}{i:Nat}{oi:Oper}{v:Value}{D:List Nat}(hD: ∀j oj,j∈D->j≠i->ops[j]? =some oj-> ∃e∈oj.after,afN .any e=true/\e.on∈D)(hi:ops[i]? =some oi)(TB: ∀(j:Nat)(o:Oper) cs b,ops[j]? =some o->o.op≠ .select cs b): ∀(fuel:Nat) (listed:Array Bool) (a:Act) (w:World),(∀j oj,ops[j]? =some oj->j∉D->j≠i->listed.getD j true=false->oi.apart ops oj=true/\(mR c oi=true->still c oi=false->sf c oi ops j=true))->(∀d∈D,listed.getD d false=false)-> i∈AT .any ops listed->abI P c ops φ oi v a w->oN φ w-> B5 P c ops N φ fuel (listed.setIfInBounds i true) (a.put oi.dst v) w->B5 P c ops N φ (fuel+1) listed a w:=by
 have self: ∀(fuel:Nat) (listed:Array Bool) (a:Act) (w:World),abI P c ops φ oi v a w->oN φ w->B5 P c ops N φ fuel (listed.setIfInBounds i true) (a.put oi.dst v) w-> wpOp P ops (qt N) i (λa' w'=>((∀oi,sf c oi ops i=true->gf c oi w w')/\oN φ w')/\B5 P c ops N φ fuel (listed.setIfInBounds i true) a' w') a w:=by
  intro fuel listed a w hy hm H;unfold wpOp;simp only [hi];rcases hy with ⟨hw,hv⟩|⟨hw,rfl⟩
  .simp only [hw,if_true,akA,hv w (λ_=>⟨λ_=>(dk.refl w).for,hm⟩),aky];exact .inl ⟨⟨λ_ _=>(dk.refl w).for,hm⟩,H⟩
  .simp only [hw,afw,if_false];exact ⟨⟨λ_ _=>(dk.refl w).for,hm⟩,H⟩
 intro fuel;induction fuel with
 |zero=>
  intro listed a w _ _ hr hy hm H;refine ⟨(by grind),λj hj=> ?_⟩;by_cases hji:j=i
  .grind
  .have:=ready_mono hj hji;rw [H.1] at this;cases this
 |succ fuel ih=>
  intro listed a w rR NK hr hy hm H;refine ⟨(by grind),λj hj=> ?_⟩;by_cases hji:j=i
  .grind
  .have h1:=H.2 j (ready_mono hj hji);have ⟨ZI,oj,hoj,uw⟩:=mem_ready.1 hj;have hjD:j∉D:=by intro hjd;obtain ⟨e,he,hb,vA⟩:=hD j oj hjd hji hoj;have h1:=uw e he hb;rw [NK e.on vA] at h1;cases h1
   have ⟨y7,hgr⟩:=rR j oj hoj hjD hji ZI;have h2:=aqw hoj y7 (λcs b=>TB i oi cs b hi) (λcs b=>TB j oj cs b hoj) h1;have auA: ∀d∈D,(listed.setIfInBounds j true).getD d false=false:=by intro d hd;rw [getD_set_ne false (by grind)];exact NK d hd
   have aqx: ∀k ok,ops[k]? =some ok->k∉D->k≠i->(listed.setIfInBounds j true).getD k true=false->oi.apart ops ok=true/\(mR c oi=true->still c oi=false->sf c oi ops k=true):=λk ok hk hkD ZJ hun=>by
    refine rR k ok hk hkD ZJ ?_;by_cases hjk:j=k
    .grind
    .rw [getD_set_ne true hjk] at hun;exact hun
   refine wpOp_mono (λa' w' h3=>⟨h3.2.1,ih (listed.setIfInBounds j true) a' w' aqx auA (ready_mono hr (Ne.symm hji)) ?_ h3.2.1.2 ?_⟩) h2
   .have ⟨⟨he,hwn⟩,⟨hg,_⟩,_⟩:=h3;rcases hy with ⟨hw,hv⟩|⟨hw,rfl⟩
    .refine .inl ⟨by grind,λI6 hg2=> ?_⟩;rw [he];exact hv I6 (λhl=>⟨λhs=>(hg oi (hgr hl hs)).trans ((hg2 hl).1 hs),(hg2 hl).2⟩)
    .exact .inr (by grind)
   grind [akt]
variable {Z:bC}{R:Type}{K:St->Option R}{r:R}
def adG (op:Op):Zd op=op.operands.toList:=by
 cases op<;>first|rfl|simp [Zd,Op.operands,Call.operands]
 grind
def ahw (l:List Operand):V2 l=l.filterMap λ| .tmp t=>some t|_=>none:=by
 induction l with
 |nil=>rfl
 |cons x l ih=>grind [V2]
def R0 (o:Oper):S0 ops.toList o=o.looksAt ops:=by unfold S0 Oper.looksAt;rw [adG,ahw];grind
theorem DX {x y:Oper}(h:MX ops.toList x y=true):x.apart ops y=true:=by
 unfold MX at h;unfold Oper.apart;rw [R0,R0] at h;have hn: ∀(l:List Nat) (d:Nat),bL l d=l.contains d:=by intro l d;have:=bH l d;cases h1:bL l d<;>cases h2:l.contains d<;>simp_all
 cases hx:x.dst<;>cases hy:y.dst<;>simp_all [bne,iy]
def zf (e:Edge):MY e=afN .any e:=by unfold MY afN;grind
structure Lst (ops:Array Oper) (listed:Array Bool) (pre:List Nat):Prop where
 size:listed.size=ops.size
 mem: ∀i,i<ops.size->(listed.getD i true=true↔i∈pre)
def Lst.set {listed:Array Bool}{pre:List Nat}{x:Nat}(h:Lst ops listed pre)(hx:x<ops.size):Lst ops (listed.setIfInBounds x true) (x::pre):=by
 refine ⟨by grind [h.size],λi hi=> ?_⟩;by_cases hix:x=i
 .simp_all
 .rw [getD_set_ne true hix,h.mem i hi];grind
def Lst.qu {listed:Array Bool}{pre:List Nat}{i:Nat}(h:Lst ops listed pre)(hi:i<ops.size):listed.getD i true=false↔i∉pre:=by rw [<-h.mem i hi];grind
theorem Lst.done {listed:Array Bool}{pre:List Nat}{i:Nat}(h:Lst ops listed pre)(hi:i<ops.size):listed.getD i false=true↔i∈pre:=by
 rw [<-h.mem i hi];have hl:i<listed.size:=by rw [h.size];exact hi
 simp [hl]
theorem nt: ∀(rest pre:List Nat),tq c ops.toList pre rest=true-> ∀z∈rest,z∉pre:=by
 intro rest;induction rest with
 |nil=>grind
 |cons y rest ihr=>
  intro pre hd z hz;simp only [tq] at hd;cases hy:ops.toList[y]? with
  |none=>grind
  |some oy=>grind [bH]
def yD {o:Oper}{x:Nat}: ∀(rest D0:List Nat),tp c ops.toList o D0 rest=true->(∀y,y∈D0->y≠x-> ∃p,ops[y]? =some p/\ ∃e∈p.after,afN .any e=true/\e.on∈D0)-> ∃D:List Nat,(∀y∈D0,y∈D)/\(∀y∈D,y∈D0\/y∈rest)/\(∀j oj,j∈D->j≠x->ops[j]? =some oj-> ∃e∈oj.after,afN .any e=true/\e.on∈D)/\ (∀y∈rest,y∉D-> ∃p,ops[y]? =some p/\o.apart ops p=true/\(mR c o=true->still c o=false->(S1 c p||xL o p)=true)):=by
 intro rest;induction rest with
 |nil=>intro D0 _ h0;refine ⟨D0,λy hy=>hy,λy hy=> .inl hy,λj oj hj eR ho=> ?_,λy hy=>by cases hy⟩;grind
 |cons y rest ih=>
  intro D0 h h0;simp only [tp] at h;cases hy:ops.toList[y]? with
  |none=>grind
  |some p=>
   simp only [hy] at h;cases he:I4 p (bL D0) with
   |true=>
    simp only [he,cond_true] at h;have ⟨D,D1,D2,D3,D4⟩:=ih (y::D0) h (by
     intro z hz eR;rcases AI.1 hz with rfl|hz
     .have ⟨ed,hed,hb⟩:=akz.1 he;simp only [sh,zf] at hb;grind [bH]
     grind)
    refine ⟨D,(by grind),λz hz=> ?_,D3,λz hz hzD=> ?_⟩;all_goals grind
   |false=>simp only [he,cond_false,sh,alL,afy] at h;have ⟨⟨h1,h2⟩,h3⟩:=h;have ⟨D,D1,D2,D3,D4⟩:=ih D0 h3 h0;refine ⟨D,D1,(by grind),D3,λz hz hzD=> ?_⟩;grind [DX]
def bC.outs (Z:bC)(bs:List Nat):bC:={Z with In:=λb=>Z.In b/\b∉bs,Pr:=λb=>Z.Pr b/\b∉bs}
def bT.vY {Z Z':bC}{e:Env}{st:St}{a:Act}{w:World}(h:bT c Z e st a w)(hI: ∀b,Z.In b->Z'.In b)(hP: ∀b,Z.Pr b->Z'.Pr b)(h1:Z'.cX=Z.cX)(h2:Z'.cV=Z.cV)(h3:Z'.T=Z.T)(h4:Z'.cov=Z.cov):bT c Z' e st a w:=by
 refine ⟨by grind [h.defers],h.size,h.m,h.key,h.nodup,λt=> ?_,h.root,λf o ho=> ?_,h.bb,h.bf,h.ff,h.mj,λb hb=>hI b (h.cz b hb)⟩
 .have hs:=h.slot t;generalize au st.fr t=s at hs;cases s<;>simp only [eD] at hs⊢ <;>first|exact hs|skip
  exact ⟨⟨hs.1.1,λhp=>by rw [h1,h3];exact hs.1.2 hp⟩,⟨by rcases hs.2.cz with ⟨x,y⟩|x;exact .inl (by grind);exact .inr (hI _ x),hs.2.obj,hs.2.free⟩⟩
 .have ⟨I,cells,g1,g2,g3,g4,g5⟩:=(h.jC f o ho).row;refine ⟨I,cells,g1,g2,g3,g4,λbg hb=> ?_⟩;have ⟨k1,k2,k3⟩:=g5 bg hb;refine ⟨?_,k2,λhc hz j hj=>k3 (by have hc:f∈Z'.cV:=hc;rw [h2] at hc;exact hc) hz j hj⟩;rcases k1 with ⟨x,y⟩|x
  .exact .inl (by grind)
  .exact .inr (hI _ x)
def bT.narrow {e:Env}{st:St}{a:Act} {w w':World}{bs:List Nat}(h:bT c (Z.outs bs) e st a w)(g:dk w w')(hs:w.heap.size<w'.heap.size):bT c (Z.outs (w.heap.size::bs)) e st a w':=by
 have h':=h.grow g;have Am: ∀b,b<w.heap.size->(Z.outs bs).In b->(Z.outs (w.heap.size::bs)).In b:=λb hb hi=>⟨hi.1,by simp;exact ⟨aab,hi.2⟩⟩
 have Tf: ∀b,b<w.heap.size->(Z.outs bs).Pr b->(Z.outs (w.heap.size::bs)).Pr b:=λb hb hi=>⟨hi.1,by simp;exact ⟨aab,hi.2⟩⟩
 refine ⟨h'.defers,h'.size,h'.m,h'.key,h'.nodup,λt=> ?_,h'.root,λf o ho=> ?_,h'.bb,h'.bf,h'.ff,h'.mj,λb hb=> ?_⟩
 .have hs:=h.slot t;have yY:=h'.slot t;generalize au st.fr t=s at hs yY;cases s<;>simp only [eD] at hs yY⊢ <;>first|exact yY|skip
  have ⟨o2,k1,_⟩:=hs.2.obj;have hl:=bx k1;exact ⟨yY.1,⟨by rcases yY.2.cz with ⟨x,y⟩|x;exact .inl ⟨x,Tf _ hl y⟩;exact .inr (Am _ hl x),yY.2.obj,yY.2.free⟩⟩
 .have ⟨I,cells,g1,g2,g3,g4,g5⟩:=(h'.jC f o ho).row;refine ⟨I,cells,g1,g2,g3,g4,λbg hb=> ?_⟩;have ⟨k1,k2,k3⟩:=g5 bg hb;refine ⟨?_,k2,k3⟩;have hl:bg<w.heap.size:=by
   obtain ⟨I',ap3,l1,l2,l3,l4,l5⟩:=(h.jC f o ho).row;rcases l3.2 with ⟨hv,_⟩|⟨gg,cap,dp,hv,_,hg,_⟩
   .grind [IT]
   .grind [IT,By,bx]
  rcases k1 with ⟨x,y⟩|x
  .exact .inl ⟨x,Tf _ hl y⟩
  .exact .inr (Am _ hl x)
 .refine ⟨(h.cz b aab).1,?_⟩;simp;exact ⟨aab,(h.cz b aab).2⟩
def vOf (b:Nat):Value:= .pointer (some ⟨b,0,none⟩)
def zg (ops:Array Oper)(i:Nat):Option Nat:=match ops[i]? with
 |some o=>o.dst
 |none=>none
def yE (ops:Array Oper):List (Nat×Nat)->Act->Act
 |[],a=>a
 |p::r,a=>(yE ops r a).put (zg ops p.1) (vOf p.2)
structure alE (c:Ctx) (Z:bC) (ops:Array Oper) (e:Env) (w:World) (p:Nat×Nat):Prop where
 row: ∃o t I d arr T,ops[p.1]? =some o/\Lp o=true/\o.op= .alloc t/\c.tv t=some I/\o.dst=some d/\w.heap[p.2]? =some (.cells arr T (0,0))/\ ∀e':Env,av e' arr.toList I.zero
 free: ∀off,e.φ p.2 off=none
 cz:Z.In p.2
def DY {o:Oper}(h:Lp o=true): ∃t d,o.op= .alloc t/\o.dst=some d/\o.guard=none/\ ∀e∈o.after,afN .any e=false:=by
 unfold Lp at h;split at h
 .rename_i t d h1 h2 h3;refine ⟨t,d,h1,h2,h3,λe he=> ?_⟩;have:=ad5.1 h e (by simpa using he);simpa [zf] using this
 .cases h
def FQ {t:TypeId}{I:TI}(hI:c.tv t=some I)(hT:iz P c.ti): ∃i z,P.info? t=some i/\i.zero=some z/\ ∀e:Env,av e z.cells.toList I.zero:=by
 have ⟨ng,hc⟩:=a8 hI;have ⟨d,i,h1,h2,h3,h4⟩:=hT t I ng;suffices hz: ∃z,i.zero=some z/\ ∀e:Env,av e z.cells.toList I.zero by grind
 cases d<;>simp only [tt] at h4;case struct fs=>grind [afE,nh]
 case tuple ts=>grind
 case slice el=>have ⟨_,_,_,_,_,hz,hl,_⟩:=h4;exact ⟨_,hz,λe=>by rw [hl];exact ⟨[.slice none 0 0],[],rfl,rfl,rfl⟩⟩
 case array n el=>have ⟨_,_,_,_,k,m,_,_,_,hl,hz⟩:=h4;exact ⟨_,hz,λe=>by rw [hl];exact ⟨bN k (zA m),[],by simp [afE],⟨rfl,abu⟩,rfl⟩⟩
 case bool=>have ⟨_,_,_,_,hl,hz⟩:=h4;exact ⟨_,hz,λe=>by rw [hl];exact ⟨[.bool false],[],rfl,⟨rfl,.b _⟩,rfl⟩⟩
 case int k=>have ⟨_,_,_,_,hl,hz⟩:=h4;exact ⟨_,hz,λe=>by rw [hl];exact ⟨[.int k 0],[],rfl,⟨rfl,.i _ _⟩,rfl⟩⟩
 case string=>have ⟨_,_,_,_,hl,b,hz,hb⟩:=h4;refine ⟨_,hz,λe=>by rw [hl];refine ⟨[.string b],[],rfl,⟨rfl,?_⟩,rfl⟩;rw [<-hb];exact .s b⟩
 all_goals
  have ⟨_,_,_,_,v,hz,hv,hl⟩:=h4;have:v.cells.toList=[v]:=by cases v<;>simp_all [afE,alP]
  grind [nh]
def KX {o:Oper}(hs: ∀cs b,o.op≠ .select cs b)(a:Act): ∀(pd:List (Nat×Nat)),(∀p∈pd,∀d,zg ops p.1=some d->d∉o.looksAt ops)-> execOp (yE ops pd a).eval o=execOp a.eval o/\No o (yielded ops (yE ops pd a).tmps)=No o (yielded ops a.tmps)
 |[],_=>⟨rfl,rfl⟩
 |p::r,h=>by have ⟨h1,h2⟩:=KX hs a r (by grind);have hp:=h p abu;exact ⟨(execOp_put o hs _ _ _ hp).trans h1,(wanted_put o _ _ _ hp).trans h2⟩
def Hj (a:Act)(y:Option Nat)(v:Value): ∀(pd:List (Nat×Nat)),(∀p∈pd,∀d,zg ops p.1=some d->y≠some d)->(yE ops pd a).put y v=yE ops pd (a.put y v)
 |[],_=>rfl
 |p::r,h=>by simp only [yE];rw [aec _ _ _ (by grind),Hj a y v r (by grind)]
def alF {j:Nat}{oj:Oper}{x:Option Nat}{v:Value}(hj:ops[j]? =some oj)(h1: ∀d,x=some d->d∉oj.looksAt ops)(h2: ∀d,x=some d->oj.dst≠some d)(hsj: ∀cs b,oj.op≠ .select cs b){K:Act->World->Prop}{a:Act}{w:World}(h:wpOp P ops (qt N) j K a w): wpOp P ops (qt N) j (λa' w'=> ∃a'',a'=a''.put x v/\K a'' w') (a.put x v) w:=by
 unfold wpOp at *;simp only [hj] at *;rw [wanted_put oj a x v h1];split
 .rename_i hw;simp only [hw,if_true] at h;rcases h with h|⟨auy,ahv⟩;case inr=>have ⟨_,_,hf⟩:=ahv;exact hf.elim
  refine .inl ?_;unfold akA at *;rw [execOp_put oj hsj a x v h1];generalize (execOp a.eval oj).run P w=r at *;cases r with
  |ok n w'=>
   cases n<;>simp only [aky] at h⊢;case value u=>grind [aec]
   case skip=>grind [aec,undef]
   case defer d=>refine ⟨{a.put oj.dst undef with defers:=d::(a.put oj.dst undef).defers},?_,by grind [Act.put_defers]⟩;have:=aec a v undef h2;cases x<;>cases hd:oj.dst<;>simp_all [Act.put]
   case enter f args=>
    refine Calls.mono h λy I6 he=> ?_;cases y with
    |returned u=>grind [aec]
    |panicked c=>exact he
    |outgrown=>exact he
   grind [Rows.mono,aec]
  |halt y w'=>cases y<;>simp only [aky] at h⊢;case panic u=>exact h
 grind [aec,undef]
def abJ {j:Nat}{oj:Oper}(hj:ops[j]? =some oj)(hsj: ∀cs b,oj.op≠ .select cs b){K:Act->World->Prop}{a:Act}{w:World}(h:wpOp P ops (qt N) j K a w): ∀(pd:List (Nat×Nat)),(∀p∈pd,∀d,zg ops p.1=some d->d∉oj.looksAt ops/\oj.dst≠some d)->wpOp P ops (qt N) j (λa' w'=> ∃a'',a'=yE ops pd a''/\K a'' w') (yE ops pd a) w
 |[],_=>wpOp_mono (λa' w' hk=>⟨a',rfl,hk⟩) h
 |p::r,hp=>by have h1:=abJ hj hsj h r (λq hq=>hp q (by simp [hq]));have h2:=alF (v:=vOf p.2) hj (λd hd=>(hp p abu d hd).1) (λd hd=>(hp p abu d hd).2) hsj h1;refine wpOp_mono ?_ h2;rintro a' w' ⟨a1,rfl,a2,rfl,hk⟩;exact ⟨a2,rfl,hk⟩
def R2: ∀{l m:List Nat},l.Nodup->(∀x∈l,x∈m)->l.length<=m.length
 |[],m,_,_=>akJ _
 |x::l,m,hn,hs=>by have hn:=agx.1 hn;have h1:l.length<=(m.erase x).length:=R2 hn.2 (by grind);grind
def WR {x b:Nat}{o:Oper}(hdo:zg ops x=o.dst)(a:Act)(pr:List (Nat×Nat)): ∀(pl:List (Nat×Nat)),(∀p∈pl++pr,∀dd,zg ops p.1=some dd->o.dst≠some dd)->yE ops (pl++(x,b)::pr) a=yE ops (pl++pr) (a.put o.dst (vOf b))
 |[],h=>by simp only [List.nil_append,yE,hdo];exact Hj a o.dst (vOf b) pr (by grind)
 |q::pl,h=>by simp only [aku,yE];rw [WR hdo a pr pl (by grind)]
def Lst.congr {listed:Array Bool} {l l':List Nat}(h:Lst ops listed l)(he: ∀i,i∈l↔i∈l'):Lst ops listed l':=⟨h.size,λi hi=>by rw [h.mem i hi,he]⟩
def WS {o:Oper}: ∀(rest D:List Nat),tp c ops.toList o D rest=true-> ∀y∈rest,∀p,ops[y]? =some p->Lp p=true->o.apart ops p=true:=by
 intro rest;induction rest with
 |nil=>grind
 |cons z rest ih=>
  intro D h y hy p hp Ti;simp only [tp] at h;cases hz:ops.toList[z]? with
  |none=>grind
  |some q=>
   simp only [hz] at h;cases he:I4 q (bL D) with
   |true=>
    rcases AI.1 hy with rfl|hy
    .have ⟨_,_,_,_,_,eR⟩:=DY Ti;simp_all [I4,akz,sh,zf,absurd]
    grind
   |false=>grind [DX]
def NL {o p:Oper}{y:Nat}(hp:ops[y]? =some p)(h:p.apart ops o=true\/o.apart ops p=true): ∀d,zg ops y=some d->d∉o.looksAt ops/\o.dst≠some d:=by
 intro d hd;have hd:p.dst=some d:=by simpa [zg,hp] using hd
 grind [Oper.apart_spec]
def alE.later {Z:bC}{bs:List Nat} {e e':Env} {w w':World}{p:Nat×Nat}(h:alE c Z ops e w p)(hb:p.2∈bs)(t:Trans (Z.outs bs).In e.φ w e'.φ w'):alE c Z ops e' w' p:=by have ⟨o,ty,I,d,arr,T,h1,h2,h3,h4,h5,h6,h7⟩:=h.row;have hn: ¬(Z.outs bs).In p.2:=λhh=>hh.2 hb;exact ⟨⟨o,ty,I,d,arr,T,h1,h2,h3,h4,h5,by rw [t.heap _ hn (bx h6)];exact h6,h7⟩,λoff=>by rw [t.free _ off hn];exact h.free off,h.cz⟩
def Trans.wide {Z Z':Nat->Prop} {φ φ':Ph} {w w':World}(t:Trans Z φ w φ' w')(h: ∀b,Z b->Z' b):Trans Z' φ w φ' w':=⟨t.ph,λb hb hl=>t.heap b (λhz=>hb (h b hz)) hl,λb o hb=>t.free b o (λhz=>hb (h b hz)),t.size,t.rest⟩
theorem alG (hG:Good P c)(TB: ∀(j:Nat)(o:Oper) cs b,ops[j]? =some o->o.op≠ .select cs b) {φ0:Ph}{w0:World}(hN: ∀a' w',Out c Z K r φ0 w0 a' w'->N a' w'): ∀(m:Nat) (rest pre:List Nat) (pd:List (Nat×Nat)) (l:List Oper) (listed:Array Bool) (e:Env) (st:St) (a:Act) (w:World),2 *rest.length-pd.length<=m->bT c (Z.outs (pd.map (·.2))) e st a w->GY c ops.toList l st K=some r->Trans Z.In φ0 w0 e.φ w->s7 ops.toList rest=some l-> tq c ops.toList pre rest=true->Lst ops listed (pd.map (·.1)++pre)->(∀i,i<ops.size->i∈pre\/i∈rest)->(∀i∈pre,i<ops.size)->(∀p∈pd,p.1∈rest)->(pd.map (·.1)).Nodup->(pd.map (·.2)).Nodup->(∀p∈pd,alE c Z ops e w p)-> pd.length<=rest.length->B5 P c ops N e.φ (rest.length-pd.length) listed (yE ops pd a) w:=by
 intro m;induction m with
 |zero=>
  intro rest pre pd l listed e st a w hm h hK ht hp hd hL uw aqz Tf YU Me hpe hle;cases rest with
  |cons x rest=>grind
  |nil=>
   cases pd with
   |cons p pd=>simp at hle
   |nil=>
    cases hp;have h':bT c Z e st a w:=h.vY (λb hb=>hb.1) (λb hb=>hb.1) rfl rfl rfl rfl;refine ⟨?_,hN a w ⟨e,st,h',ht,hK⟩⟩;cases hr:AT .any ops listed with
    |nil=>rfl
    |cons i is=>
     have hi:i∈AT .any ops listed:=by rw [hr];simp
     have ⟨h1,o,ho,_⟩:=mem_ready.1 hi;have dX:i<ops.size:=(by grind)
     exact absurd (by grind) ((hL.qu dX).1 h1)
 |succ m ihm=>
  intro rest pre pd l listed e st a w hm h hK ht hp hd hL uw aqz Tf YU Me hpe hle;cases rest with
  |nil=>grind
  |cons x rest=>
   simp only [s7] at hp;cases hox:ops.toList[x]? with
   |none=>grind
   |some o=>
    cases hpk:s7 ops.toList rest with
    |none=>grind
    |some l'=>
     simp only [hox,hpk,By] at hp;subst hp;have hx:ops[x]? =some o:=by simpa using hox
     have ZK:x<ops.size:=(by grind)
     have hd0:=hd;simp only [tq,hox] at hd;simp only [sh,afy] at hd;obtain ⟨⟨⟨⟨d1,d2⟩,d3⟩,d4⟩,d5⟩:=hd;have NM:x∉pre:=by rw [<-bH,d2];simp
     have NN:x∉rest:=by rw [<-bH,d3];simp
     have abK: ∀i,i<ops.size->i∈x::pre\/i∈rest:=by
      intro i hi;rcases uw i hi with h1|h1
      .grind
      .grind
     have aos: ∀i∈x::pre,i<ops.size:=by
      intro i hi;rcases AI.1 hi with rfl|hi
      .exact ZK
      .grind
     have aqA:=hK;simp only [GY] at hK;have alH: ∀p∈pd,∃q,ops[p.1]? =some q/\Lp q=true:=λp hp=>by have ⟨q,_,_,_,_,_,h1,h2,_⟩:=(hpe p hp).row;grind
     unfold af5 at hK;obtain ⟨cj,go,h',hK,hw⟩:=WB h hK;have aot: ∀cs b,o.op≠ .select cs b:=(by grind)
     by_cases hxp:x∈pd.map (·.1)
     .
      obtain ⟨⟨x',b⟩,hpx,hxe⟩:=afK.1 hxp;have hxe:x'=x:=hxe;subst hxe;obtain ⟨o',t,I,d,arr,T,k1,k2,k3,k4,k5,k6,k7⟩:=(hpe _ hpx).row;rw [hx] at k1;cases k1;obtain ⟨_,_,_,_,hgn,eR⟩:=DY k2;have hgo:go=true:=by rw [<-hw];simp [No,hgn]
      subst hgo;have hrd:(jE o&&!iW c o)=false:=by simp [jE,k3]
      simp only [hrd,cond_false] at d4;obtain ⟨pl,pr,rfl⟩:=List.append_of_mem hpx;have hbn:b∉(pl++pr).map (·.2):=by have:((pl++(x',b)::pr).map (·.2)).Nodup:=Me;simp only [agu,aks,akq,agx,AI] at this;simp only [agu,agG,not_or];exact (by grind)
      have hxn:x'∉(pl++pr).map (·.1):=by have:((pl++(x',b)::pr).map (·.1)).Nodup:=YU;simp only [agu,aks,akq,agx,AI] at this;simp only [agu,agG,not_or];exact (by grind)
      have ahx: ∀p∈pl++pr,p∈pl++(x',b)::pr:=(by grind)
      have nm:bT c (Z.outs ((pl++pr).map (·.2))) e cj a w:=by
       refine h'.vY (λu hu=>⟨hu.1,λhm=>hu.2 ?_⟩) (λu hu=>⟨hu.1,λhm=>hu.2 ?_⟩) rfl rfl rfl rfl<;>
       .grind
      have auE:b∈(pl++(x',b)::pr).map (·.2):=abu
      have ml:vQ (Z.outs ((pl++pr).map (·.2))) e w cj (vOf b) (.box I.zero):=by
       refine ⟨b,by rw [yy (k7 e).Fk];rfl,⟨⟨(hpe _ hpx).cz,hbn⟩,⟨_,k6,rfl,k7 e⟩,(hpe _ hpx).free⟩,λt' jM V9 V7=> ?_,λf o' FL V7=> ?_⟩
       .have hs:=h'.slot t';rw [V9] at hs;rcases hs.2.cz with ⟨_,u⟩|u
        .exact u.2 (by grind)
        .exact u.2 (by grind)
       .have ⟨I',cells,g1,g2,g3,g4,g5⟩:=(h'.jC f o' FL).row;rcases (g5 b V7).1 with ⟨_,u⟩|u
        .exact u.2 auE
        .exact u.2 auE
      simp only [cond_true,opK,k3,k4] at hK;obtain ⟨e2,eG,j1,j2,j3⟩:=df nm ml hK;have aqB:yE ops (pl++(x',b)::pr) a=yE ops (pl++pr) (a.put o.dst (vOf b)):=by
       have y7: ∀p∈pl++pr,∀dd,zg ops p.1=some dd->o.dst≠some dd:=by
        intro p hp dd hdd;obtain ⟨q,hq,Ti⟩:=alH p (ahx p hp);have ahy:p.1∈rest:=by
         rcases AI.1 (Tf p (ahx p hp)) with he|he
         .grind
         .exact he
        have:=ad5.1 d4 p.1 ahy;have hq':ops.toList[p.1]? =some q:=by simpa using hq
        simp only [hq',Ti,cond_true,sh] at this;exact (NL hq (.inl (DX this.1)) dd hdd).2
       exact WR (by simp [zg,hx]) a pr pl y7
      rw [aqB,<-j3];have hlen:(x'::rest).length-(pl++(x',b)::pr).length=rest.length-(pl++pr).length:=by simp only [afL,ak0];omega
      rw [hlen];refine ihm rest (x'::pre) (pl++pr) l' listed e2 eG _ w ?_ j1 j2 (by grind) hpk d5 ?_ abK aos ?_ ?_ ?_ ?_ ?_
      .grind
      .refine hL.congr (λi=> ?_);grind
      .grind
      .grind
      .grind
      .intro p hp;have ⟨q1,q2,q3⟩:=hpe p (ahx p hp);exact ⟨q1,λoff=>by rw [j3];exact q2 off,q3⟩
      grind
     .have ahy: ∀p∈pd,p.1∈rest:=(by grind)
      have hlr:pd.length<=rest.length:=by have h1:(pd.map (·.1)).length<=rest.length:=R2 YU (by grind);simpa using h1
      have auF:(x::rest).length-pd.length=(rest.length-pd.length)+1:=by simp only [afL];omega
      rw [auF];have hun:x∉pd.map (·.1)++pre:=by simp only [agG,not_or];exact ⟨hxp,NM⟩
      have FR:x∈AT .any ops listed:=by refine mem_ready.2 ⟨(hL.qu ZK).2 hun,o,hx,λed hed hb=> ?_⟩;have:=ad5.1 d1 ed (by simpa using hed);simp only [zf,hb,ahB,akW] at this;have hm:=(bH _ _).1 this;exact (hL.done (aqz _ hm)).2 (by simp [hm])
      have next: ∀(e':Env) (eG:St) (a':Act) (w':World),bT c (Z.outs (pd.map (·.2))) e' eG a' w'->Trans (Z.outs (pd.map (·.2))).In e.φ w e'.φ w'->GY c ops.toList l' eG K=some r->B5 P c ops N e.φ (rest.length-pd.length) (listed.setIfInBounds x true) (yE ops pd a') w':=by
       intro e' eG a' w' h1 t1 xw;refine adF t1.ph _ _ _ _ ?_;refine ihm rest (x::pre) pd l' _ e' eG a' w' ?_ h1 xw (ht.trans (t1.wide λb hb=>hb.1)) hpk d5 ((hL.set ZK).congr λi=> ?_) abK aos ahy YU Me (λp hp=>(hpe p hp).later (by grind) t1) hlr
       .grind
       .grind
      cases hrd:jE o&&!iW c o with
      |true=>
       simp only [hrd,cond_true] at d4;have y7: ∀p∈pd,∀dd,zg ops p.1=some dd->dd∉o.looksAt ops/\o.dst≠some dd:=by intro p hp;obtain ⟨q,hq,Ti⟩:=alH p hp;exact NL hq (.inr (WS rest [x] d4 p.1 (ahy p hp) q hq Ti))
       obtain ⟨hex,hwn⟩:=KX aot a pd (λp hp d hd=>(y7 p hp d hd).1);obtain ⟨D,D1,D2,D3,D4⟩:=yD rest [x] d4 (λy hy eR=>absurd (by simpa using hy) eR);have rR: ∀j oj,ops[j]? =some oj->j∉D->j≠x->listed.getD j true=false->o.apart ops oj=true/\(mR c o=true->still c o=false->sf c o ops j=true):=by
        intro j oj hoj hjD hjx ZI;have WT:j<ops.size:=(by grind)
        have hjr:j∈rest:=by
         rcases abK j WT with h1|h1
         .rcases AI.1 h1 with h1|h1
          .grind
          .exact absurd (by simp [h1]) ((hL.qu WT).1 ZI)
         .exact h1
        obtain ⟨p,hp1,hp2,hp3⟩:=D4 j hjr hjD;rw [hoj] at hp1;cases hp1;exact (by grind [sf])
       have NK: ∀d∈D,listed.getD d false=false:=by
        have aDY: ∀p∈pd,p.1∉D:=by intro p hp hpD;obtain ⟨q,hq,Ti⟩:=alH p hp;obtain ⟨ed,hed,hb,_⟩:=D3 p.1 q hpD (by grind) hq;obtain ⟨_,_,_,_,_,eR⟩:=DY Ti;rw [eR ed hed] at hb;cases hb
        intro d hd;have hdn:d∉pd.map (·.1)++pre:=by
         simp only [agG,not_or];constructor
         .grind
         .grind [nt]
        by_cases VO:d<ops.size
        .cases hg:listed.getD d false with
         |false=>rfl
         |true=>exact absurd ((hL.done VO).1 hg) hdn
        .have hl: ¬d<listed.size:=by rw [hL.size];exact VO
         simp [hl]
       cases go with
       |true=>have ⟨v,hv,e2,eG,k1,k2,k3⟩:=(ZA (Q:=qt N) hG h' hK).ay0 (by simp at hrd;exact hrd.1) (by simp at hrd;exact hrd.2);refine Ax D3 hx TB (rest.length-pd.length) listed _ w rR NK FR (.inl ⟨by rw [hwn];exact hw,λw' hg=>by rw [hex];exact hv w' hg⟩) h.mj ?_;rw [Hj a o.dst v pd (λp hp d hd=>(y7 p hp d hd).2)];grind
       |false=>have ⟨e2,eG,k1,k2,k3⟩:=df (v:=undef) (s:= .skip) h' ⟨rfl,trivial⟩ hK;refine Ax D3 hx TB (rest.length-pd.length) listed _ w rR NK FR (.inr ⟨by rw [hwn];exact hw,rfl⟩) h.mj ?_;rw [Hj a o.dst undef pd (λp hp d hd=>(y7 p hp d hd).2)];exact next e2 eG _ w k1 (by rw [k3];exact .refl _ _ _) k2
      |false=>
       simp only [hrd,cond_false] at d4;have y7: ∀p∈pd,∀dd,zg ops p.1=some dd->dd∉o.looksAt ops/\o.dst≠some dd:=by
        intro p hp;obtain ⟨q,hq,Ti⟩:=alH p hp;have:=ad5.1 d4 p.1 (ahy p hp);have hq':ops.toList[p.1]? =some q:=by simpa using hq
        simp only [hq',Ti,cond_true,sh] at this;exact NL hq (.inl (DX this.1))
       refine ⟨(by grind),λi hi=> ?_⟩;obtain ⟨azn,oi,hoi,ZL⟩:=mem_ready.1 hi;have adH:i<ops.size:=(by grind)
       have Am:=(hL.qu adH).1 azn;simp only [agG,not_or] at Am;by_cases hix:i=x
       .subst hix;have nm:wpOp P ops (qt N) i (λa' w'=>(∀oi,sf c oi ops i=true->gf c oi w w')/\ ∃e2 eG,bT c (Z.outs (pd.map (·.2))) e2 eG a' w'/\Trans (Z.outs (pd.map (·.2))).In e.φ w e2.φ w'/\GY c ops.toList l' eG K=some r) a w:=by
         unfold wpOp;simp only [hx];rw [hw];cases go with
         |true=>
          left;have hd:=ZA (Q:=qt N) hG h' hK;cases hgr:S1 c o with
          |true=>simp only [S1,alL] at hgr;refine afF ?_ (hd.ay1 hgr);rintro a' w' ⟨hg,e2,eG,k1,k2,k3⟩;grind [hg.for]
          |false=>
           by_cases hme: ∃oi,xL oi o=true
           .have ⟨oi0,hme⟩:=hme;refine afF ?_ (at5 (Q:=qt N) hG h' hK hme);rintro a' w' ⟨hg,e2,eG,k1,k2,k3⟩;grind [xL,sf,ZH]
           .refine afF ?_ hd.wp;rintro a' w' ⟨e2,eG,k1,k2,k3⟩;grind [absurd,sf]
         |false=>have ⟨e2,eG,k1,k2,k3⟩:=df (v:=undef) (s:= .skip) h' ⟨rfl,trivial⟩ hK;exact ⟨λ_ _=>(dk.refl w).for,e2,eG,k1,by rw [k3];exact .refl _ _ _,k2⟩
        refine wpOp_mono ?_ (abJ hx aot nm pd y7);rintro a' w' ⟨a2,rfl,hg,e2,eG,k1,k2,k3⟩;exact ⟨⟨hg,λb o v hv=>k1.mj b o v (k2.ph b o v hv)⟩,(by grind)⟩
       .have hir:i∈rest:=by
         rcases abK i adH with h1|h1
         .grind
         .exact h1
        have alI:=ad5.1 d4 i hir;have aqD:ops.toList[i]? =some oi:=by simpa using hoi
        simp only [aqD] at alI;cases Ti:Lp oi with
        |false=>
         exfalso;simp only [Ti,cond_false] at alI;have ⟨ed,hed,hb⟩:=akz.1 alI;simp at hb;have ⟨uU,B3⟩:=hb;have NO:=ZL ed (by simpa using hed) uU;have QA:ed.on∉pd.map (·.1)++pre:=by
          rcases B3 with B3|⟨B3,hb3⟩
          .grind [bD]
          .simp;refine ⟨λhm=> ?_,(by grind [nt,bH])⟩;grind [apA]
         by_cases vA:ed.on<ops.size
         .exact QA ((hL.done vA).1 NO)
         .have:listed.getD ed.on false=false:=by
           have hl: ¬ed.on<listed.size:=by rw [hL.size];exact vA
           simp [hl]
          grind
        |true=>
         obtain ⟨t,d,q1,q2,q3,q4⟩:=DY Ti;have hI: ∃I,c.tv t=some I:=by
          simp only [Ti,cond_true,sh,apz,q1] at alI;cases htv:c.tv t with
          |none=>grind
          |some I=>grind
         obtain ⟨I,hI⟩:=hI;obtain ⟨inf,z,hz1,hz2,hz3⟩:=FQ hI hG.ti;have hg:dk w (w.alloc (.cells z.cells t)):= .alloc w _ _;unfold wpOp;simp only [hoi];have hwn:No oi (yielded ops (yE ops pd a).tmps)=true:=by simp [No,q3]
         simp only [hwn,if_true];left;have bU:(execOp (yE ops pd a).eval oi).run P w= .ok (.value (vOf w.heap.size)) (w.alloc (.cells z.cells t)):=by simp [execOp,q1,Instr.alloc,zeroValue,typeInfo,hz1,hz2,newVar,newRow,newObj,amt,vOf]
         unfold akA;rw [bU];simp only [aky];refine ⟨⟨λ_ _=>hg.for,(h.grow hg).mj⟩,?_⟩;have yS:w.heap.size<(w.alloc (.cells z.cells t)).heap.size:=abu
         have aD1: ∀p∈pd,p.2<w.heap.size:=λp hp=>by have ⟨_,_,_,_,_,_,_,_,_,_,_,k6,_⟩:=(hpe p hp).row;grind
         have aqB:(yE ops pd a).put oi.dst (vOf w.heap.size)=yE ops ((i,w.heap.size)::pd) a:=by simp [yE,zg,hoi]
         rw [aqB];have Nd:rest.length-pd.length=(x::rest).length-((i,w.heap.size)::pd).length:=by simp only [afL];omega
         rw [Nd];refine ihm (x::rest) pre ((i,w.heap.size)::pd) (o::l') _ e st a _ ?_ (h.narrow hg yS) ?_ (ht.trans (hg.trans (λb hb=>(h.cz b hb).1) _)) ?_ hd0 ?_ uw aqz ?_ ?_ ?_ ?_ ?_
         .omega
         .exact aqA
         .grind [s7]
         .refine (hL.set adH).congr (λj=> ?_);simp
         .grind
         .grind
         .refine agx.2 ⟨λhm=> ?_,Me⟩;have ⟨p,hp,he⟩:=afK.1 hm;grind
         .intro p hp;rcases AI.1 hp with rfl|hp
          .refine ⟨⟨oi,t,I,d,z.cells,t,hoi,Ti,q1,hI,q2,ju w _,hz3⟩,λoff=> ?_,(h.cz _ (afB _)).1⟩;cases hp:e.φ w.heap.size off with
           |none=>rfl
           |some v=>have:=afx w _ (h.mj _ _ _ hp);simp at this
          .have ⟨⟨o1,t1,I1,d1,azo,T1,k1,k2,k3,k4,k5,k6,k7⟩,q5,q6⟩:=hpe p hp;exact ⟨⟨o1,t1,I1,d1,azo,T1,k1,k2,k3,k4,k5,by rw [hg.vP _ (bx k6)];exact k6,k7⟩,q5,q6⟩
         grind
def WU (hG:Good P c){ops:Array Oper}{l:List Oper}{ord:List Nat}(hd:Ad c ops ord=true)(hp:s7 ops.toList ord=some l){Z:bC}{e:Env}{st:St}{a:Act}{w:World}{R:Type}{K:St->Option R}{r:R}(h:bT c Z e st a w)(hK:GY c ops.toList l st K=some r): wpAny P .any ops (qt λa' w'=>Out c Z K r e.φ w a' w') ops.size (ad1 ops.size false) a {w with drawn:=w.drawn+1}:=by
 simp only [Ad,sh] at hd;have ⟨⟨⟨hns,hl0⟩,uw⟩,hd⟩:=hd;have TB: ∀(j:Nat) (o:Oper) cs b,ops[j]? =some o->o.op≠ .select cs b:=by intro j o cs b ho he;have:=ad5.1 hns o (by grind);simp [he] at this
 have aou:dk w {w with drawn:=w.drawn+1}:=⟨afB _,λ_ _=>rfl,rfl,rfl,rfl⟩
 .refine WQ (c:=c) (φ:=e.φ) _ _ _ _ ?_;have hlen:ord.length=ops.size:=by have:=bD hl0;simpa using this
  rw [<-hlen];have h0:bT c (Z.outs []) e st a {w with drawn:=w.drawn+1}:=(h.grow aou).vY (λb hb=>⟨hb,abu⟩) (λb hb=>⟨hb,abu⟩) rfl rfl rfl rfl;refine alG hG TB (λa' w' h=>h) (2 *ord.length) ord [] [] l _ e st a _ abu h0 hK (aou.trans h.cz e.φ) hp hd ⟨by simp [hlen],λi hi=> ?_⟩ (λi hi=> .inr ((bH _ _).1 (by grind))) abu abu abu abu abu abu;simp_all
end
theorem KY {S:Type}{step:S->MV->Option (Bool×S)}: ∀{xs zs:List MV} {s:S},rZ step s (xs++zs)=(match rZ step s xs with|some (ys,s1)=>(match rZ step s1 zs with|some (us,s2)=>some (ys++us,s2)|none=>none)|none=>none):=by
 intro xs;induction xs with
 |nil=>grind [rZ]
 |cons x xs ih=>grind [rZ]
def abL {S:Type}{step:S->MV->Option (Bool×S)}{xs:List MV} {s s':S}{ys:List MV}(h:rZ step s xs=some (ys,s')){k:Nat}(hk:k<xs.length): ∃yk sk b sk',rZ step s (xs.take k)=some (yk,sk)/\step sk xs[k]=some (b,sk')/\rZ step s (xs.take (k+1))=some (bif b then yk else yk++[xs[k]],sk'):=by
 have e:xs=xs.take k++xs[k]::xs.drop (k+1):=abu
 rw [e,KY] at h;cases h1:rZ step s (xs.take k) with
 |none=>grind
 |some p=>
  obtain ⟨yk,sk⟩:=p;simp only [h1,rZ] at h;cases h2:step sk xs[k] with
  |none=>grind
  |some q=>
   obtain ⟨b,sk'⟩:=q;refine ⟨yk,sk,b,sk',rfl,h2,?_⟩;have e2:xs.take (k+1)=xs.take k++[xs[k]]:=by rw [List.take_add_one,ab2 hk];rfl
   grind [KY,rZ]
def ahz {S:Type}{step:S->MV->Option (Bool×S)}: ∀{xs:List MV} {s s':S} {ys:List MV},rZ step s xs=some (ys,s')->ys.length<=xs.length:=by
 intro xs;induction xs with
 |nil=>grind [rZ]
 |cons x xs ih=>grind [rZ,By,afC]
structure Ay (P:Program) (c:Ctx) (g:Nat) (lb:Array Value) {S:Type} (Inv:S->(Nat->Prop)->Ph->World->Prop) (step:S->MV->Option (Bool×S)):Prop where
 call: ∀{s Z φ W v x b s'},Inv s Z φ W->(∀b,W.heap.size<=b->Z b)->oN φ W->cQ c.key φ v x->step s x=some (b,s')-> dF P g (#[v]++lb) W λr W'=>r= .bool b/\ ∃φ',Trans Z φ W φ' W'/\oN φ' W'/\Inv s' Z φ' W'
 frame: ∀{s Z φ W W'},Inv s Z φ W->W.heap.size<=W'.heap.size->(∀b,Z b->b<W.heap.size->W'.heap[b]? =W.heap[b]?)->Inv s (λb=>Z b/\b<W.heap.size) φ W'
 mono: ∀{s Z Z' φ W},Inv s Z φ W->(∀b,Z b->Z' b)->Inv s Z' φ W
structure ES (c:Ctx) (ob:Option Nat) {S:Type} (Inv:S->(Nat->Prop)->Ph->World->Prop) (Z0:Nat->Prop) (φ0:Ph) (w0:World) (s:S) (Z:Nat->Prop) (φ:Ph) (W:World):Prop where
 inv:Inv s Z φ W
 new: ∀b,W.heap.size<=b->Z b
 sub: ∀b,Z b->Z0 b\/w0.heap.size<=b
 mj:oN φ W
 tr:Trans (λb=>(Z0 b\/w0.heap.size<=b)\/ob=some b) φ0 w0 φ W
 free: ∀b off,ob=some b->φ b off=none
structure TD (P:Program) (c:Ctx) (h el:Nat):Prop where
 run: ∀{S:Type} {Inv:S->(Nat->Prop)->Ph->World->Prop} {step:S->MV->Option (Bool×S)} {g:Nat} {lb:Array Value},Ay P c g lb Inv step-> ∀{v0:Value} {xs ys:List MV} {w:World} {Z0:Nat->Prop} {φ0:Ph} {s0 s':S},(∀x∈xs,∃ms,x= .agg ms)->ch c (bC.plain λb=>v0.ownBlock=some b) (np c.key φ0) w v0 ⟨el,false,xs⟩->(∀b,v0.ownBlock=some b-> ¬Z0 b)-> Inv s0 Z0 φ0 w->(∀b,w.heap.size<=b->Z0 b)->oN φ0 w->rZ step s0 xs=some (ys,s')-> dF P h #[v0,.func (.func g) #[] lb] w λv W=> ∃Z φ,ES c v0.ownBlock Inv Z0 φ0 w s' Z φ W/\ch c (bC.plain λb=>v0.ownBlock=some b) (np c.key φ) W v ⟨el,false,ys⟩/\ ∀b,v.ownBlock=some b->v0.ownBlock=some b
def vZ (P:Program)(c:Ctx):Prop:= ∀h,c.SU h=true->TD P c h (c.mV (c.key h))
section
variable {P:Program}{c:Ctx}{Z:bC}{Z':Nat->Prop}{e e':Env}{st cj:St}{a:Act}{w w':World}{R:Type}{K:St->Option R}{r:R}{Q:Exit->Act->World->Prop}{o:Oper}{root:Nat}{cs:List aF}{ks:List LK}{ls outs:List MV}{ps:List (Nat×Nat)}{φ':Ph}{ops:Array Oper}
theorem adI (h:bT c Z e st a w)(hf:au st.fr root= .box cs)(hm:fU cs=false)(hr:bL st.cX root=false)(ht:TC st [] ks cs ls ps)(hZ: ∀b,Z' b↔w.heap.size<=b\/gone e root ps b){X:Nat->Prop}(hXb: ∀t jM,au st.fr t= .box jM-> ¬X (e.B t))(hXf: ∀f o b,aN st.aT f=some o->(e.E f).ownBlock=some b-> ¬X b)(Cj:Trans (λb=>Z' b\/X b) e.φ w φ' w')(hi:oN φ' w')(hc:eY c Z' φ' w' (e.B root) ks outs)(hK:Ry st root ks ps outs K=some r): ∃e' cj,bT c Z e' cj a w'/\e'.φ=φ'/\(∀b,X b-> ¬Z' b->(∀t jM,au cj.fr t= .box jM->e'.B t≠b)/\ ∀f o,aN cj.aT f=some o->(e'.E f).ownBlock≠some b)/\K cj=some r:=by
 unfold Ry at hK;obtain ⟨IP,rest,DQ,g1,hK⟩:=nq hK;cases rest with
 |cons=>grind [gN]
 |nil=>
 simp only [gN,Ww] at hK;cases rT:Rx (bI ks) (mG (eQ ps) st.aT)||meets (bI ks) st.cV with
 |true=>grind
 |false=>
 simp only [rT,cond_false,abA,pe,Ae] at hK;obtain ⟨ag2,Nu⟩:=BY.1 rT;have ag2:=Nr ag2;have Nu:=Ns Nu;obtain ⟨B4,m3,E,arr,T,Jb,cD,hzb,rR,rQ,im,kC⟩:=hc;have Aa:B4=IP/\m3=DQ.aT:=by unfold RJ at Jb;rw [g1] at Jb;simp only [gN,By,afC] at Jb;exact (by grind)
 obtain ⟨rfl,rfl⟩:=Aa;have eS:=Cy g1;have jb: ∀f o,aN DQ.aT f=some o->f∈bI ks:=λf o ho=>(Hc g1 f o ho).resolve_left (by simp [aN]);have hs:=h.slot root;rw [hf] at hs;have Am: ∀b,Z' b->Z.In b:=by
  intro b hb;rcases (hZ b).1 hb with hb|hb
  .exact h.cz b hb
  .grind [Hd]
 have abD: ∀t jM,au st.fr t= .box jM->t≠root-> ¬Z' (e.B t):=by
  intro t jM htb eR hz;rcases (hZ _).1 hz with hz|hz|⟨x,g,hp,hz⟩
  .have:=Ap h htb;omega
  .exact h.bb t root jM cs htb hf eR hz
  .have ⟨o,ho,_⟩:=ht.aT x g hp;exact h.bf t jM g o htb ho hz
 have hold: ∀f o,aN (mG (eQ ps) st.aT) f=some o->aN st.aT f=some o/\f∉eQ ps:=by
  intro f o ho;rw [Nn] at ho;cases hn:bL (eQ ps) f with
  |true=>grind
  |false=>grind [bH]
 have Nv: ∀f o b,aN (mG (eQ ps) st.aT) f=some o->(e.E f).ownBlock=some b-> ¬Z' b:=by
  intro f o b ho hb hz;obtain ⟨FL,hnf⟩:=hold f o ho;rcases (hZ _).1 hz with hz|hz|⟨x,g,hp,hz⟩
  .have:=Aq h FL hb;omega
  .exact h.bf root cs f o hf FL (by rw [hb,hz])
  .have ⟨o2,dO,_⟩:=ht.aT x g hp;have:=h.ff f g o o2 b FL dO hb hz;grind [KM]
 have aqE: ∀t jM,au st.fr t= .box jM->t≠root-> ¬(Z' (e.B t)\/X (e.B t)):=(by grind)
 have ahA: ∀f o b,aN (mG (eQ ps) st.aT) f=some o->(e.E f).ownBlock=some b-> ¬(Z' b\/X b):=(by grind)
 let E2:Nat->Value:=λf=>if bL (bI ks) f=true then E f else e.E f
 have GV: ∀f,f∈bI ks->E2 f=E f:=λf hf=>by show (if _ then _ else _)=_;simp_all [if_pos,bH]
 have Wz: ∀f,f∉bI ks->E2 f=e.E f:=λf hf=>by show (if _ then _ else _)=_;simp_all [if_neg,bH]
 have mq: ∀f o,aN (DQ.aT++mG (eQ ps) st.aT) f=some o->(f∈bI ks/\aN DQ.aT f=some o)\/(f∉bI ks/\aN (mG (eQ ps) st.aT) f=some o):=by
  intro f o ho;rw [RO] at ho;cases hq:aN DQ.aT f with
  |some o2=>grind
  |none=>grind
 let e2:Env:=⟨e.key,φ',E2,e.B,DQ.aT++mG (eQ ps) st.aT⟩
 have vA:ll (λg=>True/\g∉bI ks) (λ_=>True) e e2:=by
  refine ⟨rfl,Cj.ph,λ_ _=>rfl,λf o' FL hS=> ?_⟩;rcases mq f o' FL with ⟨h1,_⟩|⟨h1,h2⟩
  .grind
  .exact ⟨o',by grind [h.m],Wz f h1,rfl⟩
 have ag3:av e2 arr.toList B4:=by
  have ap8:ll (λf=>f∈bI ks) (λ_=>True) ⟨c.key,φ',E,λ_=>e.B root,DQ.aT⟩ ⟨c.key,φ',E2,λ_=>e.B root,DQ.aT++mG (eQ ps) st.aT⟩:=by
   refine ⟨rfl,.refl _,λ_ _=>rfl,λf o' FL hS=> ?_⟩;rcases mq f o' FL with ⟨h1,h2⟩|⟨h1,_⟩
   .grind
   .grind
  have h1:=rQ.on ap8 eS;have ap9:ll (λ_=>True) (λ_=>False) ⟨c.key,φ',E2,λ_=>e.B root,DQ.aT++mG (eQ ps) st.aT⟩ e2:=⟨h.key,.refl _,λ_ h=>h.elim,(by grind)⟩
  exact h1.on ap9 (λ_ _ _ _=>trivial)
 have hm3:fU B4=false:=ag3.Fk;have Nw: ∀t,au (gV (y9 (bI ks) st.fr) root (.box B4)) t=if t=root then .box B4 else Ha (bI ks) (au st.fr t):=(by grind [bO,Np])
 have As: ∀t ds,au (gV (y9 (bI ks) st.fr) root (.box B4)) t= .box ds-> ∃ds0,au st.fr t= .box ds0:=by
  intro t ds hb;rw [Nw] at hb;by_cases Cj:t=root
  .grind
  .grind [xS]
 refine ⟨e2,⟨st.cX,st.cV,gV (y9 (bI ks) st.fr) root (.box B4),DQ.aT++mG (eQ ps) st.aT⟩,⟨h.defers,h.size,rfl,h.key,?_,?_,?_,?_,?_,?_,?_,hi,(by grind [agM,Cj.size])⟩,rfl,λb hb hnz=>⟨λt ds htb he=> ?_,λf o ho he=> ?_⟩,hK⟩;rotate_left 7
 .grind
 .have he:(E2 f).ownBlock=some b:=he;rcases mq f o ho with ⟨k1,k2⟩|⟨k1,k2⟩
  .rw [GV f k1] at he;have ⟨I,cells,_,_,_,_,q5⟩:=(im f o k2).1.row;exact hnz (q5 _ he).1
  grind
 .grind [fA,Nq,h.nodup]
 .intro t;rw [Nw];by_cases yC:t=root
  .subst yC;rw [if_pos rfl];exact ⟨hs.1.qe (by grind [G6]),hs.2.cz,⟨_,cD,rfl,ag3⟩,rR⟩
  .rw [if_neg yC];have fw:=h.slot t;have hnb:=aqE t;generalize au st.fr t=s at fw hnb;by_cases YX: ∃ds,s= .box ds
   .obtain ⟨ds,rfl⟩:=YX;rw [Wx];have hz:=hnb ds rfl yC;have ⟨o2,h1,h2⟩:=fw.2.obj;refine ⟨fw.1.qe (RN _ _),fw.2.cz,⟨o2,by rw [Cj.heap _ hz (bx h1)];exact h1,?_⟩,λoff=>by show φ' (e.B t) off=none;rw [Cj.free _ off hz];exact fw.2.free off⟩;exact (Wy h2).on vA (abC _ (λl _ f _=>trivial))
   .have aqa:ai e (a.tmps.getD t undef) s:=by cases s<;>simp only [eD] at fw<;>first|exact fw|grind
    have h2:=(aqa.aoi (bI ks)).on vA (abB _ (dY s));have aqb: ∀ds,Ha (bI ks) s≠ .box ds:=(by grind [xS])
    generalize Ha (bI ks) s=s2 at h2 aqb;cases s2<;>first|exact h2|grind
 .intro t;have hbk: ∀q,cY (au st.fr q)=true->cY (au (gV (y9 (bI ks) st.fr) root (.box B4)) q)=true:=by
   intro q hq;rw [Nw];by_cases hqr:q=root
   .rw [if_pos hqr];rfl
   .simp_all [if_neg,Nt]
  rw [Nw];by_cases yC:t=root
  .rw [if_pos yC];trivial
  .rw [if_neg yC];refine KN _ ?_;have rO:=h.root t;generalize au st.fr t=s at rO;cases s with
   |ptr q o=>exact hbk q rO
   |hp q o i=>exact hbk q rO
   |Cl q=>exact hbk q rO
   |_=>trivial
 .intro f o ho;rcases mq f o ho with ⟨h1,h2⟩|⟨h1,h2⟩
  .have hfm:=(im f o h2).1;have Fm:f∉Z.cV:=by rw [<-h.defers.2.2.1];exact Nu f h1
   refine ch.to ?_ Fm;have ⟨I,cells,q1,q2,q3,q4,q5⟩:=hfm.row;refine ⟨I,cells,q1,q2,?_,?_,λb hb=> ?_⟩
   .grind
   .grind [h.key]
   .have hb:(E2 f).ownBlock=some b:=hb;rw [GV f h1] at hb;exact ⟨Am b (q5 b hb).1,(q5 b hb).2.1,λhc=>hc.elim⟩
  .have ⟨FL,hnf⟩:=hold f o h2;have ⟨I,cells,q1,q2,q3,q4,q5⟩:=(h.jC f o FL).row;refine ⟨I,cells,q1,q2,?_,q4.mono Cj.ph,?_⟩
   .show w'.ownsRow 0 o.ty I.size (E2 f) o.xs.length cells;rw [Wz f h1];refine ⟨q3.1,?_⟩;rcases q3.2 with h6|⟨g,cap,dp,k1,k2,k3,k4⟩
    .exact .inl h6
    .refine .inr ⟨g,cap,dp,k1,k2,?_,k4⟩;rw [Cj.heap g (ahA f o g h2 (by rw [k1];rfl)) (bx k3)];exact k3
   .intro bg hb;have hb:(E2 f).ownBlock=some bg:=hb;rw [Wz f h1] at hb;refine ⟨(q5 bg hb).1,λoff u hu=>(q5 bg hb).2.1 off u ?_,λk1 k2 j hj=>Cj.ph.G0 (by grind) hj⟩;have hu:φ' bg off=some u:=hu;rw [Cj.free _ off (ahA f o bg h2 hb)] at hu;exact hu
 .intro t t' c1 c2 h1 h2 eR;have ⟨d1,k1⟩:=As t c1 h1;have ⟨d2,k2⟩:=As t' c2 h2;exact h.bb t t' d1 d2 k1 k2 eR
 .intro t c1 f o h1 h2;show (E2 f).ownBlock≠some (e.B t);rcases mq f o h2 with ⟨k1,k2⟩|⟨k1,k2⟩
  .rw [GV f k1];by_cases yC:t=root
   .grind
   .have ⟨d1,k3⟩:=As t c1 h1;intro hq;have ⟨I,cells,_,_,_,_,q5⟩:=(im f o k2).1.row;exact abD t d1 k3 yC (q5 _ hq).1
  .rw [Wz f k1];have ⟨d1,k3⟩:=As t c1 h1;exact h.bf t d1 f o k3 (hold f o k2).1
 .intro f f' o o' k h1 h2 h3 h4;have h3:(E2 f).ownBlock=some k:=h3;have h4:(E2 f').ownBlock=some k:=h4;rcases mq f o h1 with ⟨k1,k2⟩|⟨k1,k2⟩<;>rcases mq f' o' h2 with ⟨k3,k4⟩|⟨k3,k4⟩
  .grind
  .rw [GV f k1] at h3;rw [Wz f' k3] at h4;have ⟨I,cells,_,_,_,_,q5⟩:=(im f o k2).1.row;exact absurd (q5 _ h3).1 (Nv f' o' k k4 h4)
  .rw [Wz f k1] at h3;rw [GV f' k3] at h4;have ⟨I,cells,_,_,_,_,q5⟩:=(im f' o' k4).1.row;exact absurd (q5 _ h4).1 (Nv f o k k2 h3)
  .rw [Wz f k1] at h3;rw [Wz f' k3] at h4;exact h.ff f f' o o' k (hold f o k2).1 (hold f' o' k4).1 h3 h4
def dF.imp {P:Program}{f:FuncId}{args:Array Value}{w:World} {R R':Value->World->Prop}(hc:dF P f args w R)(h: ∀v w',R v w'->R' v w'):dF P f args w R':=by grind [dF,Calls.mono,absurd]
def Trans.vY {I J:Nat->Prop} {φ φ':Ph}(h:Trans I φ w φ' w')(hs: ∀b,I b->J b):Trans J φ w φ' w':=⟨h.ph,λb hb=>h.heap b (λhz=>hb (hs b hz)),λb o hb=>h.free b o (λhz=>hb (hs b hz)),h.size,h.rest⟩
def NP {key:Nat->Nat} {φ:Ph}{v:Value}{b:Bool}(h:cQ key φ v (.b b)):v= .bool b:=by have ⟨_,h⟩:=h;generalize EN:[v]=l at h;cases h;grind
def ZM (hS:Sound P c){f:Nat}(hg:c.cS (c.key f)=false){lb:Array Value}{ms:List MV}:Ay P c f lb (λ(_:Unit) (_:Nat->Prop) φ (_:World)=>bj c.key φ lb.toList ms) (af8 c.g (c.key f) ms):=by
 refine ⟨?_,λh _ _=>h,λh _=>h⟩;intro s Z φ W v x b s' hinv ml iA ZN fw;unfold af8 at fw;split at fw
 .rename_i b' hx;simp only [By,afC] at fw;have ⟨rfl,_⟩:=fw;have dx:cR c (λb=>W.heap.size<=b) φ W (c.key f) (v::lb.toList) (x::ms):=by simp only [cR,hg,afw,if_false];exact ⟨v,lb.toList,rfl,ZN,hinv⟩
  have:=hS f (x::ms) (.b b') hx φ W (λb=>W.heap.size<=b) _ (λb hb=>hb) dx iA;have e1:(v::lb.toList).toArray= #[v]++lb:=by apply aft.1;simp
  rw [e1] at this;refine this.imp ?_;rintro v' w' ⟨φ',t1,t2,t3⟩;exact ⟨NP t3,φ',t1.vY ml,t2,hinv.mono t1.ph⟩
 .cases fw
def adJ (hS:Sound P c){f pos bg:Nat}{ks:List LK}{ms:List MV}{lb0:List Value}(hg:c.cS (c.key f)=true)(At:c.sig (c.key f)=some (pos,ks,ks))(gq:pos=ms.length+1): Ay P c f (lb0++[ags (some ⟨bg,0,none⟩)]).toArray (λls Z φ W=>eY c Z φ W bg ks ls/\bj c.key φ lb0 ms) (V3 c.g (c.key f) ms):=by
 refine ⟨?_,?_,λh hz=>⟨h.1.wide hz,h.2⟩⟩
 .intro ls Z φ W v x b s' hinv ml iA ZN fw;have ⟨qq,ze⟩:=hinv;unfold V3 at fw;split at fw
  .rename_i b' outs hx;simp at fw;have ⟨rfl,rfl⟩:=fw;have hl:=ze.length;have dx:cR c Z φ W (c.key f) (v::(lb0++[ags (some ⟨bg,0,none⟩)])) (x::(ms++[.cell (.func 0 ls)])):=by
    simp only [cR,hg,if_true];refine .inr (.inr ⟨pos,ks,ks,0,ls,bg,At,?_,?_,?_,qq⟩)
    .grind
    .grind
    .rw [gq,List.set_cons_succ,akE _ _ (afB _),al3];exact ⟨v,_,rfl,ZN,ze.append ⟨_,[],rfl,⟨rfl,.rp bg 0 [] [] .nil abu⟩,rfl⟩⟩
   have:=hS f _ _ hx φ W Z _ ml dx iA;have e1:(v::(lb0++[ags (some ⟨bg,0,none⟩)])).toArray= #[v]++(lb0++[ags (some ⟨bg,0,none⟩)]).toArray:=by apply aft.1;simp
   rw [e1] at this;refine this.imp ?_;rintro v' w' ⟨φ',t1,t2,qh,pos',ks',ko',aqF,V0,yY,Wd,hc⟩;rw [At] at yY;simp at yY;have ⟨rfl,rfl,rfl⟩:=yY;have hb:aqF=bg:=by rw [gq,List.getElem?_cons_succ,<-hl,afz (afB _)] at Wd;simp at Wd;exact Wd.1.symm
   subst hb;exact ⟨NP qh,φ',t1,t2,hc,ze.mono t1.ph⟩
  .cases fw
 .intro ls Z φ W W' hinv yS ov;have ⟨⟨cs,m,E,arr,T,k1,k2,k3,k4,k5,k6,k7⟩,ze⟩:=hinv;have dX:=bx k2;refine ⟨⟨cs,m,E,arr,T,k1,(by grind),⟨k3,dX⟩,k4,k5,λf' o' ho=>⟨?_,(k6 f' o' ho).2⟩,k7⟩,ze⟩;have ⟨I,cells,q1,q2,q3,q4,q5⟩:=(k6 f' o' ho).1.row;refine ⟨I,cells,q1,q2,⟨q3.1,?_⟩,q4,λb hb=>⟨⟨(q5 b hb).1,Ng q3 hb⟩,(q5 b hb).2⟩⟩;rcases q3.2 with h6|⟨g,cap,dp,r1,r2,r3,r4⟩
  .exact .inl h6
  .exact .inr ⟨g,cap,dp,r1,r2,(ov g (q5 g (by rw [r1];rfl)).1 (bx r3)).trans r3,r4⟩
def abM {xs:List MV}(h:xs.all acZ=true): ∀x∈xs,∃ms,x= .agg ms:=by intro x hx;have:=ad5.1 h x hx;cases x<;>simp [acZ] at this;grind
theorem put_comm {a:Act}{x y:Nat}(h:x≠y)(v u:Value):(a.put (some x) v).put (some y) u=(a.put (some y) u).put (some x) v:=by show ({a with tmps:=(a.tmps.setIfInBounds x v).setIfInBounds y u}:Act)={a with tmps:=(a.tmps.setIfInBounds y u).setIfInBounds x v};rw [akt v u h]
def abN {y d:Nat}{o1 o2:Oper}{h:Nat} {v0 v' fv:Value}{ys:List MV} {φ0:Ph}{w0:World}(hs:bT c Z e st a w)(h1:o1.dst=some y)(h2:o2.dst=some d)(hyd:d≠y)(Am: ∀b,v0.ownBlock=some b->Z.In b)(im:ch c (bC.plain λb=>v0.ownBlock=some b) (np c.key e.φ) w v' ⟨c.mV (c.key h),false,ys⟩)(eS: ∀b,v'.ownBlock=some b->v0.ownBlock=some b)(y7: ∀b,v0.ownBlock=some b->(∀t jM,au st.fr t= .box jM->e.B t≠b)/\ ∀f o,aN st.aT f=some o->(e.E f).ownBlock≠some b)(ht:Trans Z φ0 w0 e.φ w)(hK:(jD st (o2.dst.getD 0) ⟨c.mV (c.key h),false,ys⟩ λst=>bB c st o2.dst (.sc (.own (o2.dst.getD 0))) λst=>bB c st o1.dst (.sc .un) K)=some r):Out c Z K r φ0 w0 ((a.put o1.dst fv).put o2.dst v') w:=by
 have Fm:=hs.npf hK;have xw:=pV hK;have Nd:ch c Z.nc e w v' ⟨c.mV (c.key h),false,ys⟩:=by obtain ⟨I,cells,g1,g2,g3,g4,g5⟩:=im.row;refine ⟨I,cells,g1,g2,g3,by rw [hs.key];exact g4,λbg hb=>⟨Am bg (eS bg hb),(g5 bg hb).2.1,λhc=>hc.elim⟩⟩
 have Qm:=hs.Tg Fm Nd (by grind);have ⟨I,cells,g1,g2,g3,g4,g5⟩:=im.row;have lB:v'.oneCell'=true:=by rcases g3.2 with ⟨rfl,_⟩|⟨g,cap,dp,rfl,_⟩<;>rfl
 have ⟨e3,mr,q1,q2,q3⟩:=df (v:=v') (s:= .sc (.own (o2.dst.getD 0))) Qm (.of (tw lB) trivial) xw;have ⟨e4,st4,q4,q5,q6⟩:=df (v:=fv) (s:= .sc .un) q1 (.of (by simp [ai]) trivial) q2;rw [h1,h2] at q4;rw [put_comm hyd] at q4;rw [h1,h2];exact ⟨e4,st4,q4,by rw [q6,q3];exact ht,q5⟩
theorem alJ (hS:Sound P c){h f x y d:Nat}{aV:Array Operand}{cl:Call}{o1 o2:Oper}(hd:TD P c h (c.mV (c.key h)))(h1:o1.op= .makeFunc (.func f) #[] aV)(h2:o2.op= .call cl)(ER:cl.callee= .value (.func h))(dx:cl.args.toList=[.tmp x,.tmp y])(hd1:o1.dst=some y)(hd2:o2.dst=some d)(hxy:x≠y)(hyd:d≠y)(hyn:y<c.n)(nm:bT c Z e st a w)(hK:af9 c h f aV.toList (.tmp x) o1 o2 st K=some r): o1.wp P a w (λa1 w1=>o2.wp P a1 w1 (Out c Z K r e.φ w) Q) Q:=by
 have auJ:(execOp a.eval o1).run P w= .ok (.value (.func (.func f) #[] (aV.map a.eval))) w:=by simp [execOp,h1,Instr.makeFunc]
 unfold akA;rw [auJ,ahE];have Ql: ∀v:Value,(a.put o1.dst v).eval (.tmp x)=a.eval (.tmp x)/\(a.put o1.dst v).eval (.tmp y)=v:=by
  intro v;rw [hd1];have hy:y<a.tmps.size:=by rw [nm.size];exact hyn
  constructor
  .show (a.put (some y) v).tmps.getD x undef=a.tmps.getD x undef;rw [Act.Ct hy,if_neg hxy]
  .show (a.put (some y) v).tmps.getD y undef=v;rw [Act.Ct hy,if_pos rfl]
 have aqG: ∀v:Value,cl.args.map (a.put o1.dst v).eval= #[a.eval (.tmp x),v]:=by intro v;apply aft.1;rw [ag7,dx];simp [(Ql v).1,(Ql v).2]
 have R3: ∀v:Value,(execOp (a.put o1.dst v).eval o2).run P w=(callFunc h #[a.eval (.tmp x),v]).run P w:=by intro v;have:=aqG v;simp [execOp,h2,resolve,ER,this,Act.eval,akv,invoke]
 unfold af9 at hK;cases At:c.sig (c.key f) with
 |none=>
  simp only [At] at hK;cases hg:c.cS (c.key f) with
  |true=>grind
  |false=>
  simp only [hg,cond_false] at hK;have ⟨e1,aZ,ms,s1,x1,r1,xw,lB⟩:=vS nm hK;have ⟨e2,eG,xs,G,EP⟩:=vV s1 (s1.eval (.tmp x)).1 xw;have ⟨NQ,QE⟩:=dQ EP;have ⟨p,hp,hK4⟩:=mE QE;have ze:bj c.key e1.φ (aV.map a.eval).toList ms:=by have:=il.one r1 lB;rw [s1.key] at this;simpa using this
  have NK: ∀b,(a.eval (.tmp x)).ownBlock=some b-> ¬w.heap.size<=b:=by intro b hb;obtain ⟨I,cells,_,_,g3,_⟩:=G.row.row;have:=Ng g3 hb;omega
  have BL:=hd.run (ZM hS hg) (abM NQ) G.row NK ze (λb hb=>hb) s1.mj hp;refine y8 (R3 _) BL ?_;rintro v' w' ⟨Zw,φ',hW,im,eS⟩;have alK: ∀b,((w.heap.size<=b\/w.heap.size<=b)\/(a.eval (.tmp x)).ownBlock=some b)->Z.In b:=by
   rintro b ((hb|hb)|hb)
   .exact s1.cz b hb
   .exact s1.cz b hb
   .exact G.In b hb
  have hzb: ∀t cs,au eG.fr t= .box cs-> ¬((w.heap.size<=e2.B t\/w.heap.size<=e2.B t)\/(a.eval (.tmp x)).ownBlock=some (e2.B t)):=by
   rintro t cs ht ((hb|hb)|hb)
   .grind [Ap,G.vU]
   .grind [Ap,G.vU]
   .exact G.box t cs ht hb
  have hzf: ∀f o k,aN eG.aT f=some o->(e2.E f).ownBlock=some k-> ¬((w.heap.size<=k\/w.heap.size<=k)\/(a.eval (.tmp x)).ownBlock=some k):=by
   rintro f o k ho hk ((hb|hb)|hb)
   .grind [Aq,G.vU]
   .grind [Aq,G.vU]
   .exact G.jC f o k ho hk hb
  have Cj:=hW.tr;rw [<-G.φ] at Cj;have hs3:=G.vU.called alK hzb hzf Cj hW.mj;have yC:Trans Z e.φ w φ' w':=x1.tr.trans (hW.tr.vY alK);exact abN (e:={e2 with φ:=φ'}) hs3 hd1 hd2 hyd G.In im eS (by grind) yC hK4
 |some sg=>
  have ⟨pos,ks,ko⟩:=sg;simp only [At] at hK;have ⟨e1,aZ,ms,s1,x1,r1,xw,lB⟩:=vS nm hK;have ⟨e2,eG,xs,G,EP⟩:=vV s1 (s1.eval (.tmp x)).1 xw;have ⟨NQ,QE⟩:=dQ EP;cases WV:aV.toList.getLast? with
  |none=>grind
  |some y0=>
  simp only [WV] at QE;split at QE;rotate_left
  .cases QE
  rename_i root ag8;split at QE;rotate_left
  .cases QE
  rename_i cs hf;cases rT:fU cs||bL eG.cX root||!iR c ks||!AS pos (ms.length+1)||!c.cS (c.key f)||!lkB ks ko with
  |true=>grind
  |false=>
  simp only [rT,cond_false] at QE;simp only [BY,ajW] at rT;have ⟨⟨⟨⟨⟨hm,hr⟩,oM⟩,gq⟩,hg⟩,hko⟩:=rT;have hko:=Tp hko;subst hko;have gq:=bD gq;have ⟨ls,ps,ht,hK4⟩:=FO QE;have ⟨p,hp,hK5⟩:=mE hK4;have ⟨ys,outs⟩:=p;have hy0:a.eval y0= .pointer (some ⟨e2.B root,0,none⟩):=by have:=(G.vU.eval y0).1;rw [ag8] at this;exact this
  have auK:(aV.map a.eval)=((aV.toList.dropLast.map a.eval)++[ags (some ⟨e2.B root,0,none⟩)]).toArray:=by
   apply aft.1;rw [ag7];have eR:aV.toList≠[]:=by intro e;rw [e] at WV;simp at WV
   have h3:aV.toList=aV.toList.dropLast++[y0]:=by have h4:=List.dropLast_concat_getLast eR;have h5:=List.getLast?_eq_some_getLast eR;rw [WV] at h5;rw [amy h5];exact h4.symm
   rw [h3];simp [hy0]
  have ze:bj c.key e2.φ (aV.toList.dropLast.map a.eval) ms:=by have:=il.one r1 lB;rw [s1.key,<-G.φ] at this;exact this
  have Lx:ch c (bC.plain λb=>(a.eval (.tmp x)).ownBlock=some b) (np c.key e2.φ) w (a.eval (.tmp x)) ⟨c.mV (c.key h),false,xs⟩:=by rw [G.φ];exact G.row
  let Z2:Nat->Prop:=λb=>w.heap.size<=b\/gone e2 root ps b;have hgx: ∀b,(a.eval (.tmp x)).ownBlock=some b-> ¬gone e2 root ps b:=by
   rintro b hb (rfl|⟨q,g,hp,hq⟩)
   .exact G.box root cs hf hb
   .have ⟨o,ho,_⟩:=ht.aT q g hp;exact G.jC g o b ho hq hb
  have dX: ∀b,(a.eval (.tmp x)).ownBlock=some b->b<w.heap.size:=by intro b hb;obtain ⟨I,cells,_,_,g3,_⟩:=G.row.row;exact Ng g3 hb
  have NK: ∀b,(a.eval (.tmp x)).ownBlock=some b-> ¬Z2 b:=by
   rintro b hb (h'|h')
   .grind
   .grind
  have qq:eY c Z2 e2.φ w (e2.B root) ks ls:=(Nl G.vU hf hm oM ht).wide λb hb=> .inr hb;have BL:=hd.run (adJ hS hg At gq) (abM NQ) Lx NK ⟨qq,ze⟩ (λb hb=> .inl hb) G.vU.mj hp;rw [<-auK] at BL;refine y8 (R3 _) BL ?_;rintro v' w' ⟨Zw,φ',hW,im,eS⟩;have hZ2: ∀b,Z2 b\/w.heap.size<=b->Z2 b:=(by grind)
  have alK: ∀b,Z2 b->Z.In b:=λb hb=>hb.elim (G.vU.cz b) (Hd G.vU hf hr ht b);have Cj:Trans (λb=>Z2 b\/(a.eval (.tmp x)).ownBlock=some b) e2.φ w φ' w':=hW.tr.vY (by grind);have aqH:eY c Z2 φ' w' (e2.B root) ks outs:=hW.inv.1.wide λb hb=>hZ2 b (hW.sub b hb);have ⟨e3,mr,h3,hφ3,hX,hK6⟩:=adI G.vU hf hm hr ht (λb=>Iff.rfl) (X:=λb=>(a.eval (.tmp x)).ownBlock=some b) (λt jM V9 hb=>G.box t jM V9 hb) (λf o b ho hk hb=>G.jC f o b ho hk hb) Cj hW.mj aqH hK5;have yC:Trans Z e.φ w φ' w':=by have t2:Trans Z e2.φ w φ' w':=Cj.vY λb hb=>hb.elim (alK b) (G.In b);rw [G.φ] at t2;exact x1.tr.trans t2
  subst hφ3;exact abN h3 hd1 hd2 hyd G.In im eS (by grind) yC hK6
def WW (hG:Good P c){is:List Nat}{rest:List Nat}: ∀{os:List Oper} {e:Env} {st:St} {a:Act} {w:World},is.map (ops[·]?)=os.map some->bT c Z e st a w->GY c ops.toList os st K=some r-> ∀{φ0:Ph} {w0:World},Trans Z φ0 w0 e.φ w->(∀a' w',Out c Z K r φ0 w0 a' w'->wpOps P ops Q rest a' w')->wpOps P ops Q (is++rest) a w:=by
 induction is with
 |nil=>
  intro os e st a w hm h hK φ0 w0 ht hQ;cases os with
  |nil=>exact hQ a w ⟨e,st,h,ht,hK⟩
  |cons=>simp at hm
 |cons i is ih=>
  intro os e st a w hm h hK φ0 w0 ht hQ;cases os with
  |nil=>simp at hm
  |cons o os=>simp at hm;refine wpOp_mono ?_ (abF hG hm.1 h hK);rintro a' w' ⟨e2,eG,h1,h2,h3⟩;exact ih hm.2 h1 h3 (ht.trans h2) hQ
structure auL (c:Ctx) (l pre:List Oper) (f:Nat) (aV:List Operand) (h:Nat) (x:Operand) (o1 o2:Oper) (post:List Oper):Prop where
 eq:l=pre++o1::o2::post
 is: ∃(cs:Array Operand) (cl:Call) (x' y d:Nat),cs.toList=aV/\o1.op= .makeFunc (.func f) #[] cs/\o2.op= .call cl/\cl.callee= .value (.func h)/\cl.args.toList=[.tmp x',.tmp y]/\x= .tmp x'/\o1.dst=some y/\o2.dst=some d/\c.SU h=true/\x'≠y/\d≠y/\y<c.n
def ZO: ∀{l pre aqI:List Oper} {f:Nat} {aV:List Operand} {h:Nat} {x:Operand} {o1 o2:Oper} {post:List Oper},KA c pre l=some (aqI,f,aV,h,x,o1,o2,post)->auL c (pre.reverse++l) aqI f aV h x o1 o2 post:=by
 intro l;induction l with
 |nil=>grind [KA]
 |cons p1 l ih=>
  intro pre aqI f aV h x o1 o2 post hd;cases l with
  |nil=>grind [KA]
  |cons p2 r=>
   unfold KA at hd;split at hd
   .rename_i f' first cs cl h1 h2
    split at hd
    .rename_i h' x' y' d' k1 k2 k3 k4;cases hb:c.SU h'&&AS y' d'&&!AS x' d'&&!ahs c.n d'&&!AS (p2.dst.getD d') d' with
     |false=>grind
     |true=>
      simp only [hb,cond_true,By,afC] at hd;have ⟨rfl,rfl,rfl,rfl,rfl,rfl,rfl,rfl⟩:=hd;simp only [sh,afy,iy,decide_eq_true_eq,decide_eq_false_iff_not] at hb;have ⟨⟨⟨⟨q1,rfl⟩,q3⟩,q4⟩,q5⟩:=hb;have hf:first= #[]:=by apply aft.1;simpa using k3
      subst hf;have hd2: ∃d,p2.dst=some d/\d≠y':=by
       cases hp:p2.dst with
       |none=>grind
       |some d=>grind
      have ⟨d,hd2,hd3⟩:=hd2;refine ⟨rfl,cs,cl,x',y',d,rfl,h1,h2,k1,k2,rfl,k4,hd2,q1,q3,hd3,?_⟩;all_goals grind [agV]
    grind
   grind
def WX: ∀{l:List Oper},MZ l=true-> ∀o∈l,o.guard=none:=by
 intro l;induction l with
 |nil=>grind
 |cons p l ih=>intro h o ho;unfold MZ at h;grind
theorem adK (hG:Good P c)(QI:vZ P c)(id:Nat)(ops:Array Oper):WH P c id ops:=by
 intro Z e st a w R K r Q h hK hQ;unfold aga at hK;split at hK;rotate_left
 .exact RR (adu hG id ops) h hK hQ
 rename_i pre f aV hh x o1 o2 post hda;obtain ⟨Aa,cs,cl,x',y,d,rfl,k1,k2,k3,k4,rfl,k5,k6,k7,k8,k9,k10⟩:=ZO hda;simp at Aa;cases Zj:MZ ops.toList with
 |false=>grind
 |true=>
 simp only [Zj,cond_true] at hK;have ⟨std,hdr,hK⟩:=tz h hK;have hgd:=WX Zj;have hg1:o1.guard=none:=(by grind)
 have hg2:o2.guard=none:=(by grind)
 refine wp_region ?_;have yS:ops.size=pre.length+(post.length+2):=by rw [<-af2,Aa];simp
 have mq: ∀i,ops[i]? =(pre++o1::o2::post)[i]? :=λi=>by rw [<-Aa,akF]
 have aqJ:afG ops.size=afG pre.length++(pre.length::(pre.length+1)::((afG post.length).map (· +(pre.length+2)))):=by rw [yS,akI];congr 1;rw [show post.length+2=2+post.length by omega,akI];simp [List.range_succ];intros;omega
 rw [aqJ];refine WW hG (os:=pre) ?_ hdr hK (.refl _ _ _) ?_
 .apply agO;grind
 .rintro a1 w1 ⟨e1,aZ,s1,t1,xw⟩;have hw:=alJ hG.fn (QI hh k7) k1 k2 k3 k4 k5 k6 k8 k9 k10 s1 xw (P:=P) (Q:=Q);have yT:ops[pre.length]? =some o1:=by rw [mq];simp
  have hi2:ops[pre.length+1]? =some o2:=by rw [mq,afz aab];simp
  rw [wpOps_cons];unfold wpOp;simp only [yT,No,hg1,if_true];left;refine afF ?_ hw;intro a2 w2 hw2;rw [wpOps_cons];unfold wpOp;simp only [hi2,No,hg2,if_true];left;refine afF ?_ hw2;rintro a3 w3 ⟨e3,mr,s3,t3,QE⟩;rw [<-akD ((afG post.length).map (· +(pre.length+2)))];refine WW hG (os:=post) ?_ s3 QE (t1.trans t3) ?_
  .apply agO;intro i;simp;by_cases hi:i<post.length
   .simp_all;rw [afz aab,show i+(pre.length+2)-pre.length=i+2 by omega];grind
   grind
  .intro a' w' ho;exact hQ a' w' ho
def R4 (A B:Nat):(Qv ops A B).size=ops.size:=by simp [Qv]
def NR (A B i:Nat):(Qv ops A B)[i]? =(ops[i]?).map λo=>if B=i then {o with after:=o.after.push ⟨A,.data⟩} else o:=by grind [Qv]
def TE (A B:Nat)(tmps:Array Value):yielded (Qv ops A B) tmps=yielded ops tmps:=by funext j;unfold yielded;rw [NR];grind
def adL {A B i:Nat}{K:Act->World->Prop}{a:Act}{w:World}(h:wpOp P (Qv ops A B) Q i K a w):wpOp P ops Q i K a w:=by
 unfold wpOp at h⊢;rw [NR,TE] at h;cases hi:ops[i]? with
 |none=>grind
 |some o=>
  rw [hi] at h;simp at h;by_cases hb:B=i
  .rw [if_pos hb] at h;exact h
  grind
def ZP {A B i:Nat}{listed:Array Bool}:i∈AT .any (Qv ops A B) listed↔i∈AT .any ops listed/\(i=B->listed.getD A false=true):=by
 unfold AT;rw [R4];simp only [alC,List.mem_range,NR];cases hi:ops[i]? with
 |none=>simp
 |some o=>
  by_cases hb:B=i
  .grind [Array.all_push,afN]
  grind
def Ahd (A B:Nat):Bool->List Nat->Prop
 |_,[]=>True
 |la,i::r=>(i=B->la=true)/\Ahd A B (la||decide (i=A)) r
theorem NS (A B:Nat): ∀L,Ahd A B true L
 |[]=>trivial
 |i::r=>⟨λ_=>rfl,by simpa using NS A B r⟩
def ahC {A B:Nat}(h:A≠B): ∀L,Ahd A B false L\/Ahd B A false L
 |[]=> .inl trivial
 |i::r=>by
  by_cases ha:i=A
  .subst ha;exact .inl ⟨λe=>absurd e h,by grind [NS]⟩
  .by_cases hb:i=B
   .exact .inr ⟨λe=>absurd e ha,by grind [NS]⟩
   .rcases ahC h r with h1|h1
    .exact .inl ⟨λe=>absurd e hb,by grind⟩
    .exact .inr ⟨λe=>absurd e ha,by grind⟩
def wa (ops:Array Oper):List (Nat×Nat)->Array Oper
 |[]=>ops
 |p::E=>Qv (wa ops E) p.1 p.2
def FU: ∀E,(wa ops E).size=ops.size
 |[]=>rfl
 |p::E=>by rw [wa,R4,FU E]
theorem NT {i:Nat}{K:Act->World->Prop}{a:Act}{w:World}: ∀E,wpOp P (wa ops E) Q i K a w->wpOp P ops Q i K a w
 |[],h=>h
 |_::E,h=>NT E (adL h)
theorem CE {i:Nat}{listed:Array Bool}: ∀E,i∈AT .any (wa ops E) listed↔i∈AT .any ops listed/\ ∀p∈E,i=p.2->listed.getD p.1 false=true
 |[]=>by simp [wa]
 |p::E=>by rw [wa,ZP,CE E,akL];grind
def ZQ {E:List (Nat×Nat)}: ∀(fuel t:Nat) (listed:Array Bool) (a:Act) (w:World),(∀p∈E,p.1<listed.size)->wpAny P .any (wa ops E) Q fuel listed a w-> (∀p∈E,Ahd p.1 p.2 (listed.getD p.1 false) (OF .any ops fuel t listed []))->wpOps P ops Q (OF .any ops fuel t listed []) a w:=by
 intro fuel;induction fuel with
 |zero=>intro t listed a w _ h _;simpa [OF,wpOps] using h.2
 |succ fuel ih=>
  intro t listed a w hs h hA;have ⟨h₀,h₁⟩:=h;change wpOps P ops Q (match (AT .any ops listed)[t%(AT .any ops listed).length]? with
   |some i=>OF .any ops fuel (t/(AT .any ops listed).length) (listed.setIfInBounds i true) [i]
   |none=>[].reverse) a w
  change∀p∈E,Ahd p.1 p.2 (listed.getD p.1 false) (match (AT .any ops listed)[t%(AT .any ops listed).length]? with
   |some i=>OF .any ops fuel (t/(AT .any ops listed).length) (listed.setIfInBounds i true) [i]
   |none=>[].reverse) at hA
  cases hi:(AT .any ops listed)[t%(AT .any ops listed).length]? with
  |none=>
   have ale:AT .any ops listed=[]:=by
    cases hr:AT .any ops listed with
    |nil=>rfl
    |cons x xs=>grind [Nat.mod_lt]
   have aBE:AT .any (wa ops E) listed=[]:=by
    cases hr:AT .any (wa ops E) listed with
    |nil=>rfl
    |cons x xs=>
     have:x∈AT .any (wa ops E) listed:=by rw [hr];simp
     grind [CE]
   grind [wpOps]
  |some i=>
   rw [hi] at hA;simp only [] at hA⊢;rw [linearise_go_acc,List.reverse_singleton,List.singleton_append] at hA⊢;have QJ:=(CE E).2 ⟨List.mem_of_getElem? hi,λp hp=>(hA p hp).1⟩;refine wpOp_mono (λa w hw=>ih _ _ a w (by grind) hw λp hp=> ?_) (by grind [NT]);have hg:(listed.setIfInBounds i true).getD p.1 false=(listed.getD p.1 false||decide (i=p.1)):=by
    rw [ac4,ac4,Array.getElem?_setIfInBounds];by_cases hia:i=p.1
    .grind
    .simp [hia]
   rw [hg];exact (hA p hp).2
def NU {c:Ctx}(hG:Good P c)(TF:P.follows .mixedOrders=true)(QI:vZ P c):WI P c:=by
 refine ⟨(by grind [adK]),?_,?_⟩
 .intro id ops l hd hp Z e st a w R K r Q h hK hQ;refine amj ?_ (wp_region_any TF (WU hG hd hp h hK));intro x a' w' hx;cases x<;>first|exact hQ a' w' hx|exact hx.elim
 .intro id ops k l Z e st a w R _ K r Q h hK hQ;refine amj (Q:=qt λa' w'=>Out c Z K r e.φ w a' w') ?_ (wp_region_draw λt=> ?_)
  .intro x a' w' hx;cases x<;>first|exact hQ a' w' hx|exact hx.elim
  simp_all;have leaf: ∀(E:List (Nat×Nat)) (l:List Nat),(∀p∈E,p.1<ops.size)->agc c (wa ops E) l st K=some r->(∀p∈E,Ahd p.1 p.2 false (OF .any ops ops.size t (ad1 ops.size false) []))-> wpOps P ops (qt λa' w'=>Out c Z K r e.φ w a' w') (OF .any ops ops.size t (ad1 ops.size false) []) a {w with drawn:=w.drawn+1}:=by
   intro E l hE hK hA;unfold agc at hK;obtain ⟨hd,hK⟩:=ob hK;split at hK
   .rename_i l1 hp;have w1:=WU hG hd hp h hK;rw [FU] at w1;exact ZQ ops.size t _ a _ (by grind) w1 (λp hp=>by simpa [hE p hp] using hA p hp)
   .cases hK
  have key: ∀(k:Nat) (E:List (Nat×Nat)) (l:List Nat),(∀p∈E,p.1<ops.size)->M0 c st K k (wa ops E) l=some r->(∀p∈E,Ahd p.1 p.2 false (OF .any ops ops.size t (ad1 ops.size false) []))-> wpOps P ops (qt λa' w'=>Out c Z K r e.φ w a' w') (OF .any ops ops.size t (ad1 ops.size false) []) a {w with drawn:=w.drawn+1}:=by
   intro k;induction k with
   |zero=>intro E l _ hK;cases hK
   |succ k ih=>
    intro E l hE hK hA;simp only [M0] at hK;cases hb:AS l.length (wa ops E).toList.length with
    |true=>grind
    |false=>
     simp only [hb,cond_false] at hK;split at hK
     .rename_i o1 o2 A B ht;have ⟨q1,q2,q3⟩:=ZE ht;have yS:(wa ops E).toList.length=ops.size:=by rw [af2,FU]
      have ⟨k1,k2⟩:=adv hK;rcases ahC q1 (OF .any ops ops.size t (ad1 ops.size false) []) with ho|ho
      .exact ih ((A,B)::E) o1 (by grind) k1 (by grind)
      .exact ih ((B,A)::E) o2 (by grind) k2 (by grind)
     .cases hK
  exact key k [] l abu hK abu
def yF {i:Nat}{rest:List Nat}{v:Value}(hi:ops[i]? =some o)(hg:o.guard=none)(bU:(execOp a.eval o).run P w= .ok (.value v) w')(h:wpOps P ops Q rest (a.put o.dst v) w'):wpOps P ops Q (i::rest) a w:=by simp_all [wpOps_cons,wpOp,No,if_true,akA,ahE]
structure al (o:Oper) (d:Nat) (op:Op):Prop where
 dst:o.dst=some d
 op:o.op=op
 guard:o.guard=none
def aqK {key:Nat->Nat} {φ:Ph}{size:Nat}{v:Value}{xs:List MV}(iA:oN φ w)(gq:0<size)(hx:jI key φ [v] (.list xs))(hw:oL size xs=true): ∃news,Src (np key φ) w size v xs news:=by
 generalize hv:[v]=vs at hx;cases hx with
 |list ad cap _ bg off IM f g1 g2 g3 g4 g5=>
 simp at hv;have hes: ∀i,i<xs.length->(f i).length=size:=by intro i hi;rw [(g5 i hi).width];exact G8 hw _ (List.getElem_mem hi)
 have ⟨cs,h1,h2⟩:=Nf hes g5;refine ⟨cs,h1,ad,cap,hv,?_,?_⟩
 .intro hn;simp_all
 .intro x hx j u hj;have M7:j<cs.length:=(by grind)
  rw [h1.length] at M7;have Wn:0<xs.length:=by
   cases xs with
   |nil=>simp at M7
   |cons y ys=>simp
  have hq:j/size<xs.length:=(Nat.div_lt_iff_lt_mul gq).2 M7;have hm:=Nat.mod_lt j gq;have Ta:j=j/size *size+j%size:=by rw [al0];exact (Nat.div_add_mod j size).symm
  have e1:=h2 (j/size) (j%size) hq hm;rw [<-Ta,hj] at e1;have agH:IM=size:=by rw [<-g3 0 Wn,hes 0 Wn]
  have e2:=g4 (j/size) (j%size) hq (by rw [agH];exact hm);rw [<-e1,agH,Nat.add_assoc,<-Ta] at e2;have:=iA _ _ _ e2;grind [ak3]
def adM {t t':TypeId}{el:TypeId}{x:Operand}{ad:Option Addr}{n cap:Nat}(hu:P.underlying t=some (.slice el))(ho:o.op= .binOp .eql t x (.const (.slice none 0 0)) t')(hx:a.eval x= .slice ad n cap): (execOp a.eval o).run P w= .ok (.value (.bool ad.isNone)) w:=by
 have he:a.eval (.const (.slice none 0 0))= .slice none 0 0:=rfl;have Aa: ∀d:Nat,(akC (d+1) t (.slice ad n cap) (.slice none 0 0)).run P w= .ok ad.isNone w:=by intro d;cases ad<;>simp [akC,run_underlying hu]
 have hb:Go.binOp .eql t (.slice ad n cap) (.slice none 0 0)=(do pure (.bool (<-akH t (.slice ad n cap) (.slice none 0 0)))):=rfl;have hg: ∀(x y:Operand),(eqGuard .eql t x y (.slice ad n cap) (.slice none 0 0)).run P w= .ok () w:=λ_ _=>rfl;have h2:(akH t (.slice ad n cap) (.slice none 0 0)).run P w= .ok ad.isNone w:=Aa 9999;simp_all [execOp]
theorem Hk {f:FuncId}{fn:Func}{t:TypeId}{I E:TI}{i0 i1 i2 i3:Nat}{oA oB oC oD oE oF oG oH:Oper}{xs:List MV}(hT:iz P c.ti)(hI:c.tv t=some I)(hL:I.IK=true)(hE:c.tv I.elem=some E)(uU:1<=E.bytes)(Jg:c.mV (c.key f)=I.elem)(hg:c.cS (c.key f)=false)
 (hf:P.funcs[f]? =some fn) (zd:(fn.name== "runtime.NumGoroutine")=false) (hn:fn.ntmps=8) (hr:fn.results= #[.tmp 2])
 (jP:fn.body=some (.seq (.region i0 #[oA] false) (.seq (.seq (.region i1 #[oB,oC] false) (.cond (.tmp 4) (.seq (.region i2 #[oD] false) .ret) .skip)) (.seq (.region i3 #[oE,oF,oG,oH] false) .ret))))
 (hA:al oA 2 (.assign (.const (.slice none 0 0)))) (hB:al oB 3 (.move (.tmp 0))) (hC:al oC 4 (.binOp .eql t (.tmp 3) (.const (.slice none 0 0)) t)) (hD:al oD 2 (.assign (.const (.slice none 0 0))))
 (hEo:al oE 5 (.buildSlice t 0 #[])) (hF:al oF 6 (.move (.tmp 0))) (hG:al oG 7 (.call {callee:= .builtin .append,args:= #[.tmp 5,.tmp 6],argTypes:= #[t,t]})) (hH:al oH 2 (.assign (.tmp 7)))
 (hw:oL E.size xs=true) (qg:xs.length *E.bytes<=2^46):dG P c f [.list xs] (.fresh xs):=by
 obtain ⟨hIt,YV⟩:=a8 hI;obtain ⟨mT,pg⟩:=a8 hE;obtain ⟨hu,E2,GV,_,gq⟩:=TI.mn (hT t I hIt) hL;rw [mT] at GV;cases GV;intro φ W Z vs hz dx iA;simp only [cR,hg,afw,if_false] at dx;obtain ⟨v,u,rfl,⟨_,hx⟩,hu0⟩:=dx;have hu0:u=[]:=hu0;subst hu0;obtain ⟨ad,cap,hv,FM,hnn⟩: ∃ad cap,v= .slice ad xs.length cap/\xs.length<=cap/\(0<xs.length->ad≠none):=by
  have hx2:=hx;generalize EN:[v]=vs at hx2;cases hx2 with
  |list ad cap _ bg off IM f g1 g2 g3 g4 g5=>grind
 have bU:(callFunc f [v].toArray).run P W= .ok (.enter f #[v]) W:=by
  have Me: ¬fn.name= "runtime.NumGoroutine" :=by simpa using zd
  simp [callFunc,hf,Me,jP]
 unfold dF;rw [bU];refine calls_of_wp hf jP ?_;rw [hn];have ha0:({tmps:= #[v]++ad1 (8-(#[v]:Array Value).size) undef,defers:=[]}:Act)={tmps:= #[v,undef,undef,undef,undef,undef,undef,undef],defers:=[]}:=rfl;rw [ha0];have azt:afG (#[oA]:Array Oper).size=[0]:=rfl;have azu:afG (#[oB,oC]:Array Oper).size=[0,1]:=rfl;have azv:afG (#[oE,oF,oG,oH]:Array Oper).size=[0,1,2,3]:=rfl;have aD8:afG (#[oD]:Array Oper).size=[0]:=rfl;have fin: ∀(a:Act) (W':World) (v':Value) (cells:List Value),a.defers=[]->a.tmps.getD 2 undef=v'->(∃φ',Trans Z φ W φ' W'/\oN φ' W'/\iG c Z φ' W' (c.key f) v' (.fresh xs))-> bodyPost P fn (λx I6=> ∃v,x= .returned v/\ ∃φ',Trans Z φ W φ' I6/\oN φ' I6/\iG c Z φ' I6 (c.key f) v (.fresh xs)) .ret a W':=by
  intro a W' v' cells hd h2 h3;refine ⟨hd,v',?_,v',rfl,h3⟩;have VM:a.tmps[2]?.getD undef=v':=by simpa using h2
  simp [results,hr,VM]
 refine wp_seq (wp_region ?_);rw [azt];refine yF (o:=oA) rfl hA.guard (v:= .slice none 0 0) (w':=W) (by simp [execOp,hA.op];rfl) ?_;rw [hA.dst];refine wp_seq (wp_seq (wp_region ?_));rw [azu];refine yF (o:=oB) rfl hB.guard (v:=v) (w':=W) (by simp [execOp,hB.op];rfl) ?_;rw [hB.dst];refine yF (o:=oC) rfl hC.guard (v:= .bool ad.isNone) (w':=W) (adM hu hC.op (by rw [<-hv];rfl)) ?_;rw [hC.dst];refine wp_cond (t:=ad.isNone) rfl ?_;cases had:ad.isNone with
 |true=>
  have had:ad=none:=by simpa using had
  have hxs:xs=[]:=by
   cases xs with
   |nil=>rfl
   |cons y ys=>grind
  refine wp_seq (wp_region ?_);refine yF (o:=oD) rfl hD.guard (v:= .slice none 0 0) (w':=W) (by simp [execOp,hD.op];rfl) ?_;rw [hD.dst];refine wp_ret ?_;refine fin _ W (.slice none 0 0) [] rfl rfl ⟨φ,.refl _ _ _,iA,?_⟩;show ch c (bC.plain Z) (np c.key φ) W _ ⟨c.mV (c.key f),false,xs⟩;rw [Jg,hxs];exact ⟨E,[],mT,pg,⟨abu,.inl ⟨rfl,rfl⟩⟩,rfl,(by grind [IT])⟩
 |false=>
  simp only [afw,if_false];refine wp_skip ?_;refine wp_seq (wp_region ?_);rw [azv];have auN:=Te (P:=P) (c:=c) (w:=W) (t:=t) (I:=I) (vs:=[]) (parts:= #[]) hu mT pg gq hT abu abu rfl;simp only [List.length_nil,List.flatMap_nil] at auN;refine yF (o:=oE) rfl hEo.guard (v:= .slice (some ⟨W.heap.size,0,none⟩) 0 0) (w':=W.alloc (.cells #[] I.elem)) (by simp [execOp,hEo.op,auN]) ?_;rw [hEo.dst];refine yF (o:=oF) rfl hF.guard (v:=v) (w':=W.alloc (.cells #[] I.elem)) (by simp [execOp,hF.op];rfl) ?_;rw [hF.dst];obtain ⟨news,Cw⟩:=aqK iA gq hx hw;have hg1:dk W (W.alloc (.cells #[] I.elem)):= .alloc W _ _;have auO:Src (np c.key φ) (W.alloc (.cells #[] I.elem)) E.size v xs news:=by obtain ⟨ad',agw,q1,q2,q3⟩:=Cw.val;exact ⟨Cw.els,ad',agw,q1,q2,λx hx j u hj=>hg1.cell (q3 x hx j u hj)⟩
  have eS:(W.alloc (.cells #[] I.elem)).ownsRow 0 I.elem E.size (.slice (some ⟨W.heap.size,0,none⟩) 0 0) 0 []:=⟨abu,.inr ⟨W.heap.size,0, #[],rfl,akJ _,ju W _,afB _,akJ _,abu,abu⟩⟩
  obtain ⟨v',W',R3,y7⟩:=FN (P:=P) (c:=c) (ty:=oG.type) hu mT pg gq hT uU eS (auO.apx hu) (by grind);refine yF (o:=oG) rfl hG.guard (v:=v') (w':=W') (by
   have e1: ∀(a:Act),a.eval (.tmp 5)= .slice (some ⟨W.heap.size,0,none⟩) 0 0->a.eval (.tmp 6)=v->(execOp a.eval oG).run P (W.alloc (.cells #[] I.elem))= .ok (.value v') W':=by intro a h5 h6;simp [execOp,hG.op,resolve,invoke,builtin,h5,h6,R3]
   exact e1 _ rfl rfl) ?_
  rw [hG.dst];refine yF (o:=oH) rfl hH.guard (v:=v') (w':=W') (by simp [execOp,hH.op];rfl) ?_;rw [hH.dst];refine wp_ret ?_;refine fin _ W' v' [] rfl rfl ?_;have yS:W.heap.size<=W'.heap.size:=agM hg1.size y7.size;have hold: ∀b,b<W.heap.size->W'.heap[b]? =W.heap[b]? :=by intro b hb;rw [y7.vP b (ait hb hg1.size) (by grind [IT])];exact hg1.vP b hb
  refine ⟨φ,⟨.refl _,λb _ hb=>hold b hb,λ_ _ _=>rfl,yS,hg1.rest.trans y7.rest⟩,?_,?_⟩
  .intro b o u hbo;have h1:=iA b o u hbo;rw [World.cell?_of_block (hold b (afx W _ h1))];exact h1
  .show ch c (bC.plain Z) (np c.key φ) W' v' ⟨c.mV (c.key f),false,xs⟩;rw [Jg];refine ⟨E,news,mT,pg,by grind [y7.own],Cw.els,λbg hb=> ?_⟩;have qf:W.heap.size<=bg:=by
    rcases y7.place with h1|h1
    .grind [IT]
    .grind [hg1.size]
   refine ⟨hz bg qf,λoff u hu=> ?_,λhc=>hc.elim⟩;have:=afx W _ (iA _ _ _ hu);grind
end
end
end Dn
