import Derived.Test.YtbkodohojpchjaaGreatDoorDnA
import Derived.Great.BuildSlice
import Derived.MapKept
import Derived.Carry
import Derived.Laws.StructEq
import Derived.Laws.RangeAny
import Derived.Laws.BytesArg
import Derived.Laws.MakeOwn
import Derived.Laws.IdiomStrings
import Derived.LoopN
/-
  Appends, the operation. Conditions: none.
-/
set_option linter.unusedSimpArgs false
set_option linter.unusedVariables false
set_option linter.constructorNameAsVariable false
open Bool renaming and_eq_true→aQ,or_eq_false_iff→OF,not_eq_true'→aaf,false_eq_true→aan,not_eq_false'→aao,true_and→abG,not_true→ab8
open List renaming mem_cons→sh,getElem?_eq_getElem→IN,mem_append_left→IT,replicate→aaa,mem_append_right→aab,mem_cons_of_mem→aai,cons_append→aaj,getElem?_map→aal,length_map→aap,mem_append→aas,map_cons→aau,getElem?_eq_some_iff→aaE,getElem?_take→aaO,mem_map→aaU,eq_nil_of_length_eq_zero→abe,mem_filter→abh,getElem?_append_right→abA,getD_eq_getElem?_getD→abC,getElem?_append_left→abF,length_take→abL,flatten_append→abZ,getElem?_range→ab0,replicate_succ→ab1,map_eq_nil_iff→ab5,length_append→ab9,getElem?_drop→aca,append_assoc→acj,ext_getElem?→acB,length_cons→acC,getElem_map→acF,append_nil→ac6,take_left→ac9
open Nat renaming eq_of_beq_eq_true→AI,beq→By,le_refl→aae,zero_add→aaD,add_right_cancel_iff→aaL,le_trans→aaP,le_of_ble_eq_true→aaW,mul_le_mul_right→aa6,lt_of_lt_of_le→abv,not_lt_zero→abV,ble_eq_true_of_le→abW,ble→acd,succ_mul→acv,add_comm→acx,add_assoc→adb,zero_le→adF
open Go.Value renaming ownBlock→AS,slice→aa8,cells→abc,oneCell'→ac7,int→adC,string→adE
open Option.some renaming injEq→AT
open Go.Result renaming andThen→BY
open List.cons renaming injEq→No
open Prod.mk renaming injEq→aac
open Go.MapKept renaming run_getObj_map→aad,run_setObj_map→aam,heap_set→abI
open Go.Instr renaming sameBits→aag,sameNow→aav,findNow→aa4,findKey→abH
open Go.World renaming block_lt_of_cell?→aah
open Array renaming toList_inj→aak,getElem?_modify→aaw,toList_map→aa0,toArray_toList→abg,length_toList→abj,getD_eq_getD_getElem?→abr,ext_getElem?→abw
open Option renaming map_some→aat
open False renaming elim→aaN
open Go.Deferred renaming ofValue→aa1
open Go.Oper renaming wp_mono→abn,upon_value→abU,wp→adD
open Go.Code renaming region→abY
open Go.Sem renaming run_bind→acA,run→adH
open Go.Utf8 renaming decode→acL
open UInt8 renaming ofNat→acP
open Go.Op renaming equal→ada
open Go.Region renaming wanted→adu
open Go.Value.pointer renaming injEq→adG
namespace Dn
open Go
section
variable {P:Program}{c:Ctx}{Z:aO} {e e':Env}{st:St}{a:Act} {w w':World}{R:Type}{K:St->Option R}{r:R}{Q:Exit->Act->World->Prop}{o:Oper}
theorem ma {base:Nat}{t:TypeId}{size n:Nat}{v:Value}{xs:List Value}(h:w.ownsRow base t size v n xs):v.oneCell'=true:=by rcases h.2 with ⟨rfl,_⟩|⟨g,cap,bU,rfl,_⟩<;>rfl
theorem Gj {E:TI}{t:TypeId}(hr:ji c.ti P t E)(h:J9 E=true):P.underlying t=some (.int .u8)/\E.size=1:=by
 unfold J9 at h;split at h
 ·rename_i k cu hl;have:=of_decide_eq_true h;subst this;obtain ⟨d,i,h1,h2,h3,h4⟩:=hr;cases d<;>simp only [kM,hl,cu] at h4<;>first|(exfalso;simp_all;done)|skip
  obtain ⟨_,_,h5,h6,_⟩:=h4;simp only [No,Kd.i.injEq,and_true] at h6;subst h6;exact ⟨h1,h5⟩
 ·cases h
theorem Gk {key:Nat->Nat} {φ:Ph}: ∀l:List UInt8,aB key φ 1 (l.map λx=>adC .u8 (x.toNat:Int)) (pL l)
 |[]=>rfl
 |b::l=>⟨[.int .u8 (b.toNat:Int)],_,rfl,rfl,.i .u8 _,Gk l⟩
theorem H2 {cl:Call}{s x:Operand}{t u:TypeId}{I E:TI}{ys:List MV}{news:List Value}(ho:o.op= .call cl)(hb:cl.callee= .builtin .append)(ha:cl.args.toList=[s,x])(DI:cl.argTypes.toList=[t,u])(hI:c.tv t=some I)(hL:I.pH=true)(hE:c.tv I.elem=some E)(hT:dt P c.ti)(h:bg c Z e st a w)(rQ:Wt P w u I.elem E.size (a.eval x) ys.length news)(iy:aB e.key e.φ E.size news ys)(hK:Na (aP c.bs (o.dst.getD 0)) (o.dst.getD 0) st I E (aq c st s) ys (λsl st=>aG c st o.dst sl K)=some r):o.wp P a w (Out c Z K r e.φ w) Q:=by
 obtain ⟨fH,hc⟩:=aD hI;obtain ⟨fR,iT⟩:=aD hE;obtain ⟨hu,E2,ot,_,cU⟩:=TI.fJ (hT t I fH) hL;rw [fR] at ot;cases ot;have ha':cl.args= #[s,x]:=by rw [<-aak,ha]
 have aaZ:cl.argTypes= #[t,u]:=by rw [<-aak,DI]
 obtain ⟨hs,_⟩:=h.eval s;have go: ∀(pb:Bool) (f:Nat) (cB:Bool) (xs:List MV) (cells:List Value),1<=E.bytes->(xs.length+ys.length) *E.bytes<=2^46->w.ownsRow 0 I.elem E.size (a.eval s) xs.length cells->aB e.key e.φ E.size cells xs-> (∀aA,(a.eval s).ownBlock=some aA->((f∈Z.bF/\Z.Pr aA)\/Z.In aA)/\(∃o,ar st.az f=some o/\(e.E f).ownBlock=some aA)/\ ∀off u,e.φ aA off=some u->cB=true/\off<xs.length *E.size)-> dW st f ⟨I.elem,cB,xs++ys⟩ (λst=>bif pb then gl st (.own f) λm st=>aG c st o.dst (.sc (.p m)) K else aG c st o.dst (.sc (.own f)) K)=some r->o.wp P a w (Out c Z K r e.φ w) Q:=by
  intro pb f cB xs cells np fa cb dL xH hK;obtain ⟨v',w',aV,ou⟩:=vf (P:=P) (ty:=o.type) hu fR iT cU hT np cb rQ fa;have hlen:cells.length=xs.length *E.size:=dL.length;have rK:=h.Wr hK;have hK:=jk hK;have db:bw c Z.nc e w' v' ⟨I.elem,cB,xs++ys⟩:=by
   refine ⟨E,cells++news,fR,iT,by simpa using ou.own,dL.append iy,?_⟩;intro aA et;rcases ou.place with h1|h1
   ·rw [h1] at et;obtain ⟨h2,_,h3⟩:=xH aA et;refine ⟨Hu h2 rK,λoff u hu=> ?_,λhc=>aaN hc⟩;obtain ⟨h4,h5⟩:=h3 off u hu;refine ⟨h4,abv h5 ?_⟩;simp only [ab9];exact aa6 _ (Nat.le_add_right _ _)
   ·rw [h1] at et;cases et;refine ⟨h.bt _ (aae _),λoff u hu=> ?_,λhc=>aaN hc⟩;have:=aah w _ (h.fB _ _ _ hu);simp at this
  have gx:=h.dW (f:=f) rK db ou.size (λb z7 cg=>ou.ln b z7 (λhk=>by obtain ⟨_,⟨o2,h1,h2⟩,_⟩:=xH b hk.symm;exact cg o2 h1 h2)) (λb off u hu=>by
    have Uc:=h.fB b off u hu;by_cases hk:(a.eval s).ownBlock=some b
    ·obtain ⟨_,_,h3⟩:=xH b hk;exact ou.cell b off u hk (by rw [hlen];exact (h3 off u hu).2) Uc
    ·rw [World.cell?_of_block (ou.ln b (aah w _ Uc) (λLY=>hk LY.symm))];exact Uc)
   (λb et=>by
    rcases ou.place with h1|h1
    ·rw [h1] at et;exact .inr (xH b et).2.1
    ·rw [h1] at et;cases et;exact .inl (aae _))
  have hx:(execOp a.eval o).run P w= .ok (.value v') w':=by simp [execOp,ho,resolve,hb,invoke,builtin,ha',aaZ,aV]
  have nq:Trans Z e.φ w e.φ w':=⟨.refl _,λb hz z7=>ou.ln b z7 (λhk=>hz (Hu (xH b hk.symm).1 rK)),λ_ _ _=>rfl,ou.size,ou.rest⟩
  cases pb with
  |false=>simp only [cond_false] at hK;exact fin (v:=v') (s:= .sc (.own f)) hx gx nq (.of (kN (ma ou.own)) trivial) hK
  |true=>simp only [cond_true] at hK;have hl:aw (e.nU f v' ⟨I.elem,cB,xs++ys⟩) [v'] (.own f):=kN (ma ou.own);obtain ⟨e3,jm,m,k1,k2,_,k4,hK,_,k7,k8⟩:=eT (l:= .own f) gx (vs:=[v']) hl hK;have hm:m.one=true:=k8 (λ_ _ _ he=>by cases he);exact fin (v:=v') (s:= .sc (.p m)) hx k1 (nq.trans k2.tr) (.of (s:= .sc (.p m)) (by exact ⟨hm,k4⟩) trivial) hK
 generalize aq c st s=ss at hs hK;unfold Na at hK;cases np:acd 1 E.bytes with
 |false=>simp [np] at hK
 |true=>
  simp only [np,cond_true] at hK;have np:=aaW np;split at hK
  ·obtain ⟨fa,hK⟩:=cj hK;have fa:=of_decide_eq_true fa;simp only [aa] at hs;have hs:[a.eval s]=[aa8 none 0 0]:=hs;simp at hs;refine go false (o.dst.getD 0) false [] [] np (by simpa using fa) (by rw [hs];exact World.ownsRow_nil w 0 I.elem E.size) rfl ?_ (by simpa using hK);intro aA et;rw [hs] at et;simp [AS] at et
  ·rename_i f;cases hf:ar st.az f with
   |none=>simp [hf] at hK
   |some fo=>
    simp only [hf] at hK;obtain ⟨fa,hK⟩:=cj hK;have fa:=of_decide_eq_true fa;cases dU:By fo.ty I.elem with
    |false=>simp [dU] at hK
    |true=>simp only [dU,cond_true] at hK;have dU:=AI dU;obtain ⟨hv,_⟩:=lB h hs hf;obtain ⟨J,cells,hJ,_,cb,dL,h5⟩:=(h.dV f fo hf).row;rw [dU,fR] at hJ;cases hJ;refine go (aP c.bs (o.dst.getD 0)) f fo.cB fo.xs cells np fa (by rw [hv,<-dU];exact cb) dL ?_ (by rw [<-dU];exact hK);intro aA et;rw [hv] at et;exact ⟨(h5 aA et).1,⟨fo,hf,et⟩,(h5 aA et).2.1⟩
  ·rename_i xs;obtain ⟨hw,hK⟩:=cj hK;obtain ⟨fa,hK⟩:=cj hK;obtain ⟨hm,fa⟩:=of_decide_eq_true fa;simp only [aa,aw] at hs;obtain ⟨_,hs⟩:=hs;generalize hv:[a.eval s]=vs at hs;cases hs with
   |clip ad _ hl=>
   simp at hv;have iw:aa e (a.eval s) (.sc (.p (.list xs))):=by simp only [aa,aw];rw [hv];exact ⟨rfl,hl⟩
   obtain ⟨ys',cells,hsr,hy⟩:=yD (I:=I) (K':=some) (r:=xs) h fR cU iw (by show aY (fZ E.size xs) (some xs)=some xs;rw [hw];rfl);cases hy;obtain ⟨ad',P3,JU,Ex,xx⟩:=hsr.val;rw [hv] at JU;simp only [Value.slice.injEq] at JU;obtain ⟨rfl,_,_⟩:=JU;obtain ⟨v',w',aV,cb,et,hg⟩:=H0 (P:=P) (ty:=o.type) hu fR iT hT np hsr.Ws.length (λhn=>by rw [Ex hn];rfl) xx rQ hm fa;have rK:=h.Wr hK;have hK:=jk hK;have db:bw c Z.nc e w' v' ⟨I.elem,false,xs++ys⟩:=by refine ⟨E,cells++news,fR,iT,by simpa using cb,hsr.Ws.append iy,?_⟩;intro aA lp;rw [et] at lp;cases lp;refine ⟨h.bt _ (aae _),λoff u hu=> ?_,λhc=>aaN hc⟩;have:=aah w _ (h.fB _ _ _ hu);simp at this
   have gx:=h.dW (f:=o.dst.getD 0) rK db hg.size (λb z7 _=>hg.ln b z7) (λb off u hu=>hg.cell (h.fB b off u hu)) (λb lp=>by rw [et] at lp;cases lp;exact .inl (aae _));have hx:(execOp a.eval o).run P w= .ok (.value v') w':=by simp [execOp,ho,resolve,hb,invoke,builtin,ha',aaZ,hv,aV]
   cases AO:aP c.bs (o.dst.getD 0) with
   |false=>simp only [AO,cond_false] at hK;exact fin (v:=v') (s:= .sc (.own (o.dst.getD 0))) hx gx (hg.trans h.bt _) (.of (kN (ma cb)) trivial) hK
   |true=>simp only [AO,cond_true] at hK;have hl:aw (e.nU (o.dst.getD 0) v' ⟨I.elem,false,xs++ys⟩) [v'] (.own (o.dst.getD 0)):=kN (ma cb);obtain ⟨e3,jm,m,k1,k2,_,k4,hK,_,k7,k8⟩:=eT (l:= .own (o.dst.getD 0)) gx (vs:=[v']) hl hK;have hm:m.one=true:=k8 (λ_ _ _ he=>by cases he);exact fin (v:=v') (s:= .sc (.p m)) hx k1 ((hg.trans h.bt _).trans k2.tr) (.of (s:= .sc (.p m)) (by exact ⟨hm,k4⟩) trivial) hK
  ·simp at hK
theorem Ny {cl:Call}{s x:Operand}{t u:TypeId}{I E:TI}(ho:o.op= .call cl)(hb:cl.callee= .builtin .append)(ha:cl.args.toList=[s,x])(DI:cl.argTypes.toList=[t,u])(hI:c.tv t=some I)(hL:I.pH=true)(hE:c.tv I.elem=some E)(hT:dt P c.ti)(h:bg c Z e st a w)(hK:(bif By t u then FZ I E st (aq c st x) λys=>Na (aP c.bs (o.dst.getD 0)) (o.dst.getD 0) st I E (aq c st s) ys (λsl st=>aG c st o.dst sl K)
  else Ka c u E (aq c st x) λys=>Na (aP c.bs (o.dst.getD 0)) (o.dst.getD 0) st I E (aq c st s) ys (λsl st=>aG c st o.dst sl K))=some r):o.wp P a w (Out c Z K r e.φ w) Q:=by
 obtain ⟨fH,_⟩:=aD hI;obtain ⟨fR,_⟩:=aD hE;obtain ⟨hu,E2,ot,_,cU⟩:=TI.fJ (hT t I fH) hL;rw [fR] at ot;cases ot;obtain ⟨hx,_⟩:=h.eval x;cases lp:By t u with
 |true=>simp only [lp,cond_true] at hK;obtain rfl:=AI lp;obtain ⟨ys,news,rQ,hK⟩:=yD h fR cU hx hK;exact H2 ho hb ha DI hI hL hE hT h (rQ.apx hu) rQ.Ws hK
 |false=>
  simp only [lp,cond_false] at hK;unfold Ka at hK;split at hK
  ·rename_i T l hTu Gg;cases Qk:T.J8&&J9 E with
   |false=>simp [Qk] at hK
   |true=>
    simp only [Qk,cond_true] at hK;simp only [aQ] at Qk;obtain ⟨hTi,_⟩:=aD hTu;have hd:=TI.xJ (hT u T hTi) Qk.1;obtain ⟨he,jT⟩:=Gj (hT _ E fR) Qk.2;rw [Gg] at hx;obtain ⟨b,Ud,rfl⟩:=vV hx;refine H2 ho hb ha DI hI hL hE hT h (news:=b.data.toList.map λx=> .int .u8 (x.toNat:Int)) ?_ ?_ hK
    ·rw [jT,Ud];have:=Wt.str (w:=w) (el:=I.elem) hd b;rwa [show (pL b.data.toList).length=b.size by unfold pL;rw [aap];rfl]
    ·rw [jT];exact Gk _
  ·cases hK
end
end Dn
/-
  Slices that are written out. Conditions: none.
-/
namespace Dn
open Go
section
variable {P:Program}{c:Ctx}{Z:aO} {e e':Env}{st:St}{a:Act} {w w':World}{R:Type}{K:St->Option R}{r:R}{Q:Exit->Act->World->Prop}{o:Oper}
theorem bg.Wv {φ':Ph}(h:bg c Z e st a w)(hle:dJ e.φ φ')(du: ∀b o v,φ' b o=some v->w.cell? ⟨b,o,none⟩=some v)(nR: ∀t cs,ah st.fr t= .box cs-> ∀off,φ' (e.B t) off=e.φ (e.B t) off)(db: ∀f o b,ar st.az f=some o->(e.E f).ownBlock=some b-> ∀off,φ' b off=e.φ b off): bg c Z {e with φ:=φ'} st a w:=by
 have lu:eR (λ_=>True) (λ_=>True) e {e with φ:=φ'}:=⟨rfl,hle,λ_ _=>rfl,λf o ho _=>⟨o,ho,rfl,rfl⟩⟩
 refine ⟨h.defers,h.size,h.m,h.key,h.nodup,?_,h.root,?_,h.bb,h.bf,h.ff,du,h.bt⟩
 ·intro t;have hs:=h.slot t;have hb:=nR t;show bk Z _ w t _ (ah st.fr t);generalize ah st.fr t=s at hs hb;cases s<;>simp only [bk] at hs⊢ <;>try exact hs.on lu (cw _)
  rename_i cs;refine ⟨hs.1,hs.2.bt,?_,λoff=>by show φ' (e.B t) off=none;rw [hb cs rfl];exact hs.2.free off⟩;obtain ⟨o2,h1,h2⟩:=hs.2.obj;exact ⟨o2,h1,h2.on lu (λl _ f _=>trivial)⟩
 ·intro f o ho;obtain ⟨I,cells,h1,h2,h3,h4,h5⟩:=(h.dV f o ho).row;refine ⟨I,cells,h1,h2,h3,h4.mono hle,λaA hb=>⟨(h5 aA hb).1,λoff u hu=>(h5 aA hb).2.1 off u ?_,λg1 g2 j hj=>hle.tk ((h5 aA hb).2.2 g1 g2 j hj) hj⟩⟩;have hu:φ' aA off=some u:=hu;rw [db f o aA ho hb] at hu;exact hu
theorem bN.cells {key:Nat->Nat} {φ:Ph}{v:Value}{m:MV}(h:bN key φ v m):dI key φ v.cells.toList m:=by
 have one:m.one=true->dI key φ [v] m->dI key φ v.cells.toList m:=by
  intro h1 h2;have:=h2.cells v (by simp);have hv:v.cells.toList=[v]:=by cases v<;>simp_all [abc,ac7]
  rw [hv];exact h2
 cases m<;>simp only [bN] at h<;>first|exact one h.1 h.2|skip
 ·obtain ⟨rfl,h⟩:=h;simpa [abc] using dI.h _ _ _ h
 ·obtain ⟨arr,rfl,h⟩:=h;exact .agg _ _ (by simpa [abc] using h)
theorem Nz {parts:List (Nat×Operand)}: ∀{e:Env} {st:St} {n:Nat} {K':List MV->St->Option R},bg c Z e st a w->Ps c st parts n K'=some r-> ∃e' bm ms,bg c Z e' bm a w/\Ext Z e e'/\aE e'.key e'.φ (parts.map λp=>a.eval p.2) ms/\K' ms bm=some r/\parts.map (λp=>(p.1,a.eval p.2))=((parts.map λp=>a.eval p.2).zipIdx n).map (λx=>(x.2,x.1)):=by
 induction parts with
 |nil=>intro e st n K' h hK;exact ⟨e,st,[],h,.refl _ _,rfl,hK,rfl⟩
 |cons p ps ih=>
  intro e st n K' h hK;obtain ⟨i,x⟩:=p;simp only [Ps] at hK;cases hi:By i n with
  |false=>simp [hi] at hK
  |true=>
   simp only [hi,cond_true] at hK;have mb:=AI hi;subst mb;obtain ⟨e1,aT,m,q1,q2,q3,q4,q5⟩:=gu h (h.eval x).1 hK;obtain ⟨e2,cK,ms,p1,p2,p4,p5,p6⟩:=ih q1 q5;refine ⟨e2,cK,m::ms,p1,q2.trans p2,⟨_,_,rfl,?_,p4⟩,p5,?_⟩
   ·have:=q4.mono p2.on.φ;rw [<-p2.on.key] at this;exact this
   ·simp only [aau,List.zipIdx_cons,p6]
theorem DJ {key:Nat->Nat} {φ:Ph}{size:Nat}{ms:List MV}: ∀{vs:List Value},aE key φ vs ms->fZ size ms=true->aB key φ size (vs.flatMap λv=>v.cells.toList) ms/\vs.length=ms.length/\ ∀v∈vs,v.cells.size=size:=by
 induction ms with
 |nil=>intro vs h _;cases h;exact ⟨rfl,rfl,by simp⟩
 |cons m ms ih=>
  intro vs h hw;obtain ⟨v,u,rfl,h1,h2⟩:=h;have hm:=vW hw m (by simp);have hw2:fZ size ms=true:=by unfold fZ at hw⊢;simp only [List.all_cons,aQ] at hw;exact hw.2
  obtain ⟨h3,h4,h5⟩:=ih h2 hw2;have hl:v.cells.toList.length=size:=by rw [h1.cells.width,hm]
  refine ⟨⟨v.cells.toList,_,rfl,hl,h1.cells,h3⟩,by simp [h4],?_⟩;intro x hx;rcases sh.1 hx with rfl|hx
  ·simpa using hl
  ·exact h5 x hx
end
end Dn
/-
  Slices that are written out, the operation. Conditions: none.
-/
namespace Dn
open Go
section
variable {P:Program}{c:Ctx}{Z:aO} {e e':Env}{st:St}{a:Act} {w w':World}{R:Type}{K:St->Option R}{r:R}{Q:Exit->Act->World->Prop}{o:Oper}
theorem Gl {t:TypeId}{I E:TI}{vs:List Value}{parts:Array (Nat×Value)}(hu:P.underlying t=some (.slice I.elem))(hE:c.ti I.elem=some E)(iT:E.bB=[])(cU:0<E.size)(hT:dt P c.ti)(fa:vs.length *E.size<=16777216)(hv: ∀v∈vs,v.cells.size=E.size)(hp:parts.toList=(vs.zipIdx 0).map λx=>(x.2,x.1)): (Instr.buildSlice t vs.length parts).run P w= .ok (.slice (some ⟨w.heap.size,0,none⟩) vs.length vs.length) (w.alloc (.cells (vs.flatMap λv=>v.cells.toList).toArray I.elem)):=by
 obtain ⟨i,z,hi,hs,Pc,hz,Ds⟩:=eF (hT _ E hE) iT;by_cases h0:vs.length=0
 ·have oK:=abe h0;subst oK;have Gf:parts= #[]:=by rw [<-aak,hp];rfl
  simp [Instr.buildSlice,run_underlying hu,Go.sizeOf,typeInfo,hi,Gf,Instr.fill,newRow,adH];congr 2;apply abw;intro k;simp
 ·have cg: ¬vs.length *i.size=0:=by rw [hs];exact Nat.mul_ne_zero h0 (by omega)
  refine run_buildSlice w t I.elem vs.length parts _ i z hu hi hz (by rw [hs];omega) cg ?_;rw [hp,hs];exact Go.Great.fill_whole cU vs _ hv (by simp)
theorem LZ {key:Nat->Nat} {φ:Ph}{size cap aA:Nat}{xs:List MV}{cells:List Value}(h:aB key φ size cells xs)(ve:xs.length<=cap)(hp: ∀off,off<cells.length->φ aA off=cells[off]?): dI key φ [.slice (some ⟨aA,0,none⟩) xs.length cap] (.list xs):=by
 have hlen:=h.length;have zE: ∀i (hi:i<xs.length),∃v1,v1.length=size/\dI key φ v1 xs[i]/\(cells.drop (i *size)).take size=v1:=by intro i hi;obtain ⟨p1,v1,p2,he,Ge,om,cM⟩:=h.at (IN hi);refine ⟨v1,om,cM,?_⟩;rw [he,acj,<-Ge,List.drop_left,<-om,ac9]
 refine .list (some ⟨aA,0,none⟩) cap xs aA 0 size (λi=>(cells.drop (i *size)).take size) ve (λ_=>rfl) ?_ ?_ ?_
 ·intro i hi;obtain ⟨v1,h1,_,h3⟩:=zE i hi;rw [h3,h1]
 ·intro i j hi hj;have rN:i *size+j<cells.length:=by
   rw [hlen];calc i *size+j<i *size+size:=by omega
    _=(i+1) *size:=by rw [acv]
    _<=xs.length *size:=aa6 _ hi
  rw [aaD,hp _ rN,aaO];simp only [hj,if_true,aca]
 ·intro i hi;obtain ⟨v1,_,h2,h3⟩:=zE i hi;rw [h3];exact h2
theorem DK {t:TypeId}{n:Nat}{parts:Array (Nat×Operand)}{I E:TI}(ho:o.op= .buildSlice t n parts)(hI:c.tv t=some I)(hL:I.pH=true)(hE:c.tv I.elem=some E)(hT:dt P c.ti)(h:bg c Z e st a w)(fa:acd (n *E.size) 16777216=true)(hK:Ps c st parts.toList 0 (λms st=>bif By ms.length n then aY (fZ E.size ms) (bif aP c.bs (o.dst.getD 0) then aG c st o.dst (.sc (.p (.list ms))) K else dW st (o.dst.getD 0) ⟨I.elem,false,ms⟩ λst=>aG c st o.dst (.sc (.own (o.dst.getD 0))) K) else none)=some r): o.wp P a w (λa' w'=>bX w w'/\Out c Z K r e.φ w a' w') Q:=by
 obtain ⟨fH,hc⟩:=aD hI;obtain ⟨fR,iT⟩:=aD hE;obtain ⟨hu,E2,ot,_,cU⟩:=TI.fJ (hT t I fH) hL;rw [fR] at ot;cases ot;obtain ⟨e1,aT,ms,qH,yB,bZ,hK,Ql⟩:=Nz h hK;cases hn:By ms.length n with
 |false=>simp [hn] at hK
 |true=>
  simp only [hn,cond_true] at hK;have hn:=AI hn;obtain ⟨hw,hK⟩:=cj hK;obtain ⟨dL,hlen,mU⟩:=DJ bZ hw;generalize oK:parts.toList.map (λp=>a.eval p.2)=vs at bZ Ql dL hlen mU;have fa:=aaW fa;have aV:=Gl (P:=P) (c:=c) (w:=w) (t:=t) (I:=I) (vs:=vs) (parts:=parts.map λ(i,x)=>(i,a.eval x)) hu fR iT cU hT (by rw [hlen,hn];exact fa) mU (by rw [<-Ql];simp);have Ww:(execOp a.eval o).run P w= .ok (.value (.slice (some ⟨w.heap.size,0,none⟩) vs.length vs.length)) (w.alloc (.cells (vs.flatMap λv=>v.cells.toList).toArray I.elem)):=by rw [hlen,hn] at aV⊢;simp [execOp,ho] at aV⊢;simp [aV]
  have hg:bX w (w.alloc (.cells (vs.flatMap λv=>v.cells.toList).toArray I.elem)):= .alloc w _ _;have yE: ∀off,e1.φ w.heap.size off=none:=by
   intro off;cases hp:e1.φ w.heap.size off with
   |none=>rfl
   |some u=>have:=aah w _ (qH.fB _ _ _ hp);simp at this
  have L0:(vs.flatMap λv=>v.cells.toList).length=ms.length *E.size:=dL.length;have ve:ms.length<=16777216:=aaP (Nat.le_mul_of_pos_right _ cU) (by rw [hn];exact fa);cases hb:aP c.bs (o.dst.getD 0) with
  |false=>
   simp only [hb,cond_false] at hK;have rK:=qH.Wr hK;have hK:=jk hK;have db:bw c Z.nc e1 (w.alloc (.cells (vs.flatMap λv=>v.cells.toList).toArray I.elem)) (.slice (some ⟨w.heap.size,0,none⟩) vs.length vs.length) ⟨I.elem,false,ms⟩:=by
    refine ⟨E,_,fR,iT,⟨L0,.inr ⟨w.heap.size,vs.length,_,by rw [hlen],adF _,dm w _,by rw [hlen];exact aae _,by rw [hlen];unfold Go.maxLen;omega,?_,?_⟩⟩,dL,?_⟩
    ·rw [List.size_toArray,L0,hlen]
    ·show List.take (ms.length *E.size) _=_;rw [List.take_of_length_le (by simp only [List.toList_toArray];omega)]
    ·intro aA et;simp [AS] at et;subst et;refine ⟨qH.bt _ (aae _),λoff u hu=>(by rw [yE] at hu;cases hu),λhc=>aaN hc⟩
   have gx:=qH.dW (f:=o.dst.getD 0) rK db hg.size (λb z7 _=>hg.ln b z7) (λb off u hu=>hg.cell (qH.fB b off u hu)) (λb et=>by simp [AS] at et;exact .inl (by omega));exact Kq (s:= .sc (.own (o.dst.getD 0))) hg Ww gx (yB.tr.trans (hg.trans qH.bt _)) (.of (kN rfl) trivial) hK
  |true=>
   simp only [hb,cond_true] at hK;generalize ZX:(vs.flatMap λv=>v.cells.toList)=flat at *;have hle:dJ e1.φ (λb off=>if b=w.heap.size/\off<flat.length then flat[off]? else e1.φ b off):=by
    intro b off u hu;by_cases AO:b=w.heap.size
    ·subst AO;rw [yE] at hu;cases hu
    ·simp only [AO,false_and,if_false];exact hu
   have du: ∀b off u,(λb off=>if b=w.heap.size/\off<flat.length then flat[off]? else e1.φ b off) b off=some u->(w.alloc (.cells flat.toArray I.elem)).cell? ⟨b,off,none⟩=some u:=by
    intro b off u hu;by_cases AO:b=w.heap.size/\off<flat.length
    ·simp only [AO,and_self,if_true] at hu;obtain ⟨rfl,_⟩:=AO;rw [cell_of (dm w _)];simpa using hu
    ·simp only [AO,if_false] at hu;exact hg.cell (qH.fB b off u hu)
   have gx:=(qH.grow hg).Wv hle du (by
     intro t2 DB ht off;have Ez:=qH.slot t2;rw [ht] at Ez;obtain ⟨o2,h1,_⟩:=Ez.2.obj;have:=aC h1;have cg: ¬e1.B t2=w.heap.size:=by omega
     simp [cg])
    (by
     intro f o2 b bJ lp off;obtain ⟨J,nS,_,_,h3,_⟩:=(qH.dV f o2 bJ).row;rcases h3.2 with ⟨h1,_⟩|⟨g,cap,bU,h1,_,h4,_⟩
     ·rw [h1] at lp;simp [AS] at lp
     ·rw [h1] at lp;simp [AS] at lp;subst lp;have:=aC h4;have cg: ¬g=w.heap.size:=by omega
      simp [cg])
   refine Kq (s:= .sc (.p (.list ms))) hg Ww gx ?_ (.of ?_ trivial) hK
   ·refine yB.tr.trans ⟨hle,λb hz z7=>hg.ln b z7,λb off hz=> ?_,hg.size,hg.rest⟩;have cg: ¬b=w.heap.size:=by intro KC;subst KC;exact hz (qH.bt _ (aae _))
    simp [cg]
   ·simp only [aa,aw];rw [hlen];exact ⟨rfl,LZ (dL.mono hle) (aae _) (λoff rN=>by simp [rN])⟩
end
end Dn
/-
  Variables that no one changes any more. Conditions: none.
-/
namespace Dn
open Go
section
variable {P:Program}{c:Ctx}{Z:aO} {e e':Env}{st:St}{a:Act} {w w':World}{R:Type}{K:St->Option R}{r:R}{Q:Exit->Act->World->Prop}{o:Oper}
theorem bg.NA {root:Nat}{cs dj:List ak}{arr:Array Value}{T:TypeId}(h:bg c Z e st a w)(hf:ah st.fr root= .box cs)(bH:w.heap[e.B root]? =some (.cells arr T (0,0)))(hl:ai e arr.toList dj)(hp:dR dj=true)(Pd:root∉Z.bI)(q9:ru root=false): ∃φ',dJ e.φ φ'/\(∀b off,¬Z b->φ' b off=e.φ b off)/\(∀j,j<arr.toList.length->φ' (e.B root) j=arr.toList[j]?)/\ bg c Z {e with φ:=φ'} {st with fr:=bu st.fr root (.rq dj)} a w:=by
 have jz:=h.slot root;rw [hf] at jz;have jn:=jz.2.free;have nj:cR cs=false:=by obtain ⟨o,h1,h2⟩:=jz.2.obj;rw [bH] at h1;cases h1;exact h2.2.rJ
 simp only [bk] at jz;refine ⟨λb off=>if b=e.B root/\off<arr.toList.length then arr.toList[off]? else e.φ b off,?_,?_,?_,?_⟩
 ·intro b off v hv;by_cases hb:b=e.B root
  ·subst hb;rw [jn] at hv;cases hv
  ·simp only [hb,false_and,if_false];exact hv
 ·intro b off hz;have hb: ¬b=e.B root:=by intro hb;subst hb;exact hz (Hu jz.2.bt Pd)
  simp [hb]
 ·intro j hj;have hj':j<arr.size:=by simpa using hj
  simp [hj']
 ·have hle:dJ e.φ (λb off=>if b=e.B root/\off<arr.toList.length then arr.toList[off]? else e.φ b off):=by
   intro b off v hv;by_cases hb:b=e.B root
   ·subst hb;rw [jn] at hv;cases hv
   ·simp only [hb,false_and,if_false];exact hv
  have lu:eR (λ_=>True) (λ_=>True) e {e with φ:=λb off=>if b=e.B root/\off<arr.toList.length then arr.toList[off]? else e.φ b off}:=⟨rfl,hle,λ_ _=>rfl,λf o ho _=>⟨o,ho,rfl,rfl⟩⟩
  have Qm: ∀q,bP (ah st.fr q)=true->bP (ah (bu st.fr root (.rq dj)) q)=true:=by
   intro q hq;rw [a8];by_cases Wx:q=root
   ·simp [Wx,bP]
   ·simp only [Wx,if_false];exact hq
  refine ⟨h.defers,h.size,h.m,h.key,cD h.nodup,?_,?_,?_,?_,?_,h.ff,?_,h.bt⟩
  ·intro t;show bk Z _ w t _ (ah (bu st.fr root (.rq dj)) t);rw [a8];by_cases ht:t=root
   ·subst ht;simp only [if_true,bk,aa];refine ⟨e.B t,0,arr.toList,by have:=jz.1.1 q9;rwa [lY nj] at this,hl.on lu (λl _ f _=>trivial),hp,?_⟩;intro j hj;have hj':j<arr.size:=by simpa using hj
    rw [aaD];simp [hj']
   ·simp only [ht,if_false];have hs:=h.slot t;have xv:=h.bb t root;generalize ah st.fr t=s at hs xv;cases s<;>simp only [bk] at hs⊢ <;>try exact hs.on lu (cw _)
    rename_i DB;refine ⟨hs.1,hs.2.bt,?_,?_⟩
    ·obtain ⟨o2,h1,h2⟩:=hs.2.obj;exact ⟨o2,h1,h2.on lu (λl _ f _=>trivial)⟩
    ·intro off;have cg: ¬e.B t=e.B root:=xv DB cs rfl hf ht;show (if e.B t=e.B root/\off<arr.toList.length then arr.toList[off]? else e.φ (e.B t) off)=none;simp only [cg,false_and,if_false];exact hs.2.free off
  ·intro t;show bK (bu st.fr root (.rq dj)) (ah (bu st.fr root (.rq dj)) t);rw [a8];by_cases ht:t=root
   ·simp [ht,bK]
   ·simp only [ht,if_false];have jV:=h.root t;generalize ah st.fr t=s at jV;cases s with
    |ptr q o=>exact Qm q jV
    |hp q o i=>exact Qm q jV
    |rr q=>exact Qm q jV
    |_=>trivial
  ·intro f o ho;obtain ⟨I,cells,h1,h2,h3,h4,h5⟩:=(h.dV f o ho).row;refine ⟨I,cells,h1,h2,h3,h4.mono hle,λaA hb=>⟨(h5 aA hb).1,λoff u hu=>(h5 aA hb).2.1 off u ?_,λg1 g2 j hj=>hle.tk ((h5 aA hb).2.2 g1 g2 j hj) hj⟩⟩;have cg: ¬aA=e.B root:=by intro KC;exact h.bf root cs f o hf ho (by rw [hb,KC])
   have hu:(if aA=e.B root/\off<arr.toList.length then arr.toList[off]? else e.φ aA off)=some u:=hu;simpa [cg] using hu
  ·intro t t' c1 c2 h1 h2 cg;have h1:ah (bu st.fr root (.rq dj)) t= .box c1:=h1;have h2:ah (bu st.fr root (.rq dj)) t'= .box c2:=h2;rw [a8] at h1 h2;by_cases ht:t=root
   ·simp [ht] at h1
   ·by_cases vd:t'=root
    ·simp [vd] at h2
    ·simp only [ht,vd,if_false] at h1 h2;exact h.bb t t' c1 c2 h1 h2 cg
  ·intro t c1 f o h1 h2;have h1:ah (bu st.fr root (.rq dj)) t= .box c1:=h1;rw [a8] at h1;by_cases ht:t=root
   ·simp [ht] at h1
   ·simp only [ht,if_false] at h1;exact h.bf t c1 f o h1 h2
  ·intro b off v hv;have hv:(if b=e.B root/\off<arr.toList.length then arr.toList[off]? else e.φ b off)=some v:=hv;by_cases hb:b=e.B root/\off<arr.toList.length
   ·simp only [hb,and_self,if_true] at hv;rw [hb.1,cell_of bH];simpa using hv
   ·simp only [hb,if_false] at hv;exact h.fB b off v hv
end
end Dn
/-
  Functions with captured variables. Conditions: none.
-/
namespace Dn
open Go
section
variable {P:Program}{c:Ctx}{Z:aO} {e e':Env}{st:St}{a:Act} {w w':World}{R:Type}{K:St->Option R}{r:R}{Q:Exit->Act->World->Prop}{o:Oper}
theorem mc {os:List Operand}: ∀{e:Env} {st:St} {K':List MV->St->Option R},bg c Z e st a w->uD c st os K'=some r-> ∃e' bm ms,bg c Z e' bm a w/\Ext Z e e'/\dq e'.key e'.φ (os.map a.eval) ms/\K' ms bm=some r/\(∀m∈ms,m.one=true):=by
 induction os with
 |nil=>intro e st K' h hK;exact ⟨e,st,[],h,.refl _ _,.nil,hK,by simp⟩
 |cons x xs ih=>
  intro e st K' h hK;simp only [uD] at hK;obtain ⟨hx,_⟩:=h.eval x;generalize aq c st x=s at hx hK;split at hK
  ·rename_i root;simp only [aa] at hx;split at hK
   ·rename_i cs mU;cases hup:ox cs||ru root with
    |true=>simp [hup] at hK
    |false=>
     simp only [hup,cond_false] at hK;obtain ⟨hu,aeQ⟩:=OF.1 hup;have iw:=h.slot root;rw [mU] at iw;have nj:cR cs=false:=by
      cases hm:cR cs with
      |false=>rfl
      |true=>obtain ⟨s,ms,rfl⟩:=Ga hm;simp [ox,HI] at hu
     obtain ⟨arr,T,bH,jX⟩:=iw.2.cells nj;obtain ⟨e1,aT,ms,qH,yB,xI,xw,hK,_,q9⟩:=iM h jX hK;cases JS:lh cs ms with
     |none=>simp [JS] at hK
     |some dj=>
      simp only [JS] at hK;obtain ⟨zx,Gf⟩:=q9 dj JS;have hB:e1.B root=e.B root:=yB.on.B root trivial;unfold wr at hK;cases hn:aP aT.bI root with
      |true=>simp [hn] at hK
      |false=>
       obtain ⟨φ',g1,g2,g3,g4⟩:=qH.NA (root:=root) (cs:=cs) (by rw [xI];exact mU) (by rw [hB];exact bH) zx Gf (by rw [<-qH.defers.2.1,<-aN,hn];simp) aeQ;simp only [hn,cond_false,force_eq,gV] at hK;have LU:Ext Z e1 {e1 with φ:=φ'}:=⟨⟨rfl,g1,λ_ _=>rfl,λf o ho _=>⟨o,ho,rfl,rfl⟩⟩,g2⟩
       obtain ⟨e3,jm,ns,XZ,Qn,hr3,hK,dS⟩:=ih g4 hK;refine ⟨e3,jm,.rp ms::ns,XZ,(yB.trans LU).trans Qn,?_,hK,by intro m hm;rcases sh.1 hm with rfl|hm<;>first|rfl|exact dS m hm⟩;have cM:dI e1.key φ' [a.eval x] (.rp ms):=by rw [hx,<-hB];refine .rp (e1.B root) 0 arr.toList ms (xw.mono g1) ?_;intro j hj;rw [aaD];exact g3 j hj
       have cM:=cM.mono Qn.on.φ;have hk3:e3.key=e1.key:=Qn.on.key;rw [<-hk3] at cM;exact .cons [a.eval x] _ _ _ cM hr3
   ·simp at hK
  ·rename_i cs;simp only [aa] at hx;obtain ⟨aA,q,vs,hv,jX,hp,xH⟩:=hx;obtain ⟨e1,aT,ms,qH,yB,xI,xw,q8,h6,_⟩:=iM h jX hK;clear hK;obtain ⟨rfl,rfl⟩:=h6 hp;obtain ⟨e3,jm,ns,XZ,Qn,hr3,AP,dS⟩:=ih qH q8;refine ⟨e3,jm,.rp ms::ns,XZ,yB.trans Qn,?_,AP,by intro m hm;rcases sh.1 hm with rfl|hm<;>first|rfl|exact dS m hm⟩;have cM:dI e1.key e1.φ [a.eval x] (.rp ms):=by rw [hv];exact .rp aA (q+0) vs ms xw (by simpa using xH)
   have cM:=cM.mono Qn.on.φ;rw [<-Qn.on.key] at cM;exact .cons [a.eval x] _ _ _ cM hr3
  ·simp at hK
theorem H3 {f:Nat}{aS:Array Operand}(ho:o.op= .makeFunc (.func f) #[] aS)(h:bg c Z e st a w)(hK:uD c st aS.toList (λms st=>aG c st o.dst (.sc (.p (.func (c.key f) ms))) K)=some r):Rd P c Z K r e a w o (λ_=>True):=by
 obtain ⟨e1,aT,ms,qH,yB,xw,hK,dS⟩:=mc h hK;refine Kr (v:= .func (.func f) #[] (aS.map a.eval)) (s:= .sc (.p (.func (c.key f) ms))) (λw _=> ?_) qH yB.tr (.of ?_ trivial) hK
 ·simp [execOp,ho,Instr.makeFunc]
 ·simp only [aa,aw];exact ⟨rfl,.func f _ _ ms (by rw [qH.key]) (by simpa using xw) dS⟩
end
end Dn
/-
  Contracts of functions; calls. Conditions: none.
-/
namespace Dn
open Go
def iA (φ:Ph)(w:World):Prop:= ∀b o v,φ b o=some v->w.cell? ⟨b,o,none⟩=some v
def gf (key:Nat->Nat) (φ:Ph):Env:=⟨key,φ,λ_=>undef,λ_=>0,[]⟩
def cn (P:Program)(f:FuncId)(args:Array Value)(w:World)(R:Value->World->Prop):Prop:=match (callFunc f args).run P w with
 | .ok (.enter g as) w'=>Calls P g as w' λx tp=> ∃v,x= .returned v/\R v tp
 | .ok (.value v) w'=>R v w'
 |_=>False
def EG (ks:List LK)(ls:List MV):Option (List ak×List (Nat×jb)):=bR ⟨[],[],[],[]⟩ ks ls λcs rest st=>gN rest (some (cs,st.az))
def cN (c:Ctx)(Z:Nat->Prop) (φ:Ph)(w:World)(aA:Nat)(ks:List LK)(ls:List MV):Prop:=∃cs m,∃E:Nat->Value,∃arr T,EG ks ls=some (cs,m)/\w.heap[aA]? =some (.cells arr T (0,0))/\Z aA/\(∀o,φ aA o=none)/\ai ⟨c.key,φ,E,λ_=>aA,m⟩ arr.toList cs/\ (∀f o,ar m f=some o->bw c (aO.plain Z) ⟨c.key,φ,E,λ_=>aA,m⟩ w (E f) o/\(E f).ownBlock≠some aA)/\ (∀f f' o o' k,ar m f=some o->ar m f'=some o'->(E f).ownBlock=some k->(E f').ownBlock=some k->f=f')
def Wy (c:Ctx)(Z:Nat->Prop) (φ:Ph)(w:World)(k:Nat)(vs:List Value)(ms:List MV):Prop:=∃pos ks ko off ls aA,c.sig k=some (pos,ks,ko)/\vs[pos]? =some (.pointer (some ⟨aA,off,none⟩))/\ms[pos]? =some (.cell (.func off ls))/\aE c.key φ vs (ms.set pos (.rp []))/\cN c Z φ w aA ks ls
def bO (c:Ctx)(Z:Nat->Prop) (φ:Ph)(w:World)(k:Nat)(vs:List Value)(ms:List MV):Prop:=if c.bQ k then (∃v0 v1 v2 xs m1 ys,vs=[v0,v1,v2]/\ms=[.fresh xs,m1,.fresh ys]/\bw c (aO.plain Z) (gf c.key φ) w v0 ⟨c.ga k,false,xs⟩/\bN c.key φ v1 m1/\ bw c (aO.plain Z) (gf c.key φ) w v2 ⟨c.ga k,false,ys⟩/\ ∀b,v0.ownBlock=some b->v2.ownBlock≠some b)\/ (∃v0 v1 v2 xs m1 m2,vs=[v0,v1,v2]/\ms=[.fresh xs,m1,m2]/\m2.one=true/\bw c (aO.plain Z) (gf c.key φ) w v0 ⟨c.ga k,false,xs⟩/\bN c.key φ v1 m1/\bN c.key φ v2 m2)\/ Wy c Z φ w k vs ms
 else aE c.key φ vs ms
def AQ (c:Ctx)(Z:Nat->Prop) (φ:Ph)(w:World)(k:Nat)(v:Value):List MV->Prop
 | .fresh xs::ms=> ∃v0 us,v= .tuple (v0::us).toArray/\bw c (aO.plain Z) (gf c.key φ) w v0 ⟨c.ga k,false,xs⟩/\aE c.key φ us ms
 |ms=> ∃arr,v= .tuple arr/\aE c.key φ arr.toList ms
theorem AQ.args {c:Ctx}{Z:Nat->Prop} {φ:Ph}{w:World}{k:Nat}{arr:Array Value}{ms:List MV}(h:aE c.key φ arr.toList ms):AQ c Z φ w k (.tuple arr) ms:=by
 cases ms with
 |nil=>exact ⟨arr,rfl,h⟩
 |cons m r=>
  cases m<;>first|exact ⟨arr,rfl,h⟩|skip
  obtain ⟨_,_,_,h1,_⟩:=h;have h1:(MV.fresh _).one=true/\_:=h1;simp [MV.one] at h1
def dy (c:Ctx)(Z:Nat->Prop) (φ:Ph)(w:World)(k:Nat)(v:Value):MV->Prop
 | .fresh xs=>bw c (aO.plain Z) (gf c.key φ) w v ⟨c.ga k,false,xs⟩
 | .cG ms=>AQ c Z φ w k v ms
 |m=>bN c.key φ v m
def mf (c:Ctx)(Z:Nat->Prop) (φ:Ph)(w:World)(k:Nat)(vs:List Value)(v:Value):MV->Prop
 | .gk r outs=>dy c Z φ w k v r/\ ∃pos ks ko aA off,c.sig k=some (pos,ks,ko)/\vs[pos]? =some (.pointer (some ⟨aA,off,none⟩))/\cN c Z φ w aA ko outs
 |r=>dy c Z φ w k v r
def cq (P:Program)(c:Ctx)(f:Nat)(ms:List MV)(r:MV):Prop:=∀(φ:Ph) (w:World) (Z:Nat->Prop) (vs:List Value),(∀b,w.heap.size<=b->Z b)->bO c Z φ w (c.key f) vs ms->iA φ w-> cn P f vs.toArray w λv w'=> ∃φ',Trans Z φ w φ' w'/\iA φ' w'/\mf c Z φ' w' (c.key f) vs v r
def Sound (P:Program)(c:Ctx):Prop:= ∀f ms r,c.g (c.key f) ms=some r->cq P c f ms r
section
variable {P:Program}{c:Ctx}{Z:aO} {Z':Nat->Prop} {e e':Env}{st:St}{a:Act} {w w':World}{R:Type}{K:St->Option R}{r:R}{Q:Exit->Act->World->Prop}{o:Oper}
theorem mf.plain {c:Ctx}{Z:Nat->Prop} {φ:Ph}{w:World}{k:Nat}{vs:List Value}{v:Value}{r:MV}(h:dy c Z φ w k v r):mf c Z φ w k vs v r:=by cases r<;>first|exact h|exact absurd h.1 (by simp [MV.one])
def isW:MV->Bool
 | .gk _ _=>true
 |_=>false
theorem mf.of {c:Ctx}{Z:Nat->Prop} {φ:Ph}{w:World}{k:Nat}{vs:List Value}{v:Value}{r:MV}(h:mf c Z φ w k vs v r)(hr:isW r=false):dy c Z φ w k v r:=by cases r<;>first|exact h|cases hr
theorem bg.called {φ':Ph}(h:bg c Z e st a w)(hz: ∀b,Z' b->Z.In b)(nR: ∀t cs,ah st.fr t= .box cs-> ¬Z' (e.B t))(db: ∀f o k,ar st.az f=some o->(e.E f).ownBlock=some k-> ¬Z' k)(ht:Trans Z' e.φ w φ' w')(hi:iA φ' w'):bg c Z {e with φ:=φ'} st a w':=by
 have lu:eR (λ_=>True) (λ_=>True) e {e with φ:=φ'}:=⟨rfl,ht.ph,λ_ _=>rfl,λf o ho _=>⟨o,ho,rfl,rfl⟩⟩
 refine ⟨h.defers,h.size,h.m,h.key,h.nodup,?_,h.root,?_,h.bb,h.bf,h.ff,hi,λb hb=>h.bt b (aaP ht.size hb)⟩
 ·intro t;have hs:=h.slot t;have hb:=nR t;generalize ah st.fr t=s at hs hb;cases s<;>simp only [bk] at hs⊢ <;>try exact hs.on lu (cw _)
  rename_i cs;refine ⟨hs.1,hs.2.bt,?_,?_⟩
  ·obtain ⟨o2,h1,h2⟩:=hs.2.obj;exact ⟨o2,by rw [ht.heap _ (hb cs rfl) (aC h1)];exact h1,h2.on lu (λl _ f _=>trivial)⟩
  ·intro off;show φ' (e.B t) off=none;rw [ht.free _ off (hb cs rfl)];exact hs.2.free off
 ·intro f o ho;obtain ⟨I,cells,h1,h2,h3,h4,h5⟩:=(h.dV f o ho).row;refine ⟨I,cells,h1,h2,?_,h4.mono ht.ph,?_⟩
  ·show w'.ownsRow 0 o.ty I.size (e.E f) o.xs.length cells;refine ⟨h3.1,?_⟩;rcases h3.2 with h6|⟨g,cap,bU,g1,g2,g3,g4⟩
   ·exact .inl h6
   ·refine .inr ⟨g,cap,bU,g1,g2,?_,g4⟩;rw [ht.heap g (db f o g ho (by rw [g1];rfl)) (aC g3)];exact g3
  ·intro aA hb;refine ⟨(h5 aA hb).1,λoff u hu=>(h5 aA hb).2.1 off u ?_,λg1 g2 j hj=>ht.ph.tk ((h5 aA hb).2.2 g1 g2 j hj) hj⟩;have hu:φ' aA off=some u:=hu;rw [ht.free _ off (db f o aA ho hb)] at hu;exact hu
theorem bg.Gm {f:Nat}{fo:jb} {v':Value}(h:bg c Z e st a w)(rK:f∉Z.bF)(db:bw c Z.nc e w v' fo)(hb: ∀b,v'.ownBlock=some b->(∀t cs,ah st.fr t= .box cs->e.B t≠b)/\(∀g o,ar st.az g=some o->(e.E g).ownBlock≠some b)): bg c Z (e.nU f v' fo) (st.nU f fo) a w:=by
 have lu:eR (· ≠f) (λ_=>True) e (e.nU f v' fo):=by refine ⟨rfl,.refl _,λ_ _=>rfl,λf2 o2 bJ cg=> ?_⟩;have bJ:ar (bh e.m f fo) f2=some o2:=bJ;rw [aI] at bJ;simp only [cg,if_false] at bJ;exact ⟨o2,bJ,by simp [Env.nU,cg],rfl⟩
 refine ⟨h.defers,h.size,by show bh e.m f _=bh st.az f _;rw [h.m],h.key,?_,?_,?_,?_,?_,?_,?_,h.fB,h.bt⟩
 ·show (ax (gd f st.fr)).Nodup;have:ax (gd f st.fr)=ax st.fr:=by simp [ax,gd]
  rw [this];exact h.nodup
 ·intro t;show bk Z _ _ t _ (ah (gd f st.fr) t);rw [dG];have hs:=h.slot t;generalize ah st.fr t=s at hs;by_cases xK: ∃cs,s= .box cs
  ·obtain ⟨cs,rfl⟩:=xK;simp only [bk,tl] at hs⊢;refine ⟨hs.1.gn (Kp f _),hs.2.bt,?_,hs.2.free⟩;obtain ⟨o2,h1,h2⟩:=hs.2.obj;refine ⟨o2,h1,?_⟩;refine (h2.map (λ_ _=>aw.kill f) (λ_ _=>rfl)).on lu ?_;intro l hl;obtain ⟨x,_,rfl⟩:=aaU.1 hl;exact xG f x
  ·have oq:aa e (a.tmps.getD t undef) s:=by cases s<;>simp only [bk] at hs<;>first|exact hs|exact absurd ⟨_,rfl⟩ xK
   have h2:=(oq.kill f).on lu (PT f _ s (cw s));generalize Nt:tl f s=s2 at h2;cases s2<;>first|exact h2|(exfalso;simp [aa] at h2)
 ·intro t;show bK (gd f st.fr) (ah (gd f st.fr) t);rw [dG];have jV:=h.root t;generalize ah st.fr t=s at jV;have hk: ∀q,bP (ah (gd f st.fr) q)=bP (ah st.fr q):=λq=>by rw [dG,xL]
  cases s with
  |ptr q o=>show bP (ah (gd f st.fr) q)=true;rw [hk];exact jV
  |hp q o i=>show bP (ah (gd f st.fr) q)=true;rw [hk];exact jV
  |rr q=>show bP (ah (gd f st.fr) q)=true;rw [hk];exact jV
  |ep g' _ _ _ _=>simp only [tl];cases By g' f<;>trivial
  |_=>trivial
 ·intro f2 o2 bJ;have bJ:ar (bh st.az f fo) f2=some o2:=bJ;rw [aI] at bJ;show bw c (Z.fz f2) _ w (if f2=f then v' else e.E f2) o2;by_cases cS:f2=f
  ·rw [if_pos cS];rw [if_pos cS] at bJ;cases bJ;rw [cS];exact (db.to rK).env rfl rfl
  ·rw [if_neg cS];simp only [cS,if_false] at bJ;exact (h.dV f2 o2 bJ).env rfl rfl
 ·intro t t' c1 c2 h1 h2 cg;have h1:ah (gd f st.fr) t= .box c1:=h1;have h2:ah (gd f st.fr) t'= .box c2:=h2;rw [dG] at h1 h2;obtain ⟨d1,g1,_⟩:=nk h1;obtain ⟨d2,g2,_⟩:=nk h2;exact h.bb t t' d1 d2 g1 g2 cg
 ·intro t c1 f2 o2 h1 h2;have h1:ah (gd f st.fr) t= .box c1:=h1;have h2:ar (bh st.az f fo) f2=some o2:=h2;rw [dG] at h1;rw [aI] at h2;obtain ⟨d1,g1,_⟩:=nk h1;show (if f2=f then v' else e.E f2).ownBlock≠some (e.B t);by_cases cS:f2=f
  ·rw [if_pos cS];intro hh;exact (hb _ hh).1 t d1 g1 rfl
  ·rw [if_neg cS];simp only [cS,if_false] at h2;exact h.bf t d1 f2 o2 g1 h2
 ·intro f1 f2 o1 o2 k h1 h2 h3 h4;have h1:ar (bh st.az f fo) f1=some o1:=h1;have h2:ar (bh st.az f fo) f2=some o2:=h2;have h3:(if f1=f then v' else e.E f1).ownBlock=some k:=h3;have h4:(if f2=f then v' else e.E f2).ownBlock=some k:=h4;rw [aI] at h1 h2;by_cases EF:f1=f
  ·by_cases uI:f2=f
   ·rw [EF,uI]
   ·rw [if_pos EF] at h3;rw [if_neg uI] at h4;simp only [uI,if_false] at h2;exact absurd h4 ((hb k h3).2 f2 o2 h2)
  ·rw [if_neg EF] at h3;simp only [EF,if_false] at h1;by_cases uI:f2=f
   ·rw [if_pos uI] at h4;exact absurd h3 ((hb k h4).2 f1 o1 h1)
   ·rw [if_neg uI] at h4;simp only [uI,if_false] at h2;exact h.ff f1 f2 o1 o2 k h1 h2 h3 h4
theorem pT {I:TI}{x:MV}{v:Value} {K':Slot->Option R}(hv:bN e.key e.φ v x)(hK:nb I x K'=some r): ∃s,aa e v s/\uF s=true/\K' s=some r:=by
 unfold nb at hK;cases cu:I.st with
 |true=>
  simp only [cu,cond_true] at hK;unfold gA at hK;split at hK
  ·rename_i ms;obtain ⟨arr,rfl,hr⟩:=hv;obtain ⟨ls,Dr,lv⟩:=lC (e:=e) (vs:=arr.toList) hK;exact ⟨.ag ls,⟨arr,rfl,Dr.rep hr⟩,Dr.O9,lv⟩
  ·simp at hK
 |false=>
  simp only [cu,cond_false] at hK;split at hK
  ·rename_i k hl;obtain ⟨l,om,lv⟩:=gw (e:=e) (vs:=[v]) hK;refine ⟨.sc l,?_,om.O9,lv⟩;have hp:=om.O9;have hm:=om.mv;cases l<;>simp [lV] at hp<;>simp [aW] at hm
   ·subst hm;have h1:=om.one _ rfl;rename_i m;have:m.one=true/\dI e.key e.φ [v] m:=by cases m<;>simp [MV.one] at h1<;>exact ⟨rfl,hv.2⟩
    exact this
   ·subst hm;exact hv
  ·simp at hK
theorem H4 {ts:List Nat}: ∀{vs:List Value} {ms:List MV} {K':List Slot->Option R},aE e.key e.φ vs ms->rz c ts ms K'=some r-> ∃ss,fq e vs ss/\K' ss=some r:=by
 induction ts with
 |nil=>
  intro vs ms K' h hK;cases ms with
  |nil=>cases h;exact ⟨[],rfl,hK⟩
  |cons m ms=>simp [rz,gN] at hK
 |cons t ts ih=>
  intro vs ms K' h hK;simp only [rz] at hK;cases hI:c.tv t with
  |none=>simp [hI] at hK
  |some I=>
   simp only [hI] at hK;cases ms with
   |nil=>simp [gC] at hK
   |cons m ms=>simp only [gC] at hK;obtain ⟨v,u,rfl,h1,h2⟩:=h;obtain ⟨s,g1,g2,hK⟩:=pT h1 hK;obtain ⟨ss,g3,hK⟩:=ih h2 hK;exact ⟨s::ss,⟨v,u,rfl,g1,g2,g3⟩,hK⟩
theorem KD {fr:Fr}{s:Slot}(h:uF s=true):bK fr s:=by cases s<;>simp [uF] at h<;>trivial
theorem yF {I:TI}{xs:List MV} {K':Slot->Option R}:nb I (.fresh xs) K'=none:=by
 unfold nb gA;cases I.st<;>simp;split<;>(try rfl)
 unfold eA;rename_i k _;cases k<;>simp [gB,gI,gS,gL,gH,gR]
theorem Gn {ts:List Nat}{xs:List MV}{ms:List MV} {K':List Slot->Option R}:rz c ts (.fresh xs::ms) K'=none:=by
 cases ts with
 |nil=>simp [rz,gN]
 |cons t ts=>simp only [rz,gC,yF];cases c.tv t<;>rfl
theorem H5 {ts:List Nat}: ∀{vs:List Value} {ms:List MV} {K':List ak->Option R},aE e.key e.φ vs ms->Au c ts ms K'=some r-> ∃ls,ai e vs ls/\dR ls=true/\K' ls=some r:=by
 induction ts with
 |nil=>
  intro vs ms K' h hK;cases ms with
  |nil=>cases h;exact ⟨[],rfl,rfl,hK⟩
  |cons m ms=>simp [Au,gN] at hK
 |cons t ts ih=>
  intro vs ms K' h hK;simp only [Au] at hK;cases hI:c.tv t with
  |none=>simp [hI] at hK
  |some I=>
   simp only [hI] at hK;cases ms with
   |nil=>simp [gC] at hK
   |cons m ms=>
    simp only [gC] at hK;obtain ⟨v,u,rfl,h1,h2⟩:=h;obtain ⟨s,g1,g2,hK⟩:=pT h1 hK;split at hK
    ·rename_i x;obtain ⟨ls,g3,g4,hK⟩:=ih h2 hK;simp only [aa] at g1;exact ⟨.p x::ls,⟨[v],u,rfl,g1,g3⟩,by simp only [dR,lV,abG];exact g4,hK⟩
    ·cases hK
theorem pU {I:TI}{x:MV}{v:Value}{k:Nat} {K':Slot->Option R}(hk:e.key=c.key)(hv:dy c Z' e.φ w k v x)(hK:lr c I x K'=some r): ∃s,aa e v s/\bK st.fr s/\K' s=some r:=by
 unfold lr at hK;split at hK
 ·rename_i hc;have Hv:bN e.key e.φ v x:=by
   rw [hk];cases x<;>first|exact hv|skip
   ·exfalso;unfold nb gA at hK;cases cu:I.st<;>simp [cu] at hK;split at hK<;>(try (simp at hK;done));unfold eA at hK;rename_i k _;cases k<;>simp [gB,gI,gS,gL,gH,gR] at hK
   ·exfalso;unfold nb gA at hK;cases cu:I.st<;>simp [cu] at hK;split at hK<;>(try (simp at hK;done));unfold eA at hK;rename_i k _;cases k<;>simp [gB,gI,gS,gL,gH,gR] at hK
  obtain ⟨s,h1,h2,hK⟩:=pT Hv hK;exact ⟨s,h1,KD h2,hK⟩
 ·unfold gT at hK;split at hK
  ·rename_i vs;have hv:AQ c Z' e.φ w k v vs:=hv;have hv: ∃arr,v= .tuple arr/\aE c.key e.φ arr.toList vs:=by
    cases vs with
    |nil=>exact hv
    |cons m ms=>cases m<;>first|exact hv|(simp only [Gn] at hK;cases hK)
   obtain ⟨arr,rfl,h1⟩:=hv;obtain ⟨ss,h2,hK⟩:=H4 (by rw [hk];exact h1) hK;exact ⟨.cG ss,⟨arr,rfl,h2⟩,trivial,hK⟩
  ·simp at hK
end
end Dn
/-
  Calls as operations. Conditions: none.
-/
namespace Dn
open Go
section
variable {P:Program}{c:Ctx}{Z:aO} {Z':Nat->Prop} {e e':Env}{st:St}{a:Act} {w w':World}{R:Type}{K:St->Option R}{r:R}{Q:Exit->Act->World->Prop}{o:Oper}
theorem pV (h:bg c Z e st a w){t:Nat}{cs:List ak}(ht:ah st.fr t= .box cs):e.B t<w.heap.size:=by have hs:=h.slot t;rw [ht] at hs;obtain ⟨o2,h1,_⟩:=hs.2.obj;exact aC h1
theorem AR {base:Nat}{ty:TypeId}{size n:Nat}{v:Value}{xs:List Value}(h:w.ownsRow base ty size v n xs){b:Nat}(hb:v.ownBlock=some b):b<w.heap.size:=by
 rcases h.2 with ⟨h1,_⟩|⟨g,cap,bU,h1,_,h2,_⟩
 ·rw [h1] at hb;simp [AS] at hb
 ·rw [h1] at hb;simp only [AS,AT] at hb;subst hb;exact aC h2
theorem pW (h:bg c Z e st a w){f:Nat}{o:jb}(hf:ar st.az f=some o){b:Nat}(hb:(e.E f).ownBlock=some b):b<w.heap.size:=by obtain ⟨I,cells,_,_,h3,_⟩:=(h.dV f o hf).row;exact AR h3 hb
structure Handed (c:Ctx) (Z:aO) (Z':Nat->Prop) (e:Env) (st:St) (a:Act) (w:World) (k:Nat) (vs:List Value) (ms:List MV):Prop where
 mg:bg c Z e st a w
 new: ∀b,w.heap.size<=b->Z' b
 sub: ∀b,Z' b->Z.In b
 box: ∀t cs,ah st.fr t= .box cs-> ¬Z' (e.B t)
 dV: ∀f o b,ar st.az f=some o->(e.E f).ownBlock=some b-> ¬Z' b
 args:bO c Z' e.φ w k vs ms
 grow:c.bQ k=false-> ∀b,Z' b->w.heap.size<=b
structure aeS (c:Ctx) (Z:aO) (e e':Env) (st bm:St) (a:Act) (w:World) (k:Nat) (v:Value) (xs:List MV):Prop where
 mg:bg c Z e' bm a w
 φ:e'.φ=e.φ
 row:bw c (aO.plain λb=>v.ownBlock=some b) (gf c.key e.φ) w v ⟨c.ga k,false,xs⟩
 In: ∀b,v.ownBlock=some b->Z.In b
 box: ∀t cs,ah bm.fr t= .box cs->v.ownBlock≠some (e'.B t)
 dV: ∀f o b,ar bm.az f=some o->(e'.E f).ownBlock=some b->v.ownBlock≠some b
 keep: ∀(u:Value) (s:Slot) (g:Nat),s= .sc (.own g)->aa e u s->(∃o,ar bm.az g=some o/\o.cB=false)->aa e' u s
 boxes: ∀t cs,ah bm.fr t= .box cs-> ∃zF,ah st.fr t= .box zF/\e'.B t=e.B t
 az: ∀f o b,ar bm.az f=some o->(e'.E f).ownBlock=some b-> ∃o0,ar st.az f=some o0/\(e.E f).ownBlock=some b
theorem mh {k:Nat}{s:Slot}{v:Value} {K':MV->St->Option R}(h:bg c Z e st a w)(hs:aa e v s)(hK:vP c k st s K'=some r): ∃e' bm xs,aeS c Z e e' st bm a w k v xs/\K' (.fresh xs) bm=some r:=by
 unfold vP at hK;split at hK
 ·rename_i f;cases hf:ar st.az f with
  |none=>simp [hf] at hK
  |some o=>
   simp only [hf] at hK;cases hz:o.cB||!By o.ty (c.ga k) with
   |true=>simp [hz] at hK
   |false=>
    simp only [hz,cond_false] at hK;simp only [OF,aao] at hz;have dU:=AI hz.2;have hv:v=e.E f:=(lB h hs hf).1;have db:=h.dV f o hf;have Qj:bw c Z.nc e w (.slice none 0 0) ⟨o.ty,true,[]⟩:=by obtain ⟨I,cells,g1,g2,_⟩:=db.row;exact ⟨I,[],g1,g2,⟨by simp,.inl ⟨rfl,rfl⟩⟩,rfl,λaA hb=>by simp [AS] at hb⟩
    have rK:=h.Wr hK;have h5:=h.Gm (f:=f) rK Qj (λb hb=>by simp [AS] at hb);refine ⟨_,_,o.xs,⟨h5,rfl,?_,?_,?_,?_,?_,?_,?_⟩,jk hK⟩
    ·obtain ⟨I,cells,g1,g2,g3,g4,g5⟩:=db.row;rw [<-dU];refine ⟨I,cells,g1,g2,by rw [hv];exact g3,by show aB c.key e.φ _ _ _;rw [<-h.key];exact g4,λaA hb=>⟨hb,λoff u hu=> ?_,λhc=>aaN hc⟩⟩;have:=((g5 aA (by rw [<-hv];exact hb)).2.1 off u hu).1;rw [hz.1] at this;cases this
    ·intro b hb;obtain ⟨I,cells,_,_,_,_,g5⟩:=db.row;exact Hu (g5 b (by rw [<-hv];exact hb)).1 rK
    ·intro t cs ht hb;have ht:ah (gd f st.fr) t= .box cs:=ht;rw [dG] at ht;obtain ⟨d1,g1,_⟩:=nk ht;exact h.bf t d1 f o g1 hf (by rw [<-hv];exact hb)
    ·intro f2 o2 b bJ hb hvb;have bJ:ar (bh st.az f ⟨o.ty,true,[]⟩) f2=some o2:=bJ;have hb:(if f2=f then aa8 none 0 0 else e.E f2).ownBlock=some b:=hb;rw [aI] at bJ;by_cases cS:f2=f
     ·rw [if_pos cS] at hb;simp [AS] at hb
     ·rw [if_neg cS] at hb bJ;exact cS (h.ff f2 f o2 o b bJ hf hb (by rw [<-hv];exact hvb))
    ·rintro u s g rfl iw ⟨o2,bJ,PW⟩;have bJ:ar (bh st.az f ⟨o.ty,true,[]⟩) g=some o2:=bJ;rw [aI] at bJ;by_cases Qo:g=f
     ·rw [if_pos Qo] at bJ;cases bJ;cases PW
     ·rw [if_neg Qo] at bJ;obtain ⟨x,hx,yB,LU⟩:=iw;refine ⟨x,hx,yB,λo3 LQ=> ?_⟩;show x=if g=f then aa8 none 0 0 else e.E g
      rw [if_neg Qo];exact LU o2 (by rw [h.m];exact bJ)
    ·intro t cs ht;have ht:ah (gd f st.fr) t= .box cs:=ht;rw [dG] at ht;obtain ⟨d1,g1,_⟩:=nk ht;exact ⟨d1,g1,rfl⟩
    ·intro f2 o2 b bJ hb;have bJ:ar (bh st.az f ⟨o.ty,true,[]⟩) f2=some o2:=bJ;have hb:(if f2=f then aa8 none 0 0 else e.E f2).ownBlock=some b:=hb;rw [aI] at bJ;by_cases cS:f2=f
     ·rw [if_pos cS] at hb;simp [AS] at hb
     ·rw [if_neg cS] at hb bJ;exact ⟨o2,bJ,hb⟩
 ·cases hI:c.tv (c.ga k) with
  |none=>simp [hI] at hK
  |some I=>simp only [hI] at hK;obtain ⟨DE,Hw⟩:=aD hI;simp only [aa,aw,No,and_true] at hs;subst hs;refine ⟨e,st,[],⟨h,rfl,⟨I,[],DE,Hw,⟨by simp,.inl ⟨rfl,rfl⟩⟩,rfl,λaA hb=>by simp [AS] at hb⟩,λb hb=>by simp [AS] at hb,λt cs _ hb=>by simp [AS] at hb,λf o b _ _ hb=>by simp [AS] at hb,λu s g _ hs _=>hs,λt cs ht=>⟨cs,ht,rfl⟩,λf o b ho hb=>⟨o,ho,hb⟩⟩,hK⟩
 ·simp at hK
theorem yG {k:Nat}{s:Slot} {K':MV->St->Option R}(hK:vP c k st s K'=some r):(∃g o,s= .sc (.own g)/\ar st.az g=some o/\o.cB=false)\/s= .sc .nil:=by
 unfold vP at hK;split at hK
 ·rename_i f;cases hf:ar st.az f with
  |none=>simp [hf] at hK
  |some o=>
   simp only [hf] at hK;cases hz:o.cB with
   |true=>simp [hz] at hK
   |false=>exact .inl ⟨f,o,rfl,hf,hz⟩
 ·exact .inr rfl
 ·simp at hK
theorem KE {k:Nat}{ss:List Slot}{vs:List Value} {K':List MV->St->Option R}(h:bg c Z e st a w)(hlen:vs.length=ss.length)(cM: ∀(i:Nat)(v:Value)(s:Slot),vs[i]? =some v->ss[i]? =some s->aa e v s)(hK:LL c k st ss K'=some r): ∃e' bm ms,∃Z':Nat->Prop,Handed c Z Z' e' bm a w k vs ms/\Trans Z e.φ w e'.φ w/\K' ms bm=some r:=by
 unfold LL at hK;cases hg:c.bQ k with
 |false=>
  simp only [hg,cond_false] at hK;obtain ⟨e1,aT,ms,h1,h2,h3,h4,hK⟩:=lz h ⟨λ_=>vs,rfl,hlen,cM⟩ hK;refine ⟨e1,aT,ms,λb=>w.heap.size<=b,⟨h1,λb hb=>hb,h1.bt,?_,?_,?_,λ_ b hb=>hb⟩,h2.tr,hK⟩
  ·intro t cs ht hz;have:=pV h1 ht;omega
  ·intro f o b ho hb hz;have:=pW h1 ho hb;omega
  ·simp only [bO,hg,aan,if_false];rw [<-h1.key];exact h4
 |true=>
  simp only [hg,cond_true] at hK;split at hK
  ·rename_i s0 s1 s2;match vs,hlen with
   |[v0,v1,v2],aa2=>
    clear aa2 hlen;split at hK
    ·rename_i m2;obtain ⟨e1,aT,m1,h1,x1,xI,r1,lv⟩:=gu h (cM 1 v1 s1 rfl rfl) hK;obtain ⟨e2,cK,xs,G1,q8⟩:=mh h1 ((cM 0 v0 s0 rfl rfl).on x1.on (cw s0)) lv;have Ez:m2.one=true/\dI e.key e.φ [v2] m2:=cM 2 v2 (.sc (.p m2)) rfl rfl;have ha2:bN e.key e.φ v2 m2:=by obtain ⟨g1,g2⟩:=Ez;cases m2<;>simp [MV.one] at g1<;>exact ⟨rfl,g2⟩
     have aeT:bN c.key e1.φ v2 m2:=by rw [<-h.key];exact ha2.mono x1.on.φ
     have wide: ∀{v:Value} {zs:List MV} (Z1:Nat->Prop),(∀b,v.ownBlock=some b->Z1 b)->bw c (aO.plain λb=>v.ownBlock=some b) (gf c.key e1.φ) w v ⟨c.ga k,false,zs⟩->bw c (aO.plain Z1) (gf c.key e1.φ) w v ⟨c.ga k,false,zs⟩:=by intro v zs Z1 hz hf;obtain ⟨I,cells,g1,g2,g3,g4,g5⟩:=hf.row;exact ⟨I,cells,g1,g2,g3,g4,λaA hb=>⟨hz aA hb,(g5 aA hb).2⟩⟩
     refine ⟨e2,cK,[.fresh xs,m1,m2],λb=>w.heap.size<=b\/v0.ownBlock=some b,⟨G1.mg,λb hb=> .inl hb,?_,?_,?_,?_,λQo=>by rw [hg] at Qo;cases Qo⟩,by rw [G1.φ];exact x1.tr,q8⟩
     ·intro b hb;rcases hb with hb|hb
      ·exact h1.bt b hb
      ·exact G1.In b hb
     ·intro t cs ht hb;rcases hb with hb|hb
      ·have:=pV G1.mg ht;have hb:w.heap.size<=e2.B t:=hb;omega
      ·exact G1.box t cs ht hb
     ·intro f o b ho hb hz;rcases hz with hz|hz
      ·have:=pW G1.mg ho hb;omega
      ·exact G1.dV f o b ho hb hz
     ·simp only [bO,hg,if_true];rw [G1.φ];exact .inr (.inl ⟨v0,v1,v2,xs,m1,m2,rfl,rfl,Ez.1,wide _ (λb hb=> .inr hb) G1.row,by rw [<-h1.key];exact r1,aeT⟩)
    ·obtain ⟨e1,aT,m1,h1,x1,xI,r1,lv⟩:=gu h (cM 1 v1 s1 rfl rfl) hK;obtain ⟨e2,cK,xs,G1,q8⟩:=mh h1 ((cM 0 v0 s0 rfl rfl).on x1.on (cw s0)) lv;have Ez:=(cM 2 v2 s2 rfl rfl).on x1.on (cw s2);have NB:aa e2 v2 s2:=by
      rcases yG q8 with ⟨g,o,h5,h6,h7⟩|h5
      ·exact G1.keep v2 s2 g h5 Ez ⟨o,h6,h7⟩
      ·rw [h5] at Ez⊢;exact Ez
     obtain ⟨e3,jm,ys,G2,AP⟩:=mh G1.mg NB q8;have L1:bw c (aO.plain λb=>v2.ownBlock=some b) (gf c.key e1.φ) w v2 ⟨c.ga k,false,ys⟩:=by have:=G2.row;rw [G1.φ] at this;exact this
     have ou: ∀b,v0.ownBlock=some b->v2.ownBlock≠some b:=by
      intro b h0 lp;rcases yG q8 with ⟨g,o,h5,h6,h7⟩|h5
      ·rw [h5] at NB;have JU:v2=e2.E g:=(lB G1.mg NB h6).1;exact G1.dV g o b h6 (by rw [<-JU];exact lp) h0
      ·rw [h5] at NB;simp only [aa,aw,No,and_true] at NB;rw [NB] at lp;simp [AS] at lp
     have wide: ∀{v:Value} {zs:List MV} (Z1:Nat->Prop),(∀b,v.ownBlock=some b->Z1 b)->bw c (aO.plain λb=>v.ownBlock=some b) (gf c.key e1.φ) w v ⟨c.ga k,false,zs⟩->bw c (aO.plain Z1) (gf c.key e1.φ) w v ⟨c.ga k,false,zs⟩:=by intro v zs Z1 hz hf;obtain ⟨I,cells,g1,g2,g3,g4,g5⟩:=hf.row;exact ⟨I,cells,g1,g2,g3,g4,λaA hb=>⟨hz aA hb,(g5 aA hb).2⟩⟩
     have h3φ:e3.φ=e1.φ:=G2.φ.trans G1.φ;refine ⟨e3,jm,[.fresh xs,m1,.fresh ys],λb=>w.heap.size<=b\/v0.ownBlock=some b\/v2.ownBlock=some b,⟨G2.mg,λb hb=> .inl hb,?_,?_,?_,?_,λQo=>by rw [hg] at Qo;cases Qo⟩,by rw [h3φ];exact x1.tr,AP⟩
     ·intro b hb;rcases hb with hb|hb|hb
      ·exact h1.bt b hb
      ·exact G1.In b hb
      ·exact G2.In b hb
     ·intro t cs ht hb;rcases hb with hb|hb|hb
      ·have:=pV G2.mg ht;have hb:w.heap.size<=e3.B t:=hb;omega
      ·obtain ⟨zF,k1,k2⟩:=G2.boxes t cs ht;rw [k2] at hb;exact G1.box t zF k1 hb
      ·exact G2.box t cs ht hb
     ·intro f o b ho hb hz;rcases hz with hz|hz|hz
      ·have:=pW G2.mg ho hb;omega
      ·obtain ⟨o0,k1,k2⟩:=G2.az f o b ho hb;exact G1.dV f o0 b k1 k2 hz
      ·exact G2.dV f o b ho hb hz
     ·simp only [bO,hg,if_true];rw [h3φ];exact .inl ⟨v0,v1,v2,xs,m1,ys,rfl,rfl,wide _ (λb hb=> .inr (.inl hb)) G1.row,by rw [<-h1.key];exact r1,wide _ (λb hb=> .inr (.inr hb)) L1,ou⟩
  ·simp at hK
theorem aE.map {os:List Operand}(h:bg c Z e st a w): ∀(i:Nat) (v:Value) (s:Slot),(os.map a.eval)[i]? =some v->(eB c st os)[i]? =some s->aa e v s:=by
 intro i v s h1 h2;rw [eg,aal] at h2;rw [aal] at h1;cases ho:os[i]? with
 |none=>simp [ho] at h1
 |some x=>simp [ho] at h1 h2;rw [<-h1,<-h2];exact (h.eval x).1
theorem oN {f:Nat}{args:Array Value}{Rp:Value->World->Prop}(aV:(execOp a.eval o).run P w=(callFunc f args).run P w)(hc:cn P f args w Rp){Nx:Act->World->Prop}(EH: ∀v w',Rp v w'->Nx (a.put o.dst v) w'):o.wp P a w Nx Q:=by
 unfold adD;rw [aV];unfold cn at hc;generalize (callFunc f args).run P w=res at hc;cases res with
 |halt=>exact hc.elim
 |ok n w1=>
  cases n<;>simp only at hc<;>try exact hc.elim
  ·exact EH _ _ hc
  ·rw [Oper.upon_enter];refine hc.mono ?_;rintro x tp ⟨v,rfl,hv⟩;exact EH _ _ hv
theorem Qp {R':Type}{d k:Nat}{ts:List Nat}{x:MV}{outs:List MV} {K':Slot->St->Option R'}:Av c d st k (.gk x outs) ts K'=none:=by
 cases ts with
 |nil=>rfl
 |cons t ts=>
  simp only [Av];cases c.tv t with
  |none=>rfl
  |some I=>cases hq:By I.elem (c.ga k)<;>simp [hq,gT]
theorem Qq {Z':Nat->Prop}{k d:Nat}{ms:List MV}{x:MV}{v:Value} {φ':Ph}{I:TI}{vs:List Value}(hh:Handed c Z Z' e st a w k vs ms)(hd:o.dst.getD 0=d)(ht:Trans Z' e.φ w φ' w')(hi:iA φ' w')(hr:dy c Z' φ' w' k v x)(hK:(bif c.fresh k then bif By (c.ga k) 0 then ZO x λxs=>aG c st o.dst (.sc (.p (.clip xs))) K else bif TG I.bB then Av c d st k x I.bB λs st=>aG c st o.dst s K else gF x λxs=>bif !By I.elem (c.ga k) then none else dW st d ⟨I.elem,false,xs⟩ λst=>(bif aP c.bs d then gl st (.own d) λm st=>aG c st o.dst (.sc (.p m)) K else aG c st o.dst (.sc (.own d)) K) else lr c I x λs=>aG c st o.dst s K)=some r): Out c Z K r e.φ w (a.put o.dst v) w':=by
 have hs:=hh.mg.called hh.sub hh.box hh.dV ht hi;have nq:Trans Z e.φ w φ' w':=⟨ht.ph,λb hb=>ht.heap b (λhz=>hb (hh.sub b hz)),λb o hb=>ht.free b o (λhz=>hb (hh.sub b hz)),ht.size,ht.rest⟩
 cases hf:c.fresh k with
 |true=>
  simp only [hf,cond_true] at hK;cases h0:By (c.ga k) 0 with
  |true=>
   simp only [h0,cond_true] at hK;unfold ZO at hK;split at hK
   ·rename_i xs;have HS:aa {e with φ:=φ'} v (.sc (.p (.clip xs))):=by have hr:(MV.clip xs).one=true/\dI c.key φ' [v] (.clip xs):=hr;simp only [aa,aw];rw [hh.mg.key];exact hr
    obtain ⟨e2,cK,q1,q2,q3⟩:=bS hs (.of HS trivial) hK;exact ⟨e2,cK,q1,by rw [q3];exact nq,q2⟩
   ·simp at hK
  |false=>
  simp only [h0,cond_false] at hK;cases hC:TG I.bB with
  |true=>
   simp only [hC,cond_true] at hK;unfold Av at hK;split at hK
   ·cases hK
   ·rename_i t0 ts _;cases NC:c.tv t0 with
    |none=>simp [NC] at hK
    |some I0=>
     simp only [NC] at hK;cases dU:By I0.elem (c.ga k) with
     |false=>simp [dU] at hK
     |true=>
      simp only [dU,ab8,cond_false] at hK;have dU:=AI dU;rw [dU] at hK;unfold gT at hK;split at hK
      ·rename_i vs;cases vs with
       |nil=>simp [gC] at hK
       |cons m ms=>
        simp only [gC] at hK;unfold gF at hK;split at hK
        ·rename_i xs;obtain ⟨v0,us,rfl,hr,bZ⟩: ∃v0 us,v= .tuple (v0::us).toArray/\bw c (aO.plain Z') (gf c.key φ') w' v0 ⟨c.ga k,false,xs⟩/\aE c.key φ' us ms:=hr;obtain ⟨ls,Dr,aeU,hK⟩:=H5 (e:={e with φ:=φ'}) (by show aE e.key φ' us ms;rw [hh.mg.key];exact bZ) hK;have HS:bw c Z.nc {e with φ:=φ'} w' v0 ⟨c.ga k,false,xs⟩:=by obtain ⟨I,cells,g1,g2,g3,g4,g5⟩:=hr.row;exact ⟨I,cells,g1,g2,g3,by show aB e.key φ' _ _ _;rw [hh.mg.key];exact g4,λaA hb=>⟨hh.sub _ (g5 aA hb).1,(g5 aA hb).2.1,λhc=>aaN hc⟩⟩
         have h6:=hs.Gm (f:=d) (hh.mg.Wr hK) HS (by intro b hb;obtain ⟨I,cells,g1,g2,g3,g4,g5⟩:=hr.row;have hz:=(g5 b hb).1;exact ⟨λt cs h1 h2=>hh.box t cs h1 (by rw [h2];exact hz),λg o h1 h2=>hh.dV g o b h1 h2 hz⟩);have h1:v0.oneCell'=true:=by obtain ⟨I,cells,g1,g2,g3,_⟩:=hr.row;exact ma g3
         have lu:eR (λ_=>False) (λ_=>True) {e with φ:=φ'} (Env.nU {e with φ:=φ'} d v0 ⟨c.ga k,false,xs⟩):=⟨rfl,.refl _,λ_ _=>rfl,λ_ _ _ hf=>hf.elim⟩
         have Dr:=Dr.on lu (pQ aeU);have cb:aw (Env.nU {e with φ:=φ'} d v0 ⟨c.ga k,false,xs⟩) [v0] (.own d):=⟨v0,rfl,h1,λo ho=>by simp [Env.nU]⟩
         have hK:=jk hK;cases AO:aP c.bs d with
         |true=>simp only [AO,cond_true] at hK;obtain ⟨e3,jm,m,k1,k2,_,k4,hK,_,k7,k8⟩:=eT (l:= .own d) h6 (vs:=[v0]) cb hK;have hm:m.one=true:=k8 (λ_ _ _ he=>by cases he);obtain ⟨e2,cK,q1,q2,q3⟩:=bS k1 (.of (s:= .tg (.p m::ls)) (by simp only [aa];exact ⟨_,rfl,[v0],us,rfl,⟨hm,k4⟩,Dr.on k2.on (λl hl f hf=>trivial)⟩) trivial) hK;exact ⟨e2,cK,q1,by rw [q3];exact nq.trans k2.tr,q2⟩
         |false=>simp only [AO,cond_false] at hK;obtain ⟨e2,cK,q1,q2,q3⟩:=bS h6 (.of (s:= .tg (.own d::ls)) (by simp only [aa];exact ⟨_,rfl,[v0],us,rfl,cb,Dr⟩) trivial) hK;exact ⟨e2,cK,q1,by rw [q3];exact nq,q2⟩
        ·simp at hK
      ·simp at hK
  |false=>
  simp only [hC,cond_false] at hK;unfold gF at hK;split at hK
  ·rename_i xs;cases dU:By I.elem (c.ga k) with
   |false=>simp [dU] at hK
   |true=>
    simp only [dU,ab8,cond_false] at hK;have dU:=AI dU;rw [dU] at hK;have hr:bw c (aO.plain Z') (gf c.key φ') w' v ⟨c.ga k,false,xs⟩:=hr;have HS:bw c Z.nc {e with φ:=φ'} w' v ⟨c.ga k,false,xs⟩:=by obtain ⟨I,cells,g1,g2,g3,g4,g5⟩:=hr.row;exact ⟨I,cells,g1,g2,g3,by show aB e.key φ' _ _ _;rw [hh.mg.key];exact g4,λaA hb=>⟨hh.sub _ (g5 aA hb).1,(g5 aA hb).2.1,λhc=>aaN hc⟩⟩
    have h6:=hs.Gm (f:=d) (hh.mg.Wr hK) HS (by intro b hb;obtain ⟨I,cells,g1,g2,g3,g4,g5⟩:=hr.row;have hz:=(g5 b hb).1;exact ⟨λt cs h1 h2=>hh.box t cs h1 (by rw [h2];exact hz),λg o h1 h2=>hh.dV g o b h1 h2 hz⟩);have h1:v.oneCell'=true:=by obtain ⟨I,cells,g1,g2,g3,_⟩:=hr.row;exact ma g3
    have hK:=jk hK;cases AO:aP c.bs d with
    |true=>simp only [AO,cond_true] at hK;obtain ⟨e3,jm,m,k1,k2,_,k4,hK,_,k7,k8⟩:=eT (l:= .own d) h6 (vs:=[v]) ⟨v,rfl,h1,λo ho=>by simp [Env.nU]⟩ hK;have hm:m.one=true:=k8 (λ_ _ _ he=>by cases he);obtain ⟨e2,cK,q1,q2,q3⟩:=bS k1 (.of (s:= .sc (.p m)) (by exact ⟨hm,k4⟩) trivial) hK;exact ⟨e2,cK,q1,by rw [q3];exact nq.trans k2.tr,q2⟩
    |false=>simp only [AO,cond_false] at hK;obtain ⟨e2,cK,q1,q2,q3⟩:=bS h6 (.of (kN h1) trivial) hK;exact ⟨e2,cK,q1,by rw [q3];exact nq,q2⟩
  ·simp at hK
 |false=>simp only [hf,cond_false] at hK;obtain ⟨s,g1,g2,hK⟩:=pU (e:={e with φ:=φ'}) (st:=st) hh.mg.key hr hK;obtain ⟨e2,cK,q1,q2,q3⟩:=bS hs (.of g1 g2) hK;exact ⟨e2,cK,q1,by rw [q3];exact nq,q2⟩
theorem Out.trans {φ0:Ph}{w0:World} {a':Act}(h:Trans Z φ0 w0 e.φ w) (h':Out c Z K r e.φ w a' w'):Out c Z K r φ0 w0 a' w':=by obtain ⟨e2,cK,h1,h2,h3⟩:=h';exact ⟨e2,cK,h1,h.trans h2,h3⟩
theorem ND {R':Type}{I:TI}{x:MV}{outs:List MV} {K':Slot->Option R'}:lr c I (.gk x outs) K'=none:=by
 unfold lr;split
 ·unfold nb;cases I.st
  ·simp only [cond_false];split
   ·rename_i k _;cases k<;>rfl
   ·rfl
  ·rfl
 ·rfl
theorem yH {R':Type} {r':R'}{I:TI}{x:MV} {K':Slot->Option R'}(h:lr c I x K'=some r'):isW x=false:=by cases x<;>first|rfl|(rw [ND] at h;cases h)
theorem Ue {cl:Call}{f:Nat}{I:TI}(hS:Sound P c)(ho:o.op= .call cl)(iG:cl.callee= .value (.func f))(h:bg c Z e st a w)(hK:LL c (c.key f) st (eB c st cl.args.toList) (λms st=>Pu c (o.dst.getD 0) st (c.key f) ms I λs st=>aG c st o.dst s K)=some r): o.wp P a w (λa' w'=>(c.bQ (c.key f)=false->bX w w')/\Out c Z K r e.φ w a' w') Q:=by
 obtain ⟨e1,aT,ms,Z',hh,ht,hK⟩:=KE (vs:=cl.args.toList.map a.eval) h (by simp [eg]) (aE.map h) hK;unfold Pu at hK;obtain ⟨x,hx,hK⟩:=fQ hK;have qI:=hS f ms x hx e1.φ w Z' _ hh.new hh.args hh.mg.fB;refine oN ?_ qI ?_
 ·have zG:(cl.args.toList.map a.eval).toArray=cl.args.map a.eval:=by rw [<-aa0,abg]
  rw [zG];simp [execOp,ho,resolve,iG,Act.eval,aa1,invoke]
 ·rintro v w' ⟨φ',t1,t2,t3⟩;have hw:isW x=false:=by
   cases vM:c.fresh (c.key f) with
   |true=>rw [vM] at hK;cases h0:By (c.ga (c.key f)) 0<;>cases hC:TG I.bB<;>rw [h0] at hK<;>(try rw [hC] at hK)<;>cases x<;>first|rfl|(simp [gF,ZO] at hK;done)|(simp [Qp] at hK;done)
   |false=>rw [vM] at hK;exact yH hK
  exact ⟨λQo=>⟨t1.size,λb hb=>t1.heap b (λhz=>by have:=hh.grow Qo b hz;omega) hb,t1.rest⟩,(Qq hh rfl t1 t2 (t3.of hw) hK).trans ht⟩
theorem dq.one {ms:List MV}: ∀{vs:List Value},dq e.key e.φ vs ms->(∀m∈ms,m.one=true)->aE e.key e.φ vs ms:=by
 induction ms with
 |nil=>intro vs h _;cases h;rfl
 |cons m ms ih=>
  intro vs h h1;cases h with
  |cons v _ vs _ g1 g2=>obtain ⟨u,rfl,_⟩:=g1.one (h1 m (by simp));have hm:=h1 m (by simp);exact ⟨u,vs,rfl,by cases m<;>simp [MV.one] at hm<;>exact ⟨rfl,g1⟩,ih g2 (λm hm=>h1 m (by simp [hm]))⟩
theorem X2 {cl:Call}{x:Operand}{I:TI}(hS:Sound P c)(ho:o.op= .call cl)(iG:cl.callee= .value x)(h:bg c Z e st a w)(hK:F3 c st I (aq c st x) (eB c st cl.args.toList) (λs st=>aG c st o.dst s K)=some r): o.wp P a w (λa' w'=>bX w w'/\Out c Z K r e.φ w a' w') Q:=by
 obtain ⟨hx,_⟩:=h.eval x;generalize aq c st x=s at hx hK;unfold F3 at hK;split at hK
 ·rename_i m;simp only [aa,aw] at hx;unfold gFn at hK;split at hK
  ·rename_i f aS;obtain ⟨hg,hK⟩:=cj hK;obtain ⟨f',cap,hv,oO,ve,dS⟩: ∃(f':Nat) (cap:Array Value),a.eval x= .func (.func f') #[] cap/\e.key f'=f/\dq e.key e.φ cap.toList aS/\ ∀m∈aS,m.one=true:=by obtain ⟨_,hx⟩:=hx;generalize oK:[a.eval x]=vs at hx;cases hx;rename_i f' cap h1 h2 h3;exact ⟨f',cap,by simpa using oK,h1,h2,h3⟩
   obtain ⟨e1,aT,ms,h1,h2,h3,h4,q8⟩:=lz h ⟨λ_=>cl.args.toList.map a.eval,rfl,by simp [eg],aE.map h⟩ hK;obtain ⟨x',Nl,AP⟩:=fQ q8;have EI:c.key f'=f:=by rw [<-h.key];exact oO
   have aa3:aE e1.key e1.φ cap.toList aS:=by have:=(dq.one ve dS).mono h2.on.φ;rw [<-h2.on.key] at this;exact this
   have bZ:bO c (λb=>w.heap.size<=b) e1.φ w (c.key f') (cl.args.toList.map a.eval++cap.toList) (ms++aS):=by
    have XM:c.bQ (c.key f')=false:=by rw [EI];simpa using hg
    simp only [bO,XM,aan,if_false];rw [<-h1.key];exact h4.append aa3
   have qI:=hS f' (ms++aS) x' (by rw [EI];exact Nl) e1.φ w (λb=>w.heap.size<=b) _ (λb hb=>hb) bZ h1.fB;refine oN ?_ qI ?_
   ·have zG:(cl.args.toList.map a.eval++cap.toList).toArray=cl.args.map a.eval++cap:=by rw [<-aa0,<-Array.toList_append,abg]
    rw [zG];simp [execOp,ho,resolve,iG,hv,aa1,invoke]
   ·rintro v w' ⟨φ',t1,t2,t3⟩;have hh:Handed c Z (λb=>w.heap.size<=b) e1 aT a w (c.key f') (cl.args.toList.map a.eval++cap.toList) (ms++aS):=by
     refine ⟨h1,λb hb=>hb,h1.bt,?_,?_,bZ,λ_ b hb=>hb⟩
     ·intro t cs ht hz;have:=pV h1 ht;omega
     ·intro f o b ho hb hz;have:=pW h1 ho hb;omega
    have hs:=hh.mg.called hh.sub hh.box hh.dV t1 t2;have nq:Trans Z e1.φ w φ' w':=⟨t1.ph,λb hb=>t1.heap b (λhz=>hb (hh.sub b hz)),λb o hb=>t1.free b o (λhz=>hb (hh.sub b hz)),t1.size,t1.rest⟩
    obtain ⟨s,g1,g2,Tk⟩:=pU (e:={e1 with φ:=φ'}) (st:=aT) h1.key (t3.of (yH AP)) AP;obtain ⟨e2,cK,q1,q2,q3⟩:=bS hs (.of g1 g2) Tk;exact ⟨⟨t1.size,λb hb=>t1.heap b (λhz=>by have hz:w.heap.size<=b:=hz;omega) hb,t1.rest⟩,e2,cK,q1,by rw [q3];exact h2.tr.trans nq,q2⟩
  ·simp at hK
 ·simp at hK
end
end Dn
/-
  Parts of a state. Conditions: none.
-/
namespace Dn
open Go
section
variable {P:Program}{c:Ctx}{Z Zi:aO} {e e':Env}{st bm:St}{a:Act} {w w':World}{R:Type}{K:St->Option R}{r:R}{Q:Exit->Act->World->Prop}{o:Oper}
theorem bg.sub (h:bg c Z e st a w)(hpp: ∀t∈Z.bI,t∈Zi.bI)(hm:bm.bI=Zi.bI/\bm.bF=Zi.bF/\ ∀t∈Zi.bI,a.tmps.getD t undef=Zi.T t)(hn:(ax bm.fr).Nodup)(hs: ∀t,ah bm.fr t= .sc .un\/(b8 (ah st.fr t)=false/\(ah bm.fr t=ah st.fr t\/ ∃qs,ah bm.fr t=z1 qs (ah st.fr t))))(hf: ∀f o,ar bm.az f=some o-> ∃o0,ar st.az f=some o0/\o0.ty=o.ty/\o0.xs=o.xs/\(o0.cB=true->o.cB=true))(hbz: ∀t cs,ah bm.fr t= .box cs->(t∈Zi.bI/\Zi.Pr (e.B t))\/Zi.In (e.B t))(ZY: ∀f o b,ar bm.az f=some o->(e.E f).ownBlock=some b->(f∈Zi.bF/\Zi.Pr b)\/Zi.In b)(Uf: ∀f o I cells b,ar bm.az f=some o->f∈Zi.bF->o.cB=true->c.ti o.ty=some I->w.ownsRow 0 o.ty I.size (e.E f) o.xs.length cells->(e.E f).ownBlock=some b-> ∀j,j<cells.length->e.φ b j=cells[j]?)(hz: ∀b,w.heap.size<=b->Zi.In b):bg c Zi {e with m:=bm.az} bm a w:=by
 have lu:eR (λ_=>True) (λ_=>True) e {e with m:=bm.az}:=by refine ⟨rfl,.refl _,λ_ _=>rfl,λf o ho _=> ?_⟩;obtain ⟨o0,h1,h2,h3,h4⟩:=hf f o ho;exact ⟨o0,by rw [h.m];exact h1,rfl,h3.symm⟩
 have tie: ∀{t:Nat} {v:Value} {cs:List ak} {b:Nat},tied Z t v cs b->tied Zi t v cs b:=λht=>⟨ht.1,λhp=>by obtain ⟨k1,k2⟩:=ht.2 hp;have k3:=hpp _ k1;exact ⟨k3,by rw [<-hm.2.2 _ k3,h.defers.2.2.2 _ k1,k2]⟩⟩
 have Qr: ∀t cs,ah bm.fr t= .box cs-> ∃zF,ah st.fr t= .box zF/\(cs=zF\/ ∃qs,cs=zF.map (JR qs)):=by
  intro t cs ht;rcases hs t with h1|⟨_,h1|⟨qs,h1⟩⟩
  ·rw [h1] at ht;cases ht
  ·rw [h1] at ht;exact ⟨cs,ht,.inl rfl⟩
  ·rw [h1] at ht;generalize ah st.fr t=s at ht;cases s<;>simp only [z1] at ht<;>first|(cases ht;done)|skip
   simp at ht;exact ⟨_,rfl,.inr ⟨qs,ht.symm⟩⟩
 refine ⟨⟨h.defers.1,hm⟩,h.size,rfl,h.key,hn,?_,?_,?_,?_,?_,?_,h.fB,hz⟩
 ·intro t;have iw:=h.slot t;have cu:=hs t;have hb0:=hbz t;generalize ah bm.fr t=s' at cu hb0;generalize ah st.fr t=s at iw cu;rcases cu with rfl|⟨_,rfl|⟨qs,rfl⟩⟩
  ·simp [bk,aa]
  ·cases s'<;>simp only [bk] at iw⊢ <;>try exact iw.on lu (cw _)
   obtain ⟨o2,h1,h2⟩:=iw.2.obj;exact ⟨tie iw.1,hb0 _ rfl,⟨o2,h1,h2.on lu (λl _ f _=>trivial)⟩,iw.2.free⟩
  ·by_cases xK: ∃cs,s= .box cs
   ·obtain ⟨cs,rfl⟩:=xK;simp only [bk,z1] at iw⊢;obtain ⟨o2,h1,h2⟩:=iw.2.obj;exact ⟨(tie iw.1).gn (XI qs _),hb0 _ rfl,⟨o2,h1,(h2.map (λ_ _=>aw.HQ qs) (λ_ _=>rfl)).on lu (λl _ f _=>trivial)⟩,iw.2.free⟩
   ·have oq:aa e (a.tmps.getD t undef) s:=by cases s<;>simp only [bk] at iw<;>first|exact iw|exact absurd ⟨_,rfl⟩ xK
    have h2:=(oq.HQ qs).on lu (cw _);generalize Nt:z1 qs s=s2 at h2;cases s2<;>first|exact h2|(exfalso;simp [aa] at h2)
 ·intro t;have cu:=hs t;generalize ah bm.fr t=s' at cu;generalize ah st.fr t=s at cu;rcases cu with rfl|⟨hp,rfl|⟨qs,rfl⟩⟩
  ·trivial
  ·cases s'<;>simp [b8] at hp<;>trivial
  ·cases s<;>simp [b8] at hp<;>trivial
 ·intro f o ho;obtain ⟨o0,h1,h2,h3,h4⟩:=hf f o ho;obtain ⟨I,cells,g1,g2,g3,g4,g5⟩:=(h.dV f o0 h1).row;rw [h2] at g1 g3;rw [h3] at g3 g4 g5;refine ⟨I,cells,g1,g2,g3,g4,λaA hb=>⟨ZY f o aA ho hb,λoff u hu=> ?_,λk1 k2 j hj=>Uf f o I cells aA ho k1 k2 g1 g3 hb j hj⟩⟩;obtain ⟨k1,k2⟩:=(g5 aA hb).2.1 off u hu;exact ⟨h4 k1,k2⟩
 ·intro t t' c1 c2 h1 h2 cg;obtain ⟨d1,g1,_⟩:=Qr t c1 h1;obtain ⟨d2,g2,_⟩:=Qr t' c2 h2;exact h.bb t t' d1 d2 g1 g2 cg
 ·intro t c1 f o h1 h2;obtain ⟨d1,g1,_⟩:=Qr t c1 h1;obtain ⟨o0,g2,_⟩:=hf f o h2;exact h.bf t d1 f o0 g1 g2
 ·intro f f' o1 o2 k h1 h2 h3 h4;obtain ⟨p1,g1,_⟩:=hf f o1 h1;obtain ⟨p2,g2,_⟩:=hf f' o2 h2;exact h.ff f f' p1 p2 k g1 g2 h3 h4
theorem bg.drop {ds:List Nat}(h:bg c Z e st a w):bg c Z e {st with fr:=iL ds st.fr} a w:=by
 have hg:=AE ds st.fr h.nodup;have:=h.sub (Zi:=Z) (bm:={st with fr:=iL ds st.fr}) (λ_ h=>h) ⟨h.defers.2.1,h.defers.2.2.1,h.defers.2.2.2⟩ ((vS ds st.fr).nodup h.nodup) (by
   intro t;show ah (iL ds st.fr) t=_\/(_/\(ah (iL ds st.fr) t=_\/ ∃qs,ah (iL ds st.fr) t=_));rw [hg];cases hb:b8 (ah st.fr t)||aP ds t with
   |true=>exact .inl (by simp)
   |false=>simp only [OF] at hb;exact .inr ⟨hb.1,.inl (by simp)⟩)
  (λf o ho=>⟨o,ho,rfl,rfl,id⟩)
  (by
   intro t cs ht;have ht:ah (iL ds st.fr) t= .box cs:=ht;rw [hg] at ht;split at ht
   ·cases ht
   ·have hs:=h.slot t;rw [ht] at hs;exact hs.2.bt)
  (by intro f o b ho hb;obtain ⟨I,cells,_,_,_,_,g5⟩:=(h.dV f o ho).row;exact (g5 b hb).1)
  (by intro f o I cells b ho hp hz hI cb hb j hj;obtain ⟨I',P4,g1,_,g3,_,g5⟩:=(h.dV f o ho).row;rw [hI] at g1;cases g1;rw [yA cb g3 hb] at hj⊢;exact (g5 b hb).2.2 hp hz j hj)
  h.bt
 have hm:e.m=st.az:=h.m;have he:{e with m:=({st with fr:=iL ds st.fr}:St).az}=e:=by cases e;simp at hm⊢;exact hm.symm
 rw [he] at this;exact this
theorem bg.Qs {t root off:Nat}{cs:List ak}(h:bg c Z e st a w)(hb:ah st.fr root= .box cs)(hn:bP (ah st.fr t)=false)(hv:aa e (a.tmps.getD t undef) (.ptr root off)): bg c Z e {st with fr:=bu st.fr t (.ptr root off)} a w:=by
 have hg: ∀t',ah (bu st.fr t (.ptr root off)) t'=if t'=t then .ptr root off else ah st.fr t':=λt'=>a8 _ _ _ _
 have cg: ∀r,bP (ah st.fr r)=true->r≠t:=λr hr he=>by subst he;rw [hn] at hr;cases hr
 have nR: ∀t' cs,ah (bu st.fr t (.ptr root off)) t'= .box cs->ah st.fr t'= .box cs:=by
  intro t' cs ht;rw [hg] at ht;by_cases nV:t'=t
  ·rw [if_pos nV] at ht;cases ht
  ·rw [if_neg nV] at ht;exact ht
 have hk: ∀r,bP (ah st.fr r)=true->bP (ah (bu st.fr t (.ptr root off)) r)=true:=λr hr=>by rw [hg,if_neg (cg r hr)];exact hr
 refine ⟨h.defers,h.size,h.m,h.key,cD h.nodup,?_,?_,h.dV,?_,?_,h.ff,h.fB,h.bt⟩
 ·intro t';show bk Z e w t' _ (ah (bu st.fr t (.ptr root off)) t');rw [hg];by_cases nV:t'=t
  ·subst nV;simp only [if_true];exact hv
  ·simp only [nV,if_false];exact h.slot t'
 ·intro t';show bK (bu st.fr t (.ptr root off)) (ah (bu st.fr t (.ptr root off)) t');have hr:=h.root t';rw [hg t'];by_cases nV:t'=t
  ·simp only [nV,if_true];exact hk root (by rw [hb];rfl)
  ·simp only [nV,if_false];generalize ah st.fr t'=s at hr;cases s<;>first|trivial|exact hk _ hr
 ·intro t1 t2 c1 c2 h1 h2 cg;exact h.bb t1 t2 c1 c2 (nR t1 c1 h1) (nR t2 c2 h2) cg
 ·intro t1 c1 f o h1 h2;exact h.bf t1 c1 f o (nR t1 c1 h1) h2
theorem tt {s:Slot}(h:xB s=true): ∃cs,s= .box cs/\cR cs=false:=by cases s<;>simp [xB] at h;exact ⟨_,rfl,h⟩
theorem H6 {Z1:aO}{e1:Env}{aT:St}{root:Nat}(h:bg c Z e st a w)(h1:bg c Z1 e1 aT a w)(hp:ru root=false)(hb:xB (ah st.fr root)=true)(np:xB (ah aT.fr root)=true):e1.B root=e.B root:=by obtain ⟨cs,hf,hm⟩:=tt hb;obtain ⟨Gc,EF,hm1⟩:=tt np;have s1:=h.slot root;have s2:=h1.slot root;rw [hf] at s1;rw [EF] at s2;have g1:=s1.1.1 hp;have g2:=s2.1.1 hp;rw [lY hm] at g1;rw [lY hm1,g1] at g2;simp at g2;exact g2.symm
theorem AU {Z0:aO}{e0:Env}{tj:St}{ok:Nat->Bool}(h0:bg c Z0 e0 tj a w): ∀{l:Fr} {st:St} {R:Type} {r:R} {K:Fr->Option R},(∀t s,(t,s)∈l->ah tj.fr t=s)->bg c Z e st a w->As ok tj.fr l st.fr K=some r-> ∃fr,bg c Z e {st with fr:=fr} a w/\K fr=some r:=by
 intro l;induction l with
 |nil=>intro st R r K _ h hK;exact ⟨st.fr,h,hK⟩
 |cons p l ih=>
  obtain ⟨t,s⟩:=p;intro st R r K hl h hK;have om: ∀t s,(t,s)∈l->ah tj.fr t=s:=λt s hm=>hl t s (aai _ hm);have hs:=hl t s (by simp);cases s with
  |ptr root off=>
   simp only [As] at hK;cases hc:ok t&&(!ru root&&(xB (ah tj.fr root)&&(xB (ah st.fr root)&&!bP (ah st.fr t)))) with
   |false=>rw [hc] at hK;exact ih om h hK
   |true=>
    rw [hc] at hK;simp only [aQ,aaf] at hc;obtain ⟨_,hp,hb0,np,hn⟩:=hc;simp only [cond_true,gV] at hK;obtain ⟨cs,hf,_⟩:=tt np;have hB:=H6 h0 h hp hb0 np;have hv:aa e (a.tmps.getD t undef) (.ptr root off):=by have:=h0.slot t;rw [hs] at this;simp only [bk,aa] at this⊢;rw [hB];exact this
    have h2:=h.Qs hf hn hv;obtain ⟨fr,g1,g2⟩:=ih (st:={st with fr:=bu st.fr t (.ptr root off)}) om h2 hK;exact ⟨fr,g1,g2⟩
  |_=>exact ih om h hK
theorem H7 {l:Fr}(hn:(ax l).Nodup): ∀t s,(t,s)∈l->ah l t=s:=by
 induction l with
 |nil=>intro t s hm;simp at hm
 |cons p l ih=>
  obtain ⟨k,x⟩:=p;have hn:(k::ax l).Nodup:=hn;rw [List.nodup_cons] at hn;intro t s hm;rcases sh.1 hm with hm|hm
  ·cases hm;simp [ah]
  ·have hk:t∈ax l:=by unfold ax;exact aaU.2 ⟨(t,s),hm,rfl⟩
   have cg:k≠t:=λhe=>hn.1 (he▸hk);simp only [ah,cY];simp only [cg,decide_false,cond_false];exact ih hn.2 t s hm
theorem kO {ds:List Nat}{R:Type}{r:R}{K:St->Option R}(h:bg c Z e st a w)(hK:uW ds st K=some r): ∃bm,bg c Z e bm a w/\K bm=some r:=by obtain ⟨p,q,fr,m⟩:=st;simp only [uW,yy] at hK;obtain ⟨j8,g1,g2⟩:=AU (st:={bI:=p,bF:=q,fr:=iL ds fr,az:=m}) h (H7 h.nodup) h.drop hK;exact ⟨_,g1,g2⟩
end
end Dn
/-
  Maps of the function's own: their operations. Conditions: none.
-/
namespace Dn
open Go
theorem L2 (b:ByteArray):(b==b)=true:=by rw [beq_toListBytes];exact beq_self_eq_true _
theorem X3 {a b:Kd}(h:Wg a b=true):a=b:=by cases a<;>cases b<;>simp [Wg,kB] at h<;>first|rfl|(subst h;rfl)|(obtain ⟨rfl,rfl⟩:=h;rfl)
theorem Ug {l m:List Kd}(h:zt l m=true):l=m:=by
 induction l generalizing m with
 |nil=>cases m<;>simp [zt] at h;rfl
 |cons a l ih=>
  cases m with
  |nil=>simp [zt] at h
  |cons b m=>simp only [zt,aQ] at h;rw [X3 h.1,ih h.2]
theorem Qt {s t:MS}(h:ZP s t=true):s=t:=by unfold ZP at h;simp only [aQ,beq_iff_eq] at h;cases s;cases t;simp only at h;obtain ⟨h1,h2,h3⟩:=h;rw [h1,Ug h2,h3]
theorem Uh {a b:MV}(h:Dv a b=true):a=b:=by
 unfold Dv at h;split at h
 ·rw [of_decide_eq_true h]
 ·simp only [aQ] at h;rw [of_decide_eq_true h.1,of_decide_eq_true h.2]
 ·rw [of_decide_eq_true h]
 ·simp only [aQ] at h;rw [of_decide_eq_true h.1,AI h.2.1,of_decide_eq_true h.2.2]
 ·cases h
theorem Qu {a b:List MV}(h:ei a b=true):a=b:=by
 induction a generalizing b with
 |nil=>cases b with|nil=>rfl|cons=>simp [ei] at h
 |cons x xs ih=>
  cases b with
  |nil=>simp [ei] at h
  |cons y ys=>simp only [ei,aQ] at h;rw [Uh h.1,ih h.2]
structure L3 (P:Program) (t:TypeId) (s:MS):Prop where
 row: ∃kt el,P.underlying t=some (.map kt el)/\(∀w:World,(zeroValue el).run P w= .ok (uh s.b (ej s.b)) w)/\ (∀(em:Bool) (ks:List MV) (w:World),cf s.lay ks=true->(Instr.checkKey em 10000 kt (dk s.st ks)).run P w= .ok () w)/\ ∃d,P.underlying kt=some d/\((∀a b,cf s.lay a=true->cf s.lay b=true->aav d (dk s.st a) (dk s.st b)=some (ei b a))\/ (∀a b,cf s.lay a=true->cf s.lay b=true->aav d (dk s.st a) (dk s.st b)=none/\ ∀w:World,(ada kt (dk s.st a) (dk s.st b)).run P w= .ok (ei b a) w))
def rR (P:Program)(c:Ctx):Prop:= ∀t s,oz c t=some s->L3 P t s
theorem Qv {k:Kd}{e:Env}{l:ak}{vs:List Value}{m:MV}(h:aw e vs l)(hf:jc k l=true)(hm:aW [l]=some [m]):vs=xu m/\vT k m=true:=by
 have bytes: ∀b:ByteArray,adE b=adE ⟨b.data.toList.toArray⟩:=by intro b;cases b;simp
 cases k<;>cases l<;>simp only [jc] at hf<;>try (cases hf;done)
 ·rename_i x;cases x<;>simp only [jc] at hf<;>try (cases hf;done)
  simp [aW] at hm;subst hm;obtain ⟨_,h⟩:=h;cases h;exact ⟨rfl,rfl⟩
 ·rename_i k x;cases x<;>simp only [jc] at hf<;>try (cases hf;done)
  simp [aW] at hm;subst hm;obtain ⟨_,h⟩:=h;cases h;exact ⟨rfl,hf⟩
 ·rename_i x;cases x<;>simp only [jc] at hf<;>try (cases hf;done)
  simp [aW] at hm;subst hm;obtain ⟨_,h⟩:=h;cases h;exact ⟨by simp [xu],rfl⟩
 ·simp [aW] at hm;subst hm;simp only [aQ,decide_eq_true_eq] at hf;obtain ⟨rfl,hf⟩:=hf;have hf:=AI hf;subst hf;exact ⟨h.1,by simp [vT,h.2]⟩
theorem qJ {l:ak}{ls:List ak}{ms:List MV}(h:aW (l::ls)=some ms): ∃m q,aW [l]=some [m]/\aW ls=some q/\ms=m::q:=by
 cases l<;>cases hq:aW ls<;>simp [aW,hq] at h⊢
 ·exact h.symm
 ·exact h.symm
theorem Ui {e:Env}{lay:List Kd}: ∀{ls:List ak} {vs:List Value} {ms:List MV},ai e vs ls->cV lay ls=true->aW ls=some ms->vs=ms.flatMap xu/\cf lay ms=true:=by
 induction lay with
 |nil=>
  intro ls vs ms h hf hm;cases ls with
  |nil=>cases h;simp [aW] at hm;subst hm;exact ⟨rfl,rfl⟩
  |cons=>simp [cV] at hf
 |cons k lay ih=>
  intro ls vs ms h hf hm;cases ls with
  |nil=>simp [cV] at hf
  |cons l ls=>
   simp only [cV] at hf;cases h1:jc k l with
   |false=>simp [h1] at hf
   |true=>simp only [h1,cond_true] at hf;obtain ⟨m,q,g1,g2,rfl⟩:=qJ hm;obtain ⟨v,u,rfl,g3,g4⟩:=h;obtain ⟨k1,k2⟩:=Qv g3 h1 g1;obtain ⟨k3,k4⟩:=ih g4 hf g2;exact ⟨by rw [k1,k3];rfl,by simp [cf,k2,k4]⟩
theorem X4 {e:Env}{s:MS}{v:Value}{sl:Slot}{ks:List MV}(h:aa e v sl)(hf:cV s.lay (av sl)=true)(PY:iu s.st sl=true)(hm:aW (av sl)=some ks):v=dk s.st ks/\cf s.lay ks=true:=by
 cases sl with
 |sc l=>
  simp only [iu,aaf] at PY;simp only [av] at hf hm;cases hl:s.lay with
  |nil=>rw [hl] at hf;simp [cV] at hf
  |cons k r=>
   cases r with
   |cons=>rw [hl] at hf;simp [cV] at hf
   |nil=>
    rw [hl] at hf;have EF:jc k l=true:=by cases hq:jc k l<;>simp_all [cV]
    obtain ⟨m,q,g1,g2,rfl⟩:=qJ hm;simp [aW] at g2;subst g2;by_cases hh: ∃k n x,l= .hs k n x
    ·obtain ⟨k1,n1,x,rfl⟩:=hh;simp [aW] at g1;subst g1;simp only [aa] at h;cases k<;>simp [jc] at EF;exact ⟨by rw [PY,h.1];rfl,by simp [cf,vT,EF,h.2]⟩
    ·have Qw:aw e [v] l:=by cases l<;>simp only [aa] at h<;>first|exact h|(cases k<;>simp [jc] at EF;done)|exact absurd ⟨_,_,_,rfl⟩ hh
     obtain ⟨k1,k2⟩:=Qv Qw EF g1;refine ⟨?_,by simp [cf,k2]⟩;rw [PY];cases m<;>simp [xu] at k1<;>first|(rw [k1];rfl)|skip
     cases l<;>simp [aW] at g1
     ·subst g1;have:=Qw.1;simp [MV.one] at this
     ·exact absurd ⟨_,_,_,rfl⟩ hh
 |ag cs=>simp only [iu] at PY;simp only [av] at hf hm;simp only [aa] at h;obtain ⟨arr,rfl,hl⟩:=h;obtain ⟨k1,k2⟩:=Ui hl hf hm;refine ⟨?_,k2⟩;rw [PY];simp only [dk];rw [<-k1]
 |_=>simp [iu] at PY
theorem Gp {n:Nat}{m:MV}: ∀x∈xu m,aag n x x=true:=by
 intro x hx;cases m<;>simp [xu,aX] at hx
 ·subst hx;cases n<;>simp [aag]
 ·subst hx;cases n<;>simp [aag]
 ·subst hx;cases n<;>(simp only [aag];exact L2 _)
 ·obtain ⟨b,_,rfl⟩:=hx;cases n<;>simp [aag]
theorem vY {n:Nat}{ms:List MV}:aag (n+1) (.agg (ms.flatMap xu).toArray) (.agg (ms.flatMap xu).toArray)=true:=by
 simp only [aag,aQ,beq_self_eq_true,true_and];rw [List.all_eq_true];rintro ⟨x,y⟩ Qx;have Qx:(x,y)∈(ms.flatMap xu).zip (ms.flatMap xu):=by simpa using Qx
 obtain ⟨i,hi,he⟩:=List.mem_iff_getElem.1 Qx;rw [List.getElem_zip] at he;simp only [aac] at he;obtain ⟨h1,h2⟩:=he;rw [h1] at h2;subst h2;have hm:x∈ms.flatMap xu:=by rw [<-h1];exact List.getElem_mem _
 obtain ⟨m,_,hm⟩:=List.mem_flatMap.1 hm;exact Gp _ hm
theorem Gq {n:Nat}{st:Bool}{lay:List Kd}{ks:List MV}(hf:cf lay ks=true):aag (n+1) (dk st ks) (dk st ks)=true:=by
 unfold dk;split
 ·rename_i k m x;have:=vY (n:=n) (ms:=[.h k m x]);simpa [xu] using this
 ·simp [aag]
 ·simp [aag]
 ·simp only [aag];exact L2 _
 ·exact vY
theorem EJ {P:Program}{w:World}{st:Bool}{lay:List Kd}{ks:List MV}(hf:cf lay ks=true):(Instr.keyThatStays (dk st ks) (dk st ks)).run P w= .ok (dk st ks) w:=by unfold Instr.keyThatStays;rw [Gq (n:=9999) hf];rfl
def fw:List (List MV)->List MV->Nat
 |[],_=>0
 |q::r,ks=>bif ei q ks then 0 else fw r ks+1
theorem L4 (iB:List (List MV))(ks:List MV):fw iB ks<=iB.length:=by
 induction iB with
 |nil=>simp [fw]
 |cons q r ih=>simp only [fw];cases ei q ks<;>simp [ih]
theorem Qy {iB:List (List MV)}{ks:List MV}{q:List MV}(h:iB[fw iB ks]? =some q):q=ks:=by
 induction iB with
 |nil=>simp at h
 |cons p r ih=>
  simp only [fw] at h;cases hm:ei p ks with
  |true=>simp [hm] at h;rw [<-h];exact Qu hm
  |false=>simp [hm] at h;exact ih h
theorem oP (es:List MV)(ks:List MV):dY es ks=fw (es.map lS) ks:=by
 induction es with
 |nil=>rfl
 |cons e r ih=>simp only [dY,aau,fw,ih]
def kP (s:MS):List MapEntry->List (List MV)->Prop
 |[],iB=>iB=[]
 |x::es,iB=> ∃q r,iB=q::r/\cf s.lay q=true/\x.key=dk s.st q/\kP s es r
theorem kP.length {s:MS}: ∀{es:List MapEntry} {iB:List (List MV)},kP s es iB->iB.length=es.length
 |[],_,h=>by cases h;rfl
 |_::es,_,⟨q,r,rfl,_,_,h⟩=>by simp [h.length]
theorem kP.append {s:MS}: ∀{es Pe:List MapEntry} {iB aa5:List (List MV)},kP s es iB->kP s Pe aa5->kP s (es++Pe) (iB++aa5)
 |[],_,_,_,h,h'=>by cases h;exact h'
 |x::es,_,_,_,⟨q,r,rfl,h1,h2,h⟩,h'=>⟨q,_,rfl,h1,h2,h.append h'⟩
theorem kP.at {s:MS}: ∀{es:List MapEntry} {iB:List (List MV)} {i:Nat} {x:MapEntry},kP s es iB->es[i]? =some x-> ∃q,iB[i]? =some q/\cf s.lay q=true/\x.key=dk s.st q
 |[],_,_,_,_,h=>by simp at h
 |y::es,_,i,x,⟨q,r,rfl,h1,h2,h⟩,hx=>by
  cases i with
  |zero=>simp at hx;subst hx;exact ⟨q,rfl,h1,h2⟩
  |succ i=>simpa using h.at (i:=i) (by simpa using hx)
theorem KF {s:MS}{d:TypeDesc}{ks:List MV}(hf:cf s.lay ks=true)(hd: ∀a b,cf s.lay a=true->cf s.lay b=true->aav d (dk s.st a) (dk s.st b)=some (ei b a)): ∀(es:List MapEntry) (iB:List (List MV)) (n:Nat),kP s es iB->aa4 d (dk s.st ks) es n=some ((es[fw iB ks]?).map λx=>(n+fw iB ks,x.val)):=by
 intro es;induction es with
 |nil=>intro iB n h;rfl
 |cons x es ih=>
  rintro iB n ⟨q,r,rfl,h1,h2,h⟩;simp only [aa4,h2,hd ks q hf h1,fw];cases hm:ei q ks with
  |true=>simp
  |false=>simp only [cond_false];rw [ih r (n+1) h];simp [adb,acx 1]
theorem DL {P:Program}{s:MS}{kt:TypeId}{ks:List MV}{w:World}(hf:cf s.lay ks=true)(hd: ∀a b,cf s.lay a=true->cf s.lay b=true-> ∀w:World,(ada kt (dk s.st a) (dk s.st b)).run P w= .ok (ei b a) w): ∀(es:List MapEntry) (iB:List (List MV)) (n:Nat),kP s es iB->(Instr.findAsking kt (dk s.st ks) es n).run P w= .ok ((es[fw iB ks]?).map λx=>(n+fw iB ks,x.val)) w:=by
 intro es;induction es with
 |nil=>intro iB n h;rfl
 |cons x es ih=>
  rintro iB n ⟨q,r,rfl,h1,h2,h⟩;simp only [Instr.findAsking,h2,acA,hd ks q hf h1 w,BY,fw];cases hm:ei q ks with
  |true=>simp
  |false=>simp only [cond_false,aan,if_false];rw [ih r (n+1) h];simp [adb,acx 1]
theorem AV {P:Program}{s:MS}{kt:TypeId}{d:TypeDesc}{ks:List MV}{w:World}{es:List MapEntry}{iB:List (List MV)}(hf:cf s.lay ks=true)(hu:P.underlying kt=some d)(hd:(∀a b,cf s.lay a=true->cf s.lay b=true->aav d (dk s.st a) (dk s.st b)=some (ei b a))\/ (∀a b,cf s.lay a=true->cf s.lay b=true->aav d (dk s.st a) (dk s.st b)=none/\ ∀w:World,(ada kt (dk s.st a) (dk s.st b)).run P w= .ok (ei b a) w))(h:kP s es iB):(abH kt (dk s.st ks) es).run P w= .ok ((es[fw iB ks]?).map λx=>(fw iB ks,x.val)) w:=by
 rcases hd with hd|hd
 ·have:=KF hf hd es iB 0 h;rw [aaD] at this;exact MapKept.run_findKey hu this
 ·cases es with
  |nil=>simp [abH,run_underlying hu,BY,aa4]
  |cons x es=>
   have h0:=DL (P:=P) (kt:=kt) (w:=w) hf (λa b ha hb=>(hd a b ha hb).2) (x::es) iB 0 h;obtain ⟨q,r,rfl,h1,h2,h3⟩:=h;have hn:aa4 d (dk s.st ks) (x::es) 0=none:=by simp [aa4,h2,(hd ks q hf h1).1]
   rw [aaD] at h0;simp only [abH,acA,run_underlying hu,BY,hn];exact h0
theorem lX.ks {s:MS}: ∀{es:List MapEntry} {ms:List MV} {n:Nat},es.length=ms.length->(∀(i:Nat) x m,es[i]? =some x->ms[i]? =some m->Wn s x m (n+i))->kP s es (ms.map lS)
 |[],[],_,_,_=>rfl
 |x::es,m::ms,n,hl,h=>by obtain ⟨h1,ks,v,rfl,h2,h3,_⟩:=h 0 x m rfl rfl;refine ⟨ks,ms.map lS,rfl,h2,h3,lX.ks (n:=n+1) (by simpa using hl) λi y q hy hq=> ?_⟩;have:=h (i+1) y q (by simpa using hy) (by simpa using hq);rwa [show n+1+i=n+(i+1) by omega]
 |[],_::_,_,hl,_=>by simp at hl
 |_::_,[],_,hl,_=>by simp at hl
theorem lX.iB {s:MS}{es:Array MapEntry}{n:Nat}{ms:List MV}(h:lX s es n ms):kP s es.toList (ms.map lS):=lX.ks (n:=0) (by simpa using h.size) (λi x m hx hm=>by rw [aaD];exact h.TN i x m (by simpa using hx) hm)
structure qK (s:MS) (w w':World):Prop where
 size:w.heap.size<=w'.heap.size
 ln: ∀(b:Nat) (o:Obj),w.heap[b]? =some o->w'.heap[b]? =some o\/ ∃es n Pe n' new iB,o=Obj.map es n/\w'.heap[b]? =some (Obj.map Pe n')/\Pe.toList=es.toList++new/\kP s new iB/\ ∀x∈new,x.val=uh s.b (ej s.b)
 rest:Rest w w'
theorem bX.m {w w':World}(s:MS)(h:bX w w'):qK s w w':=⟨h.size,λb o ho=> .inl (by rw [h.ln b (aC ho)];exact ho),h.rest⟩
theorem qK.trans {s:MS} {w w' tp:World}(h:qK s w w') (h':qK s w' tp):qK s w tp:=by
 refine ⟨aaP h.size h'.size,λb o ho=> ?_,h.rest.trans h'.rest⟩;rcases h.ln b o ho with h1|⟨es,n,es1,n1,new,iB,rfl,h1,h2,h3,h4⟩
 ·exact h'.ln b o h1
 ·rcases h'.ln b _ h1 with g1|⟨Pe,n',es2,n2,aeX,aeY,g0,g1,g2,g3,g4⟩
  ·exact .inr ⟨es,n,es1,n1,new,iB,rfl,g1,h2,h3,h4⟩
  ·simp only [Obj.map.injEq] at g0;obtain ⟨rfl,rfl⟩:=g0;refine .inr ⟨es,n,es2,n2,new++aeX,iB++aeY,rfl,g1,by rw [g2,h2,acj],h3.append g3,λx hx=> ?_⟩;rcases aas.1 hx with hx|hx
   ·exact h4 x hx
   ·exact g4 x hx
section
variable {P:Program}{c:Ctx}{Z:aO}{e:Env}{st:St}{a:Act} {w w':World}{R:Type}{K:St->Option R}{r:R}{Q:Exit->Act->World->Prop}{o:Oper}
theorem tu {s:MS}{sl:Slot}{v:Value} {K':Nat->List MV->Option R}(h:bg c Z e st a w)(hv:aa e v sl)(hK:Dx st s sl K'=some r): ∃root es arr n,ah st.fr root= .box [.mp s es]/\v= .map (some (e.B root))/\w.heap[e.B root]? =some (.map arr n)/\lX s arr n es/\(Z.bz root).In (e.B root)/\K' root es=some r:=by
 unfold Dx at hK;split at hK
 ·rename_i root;split at hK
  ·rename_i s' es mU;cases hm:ZP s s'&&!zp s' with
   |false=>simp [hm] at hK
   |true=>
    simp only [hm,cond_true] at hK;simp only [aQ,aaf] at hm;obtain ⟨hm,hit⟩:=hm;have:=Qt hm;subst this;have iw:=h.slot root;rw [mU] at iw;obtain ⟨ob,h1,h2⟩:=iw.2.obj;cases ob with
    |cells arr T z=>exact absurd h2.2.rJ (by simp [cR])
    |map arr n=>obtain ⟨s2,ms2,h3,_,h4⟩:=h2;simp only [No,ak.mp.injEq,and_true] at h3;obtain ⟨rfl,rfl⟩:=h3;exact ⟨root,es,arr,n,mU,by simpa [aa] using hv,h1,h4,iw.2.bt,hK⟩
    |stringIter x n=>have h3:_=[ak.mp MS.it _]:=h2;simp only [No,ak.mp.injEq,and_true] at h3;rw [h3.1] at hit;cases hit
    |_=>exact h2.elim
  ·cases hK
 ·cases hK
theorem xN {s:MS}{sl:Slot}{v:Value} {K':List MV->Option R}(hv:aa e v sl)(hK:HJ s sl K'=some r): ∃ks,v=dk s.st ks/\cf s.lay ks=true/\K' ks=some r:=by
 unfold HJ at hK;cases hf:cV s.lay (av sl)&&iu s.st sl with
 |false=>simp [hf] at hK
 |true=>
  simp only [hf,cond_true] at hK;simp only [aQ] at hf;cases hm:aW (av sl) with
  |none=>simp [hm] at hK
  |some ks=>simp only [hm] at hK;obtain ⟨h1,h2⟩:=X4 hv hf.1 hf.2 hm;exact ⟨ks,h1,h2,hK⟩
theorem H8 {s:MS}{es:List MV}{arr:Array MapEntry}{n:Nat}{ks:List MV}(hm:lX s arr n es): aa e ((((arr.toList[fw (es.map lS) ks]?).map λx=>x.val)).getD (uh s.b (ej s.b))) (xE s es ks):=by
 have Gr: ∀v:MV,Kn s.b v=true->(s.b=true/\v= .b (asB v))\/(s.b=false/\v= .i .i64 (asI v)):=by
  intro v hv;cases hb:s.b<;>rw [hb] at hv<;>cases v<;>simp [Kn] at hv
  ·rename_i k x;cases k<;>simp [Kn] at hv;exact .inr ⟨rfl,rfl⟩
  ·exact .inl ⟨rfl,rfl⟩
 unfold xE Wi Wh;rw [oP];cases ha:arr.toList[fw (es.map lS) ks]? with
 |none=>
  have:es[fw (es.map lS) ks]? =none:=by rw [List.getElem?_eq_none_iff] at ha⊢;have:=hm.size;simp at ha;omega
  rw [this];cases hb:s.b<;>simp [uh,ej,hb]
  ·exact lZ _ _
  ·exact qZ _
 |some x=>
  have cz:fw (es.map lS) ks<es.length:=by have h1:=(aaE.1 ha).1;have:=hm.size;simp at h1;omega
  obtain ⟨m,ZT⟩: ∃m,es[fw (es.map lS) ks]? =some m:=⟨_,IN cz⟩
  obtain ⟨_,q,v,rfl,_,_,h5,h6⟩:=hm.TN _ x m (by simpa using ha) ZT;rw [ZT];simp only [aat,Option.getD_some,h6,XC];rcases Gr v h5 with ⟨h7,h8⟩|⟨h7,h8⟩
  ·rw [h7,h8];exact qZ _
  ·rw [h7,h8];exact lZ _ _
theorem KG {t:TypeId}{s:MS}(ho:o.op= .makeMap t none)(hit:zp s=false)(h:bg c Z e st a w)(hK:aG c st o.dst (.box [.mp s []]) K=some r):o.wp P a w (Out c Z K r e.φ w) Q:=by
 have aV:(execOp a.eval o).run P w= .ok (.value (.map (some w.heap.size))) (w.alloc (.map #[] 0)):=by simp [execOp,ho,RowKit.run_makeMap,BY]
 have hg:bX w (w.alloc (.map #[] 0)):=by exact ⟨by simp,λb hb=>iR w _ b hb,⟨rfl,rfl,rfl⟩⟩
 refine fin aV (h.grow hg) (hg.trans h.bt _) ?_ hK;exact ⟨w.heap.size,by rw [PU (by simp [gn,hit])],⟨h.bt _ (aae _),⟨_,dm w _,s,[],rfl,hit,⟨rfl,rfl,λi x m hx=>by simp at hx⟩⟩,AJ h⟩,(tq h).1,(tq h).2⟩
theorem NE {t:TypeId}{s:MS}{m k:Operand}(ho:o.op= .lookup t m k false)(dU:L3 P t s)(h:bg c Z e st a w)(hK:Dx st s (aq c st m) (λ_ es=>HJ s (aq c st k) λks=>aG c st o.dst (xE s es ks) K)=some r):Rd P c Z K r e a w o (qK s w):=by
 obtain ⟨hm,_⟩:=h.eval m;obtain ⟨hk,_⟩:=h.eval k;obtain ⟨root,es,arr,n,h1,h2,h3,h4,_,hK⟩:=tu h hm hK;obtain ⟨ks,h5,h6,hK⟩:=xN hk hK;obtain ⟨kt,el,t1,t2,t3,d,t4,t5⟩:=dU.row;have Nt:=h4.iB;refine Kr (v:=(((arr.toList[fw (es.map lS) ks]?).map λx=>x.val)).getD (uh s.b (ej s.b))) (s:=xE s es ks) (λw' hg=> ?_) h (.refl _ _ _) (.of (H8 h4) ?_) hK
 ·have run: ∀(DH:Array MapEntry) (n':Nat) (iB:List (List MV)),w'.heap[e.B root]? =some (.map DH n')->kP s DH.toList iB-> (execOp a.eval o).run P w'= .ok (.value ((((DH.toList[fw iB ks]?).map λx=>x.val)).getD (uh s.b (ej s.b)))) w':=by
   intro DH n' iB g1 g2;have DD:=AV (P:=P) (w:=w') h6 t4 t5 g2;cases hx:DH.toList[fw iB ks]? with
   |none=>rw [hx] at DD;simp [execOp,ho,h2,h5,Instr.lookup,run_underlying t1,BY,aad g1,t3 _ ks _ h6,DD,t2]
   |some x=>rw [hx] at DD;simp [execOp,ho,h2,h5,Instr.lookup,run_underlying t1,BY,aad g1,t3 _ ks _ h6,DD]
  rcases hg.ln _ _ h3 with g1|⟨es1,n1,Pe,n',new,iB,g0,g1,g2,g3,g4⟩
  ·exact run arr n _ g1 Nt
  ·simp only [Obj.map.injEq] at g0;obtain ⟨rfl,rfl⟩:=g0;have aeZ:kP s Pe.toList (es.map lS++iB):=by rw [g2];exact Nt.append g3
   rw [run Pe n' _ g1 aeZ];have hl:=Nt.length;have key:((Pe.toList[fw (es.map lS++iB) ks]?).map λx=>x.val).getD (uh s.b (ej s.b))=((arr.toList[fw (es.map lS) ks]?).map λx=>x.val).getD (uh s.b (ej s.b)):=by
    have hfa: ∀l:List (List MV),(fw l ks<l.length->fw (l++iB) ks=fw l ks)/\(fw l ks=l.length->fw (l++iB) ks=l.length+fw iB ks):=by
     intro l;induction l with
     |nil=>simp [fw]
     |cons q l ih=>
      simp only [aaj,fw,acC];cases ei q ks with
      |true=>simp
      |false=>simp only [cond_false];exact ⟨λhh=>by rw [ih.1 (by omega)],λhh=>by rw [ih.2 (by omega)];omega⟩
    rw [g2];rcases Nat.lt_or_ge (fw (es.map lS) ks) (es.map lS).length with cz|Nw
    ·rw [(hfa _).1 cz,abF (by omega)]
    ·have ek:=Nat.le_antisymm (L4 (es.map lS) ks) Nw;rw [(hfa _).2 ek,ek,hl,abA (by omega),show arr.toList.length+fw iB ks-arr.toList.length=fw iB ks by omega,List.getElem?_eq_none (l:=arr.toList) (by omega)];cases hx:new[fw iB ks]? with
     |none=>rfl
     |some x=>simp [g4 x (List.mem_of_getElem? hx)]
   rw [key]
 ·unfold xE;cases s.b<;>trivial
theorem kQ {es:List MV}{i:Nat}{v:MV}:Dw es i v=match es[i]? with|some e=>es.set i (.cG [.agg (lS e),v])|none=>es:=rfl
theorem EK {b:Bool}{sl:Slot}{v:Value} {K':MV->Option R}(hv:aa e v sl)(hK:Nb b sl K'=some r): ∃m,Kn b m=true/\v=uh b m/\K' m=some r:=by
 unfold Nb at hK;split at hK
 ·rename_i x;exact ⟨.b x,rfl,by rw [yz hv];rfl,hK⟩
 ·rename_i n;exact ⟨.i .i64 n,rfl,by rw [ft hv];rfl,hK⟩
 ·cases hK
theorem O8.map {es:Array MapEntry}{n g:Nat}(hh:w.heap[g]? =some (.map es n))(Pe:Array MapEntry) (n':Nat):O8 g w {w with heap:=w.heap.setIfInBounds g (.map Pe n')}:=by exact ⟨by simp,λb hb=>by simp [Ne.symm hb],⟨rfl,rfl,rfl⟩⟩
theorem vZ {s:MS}{root:Nat}{es es2:List MV}{arr X5:Array MapEntry}{n n2:Nat} {K':St->Option R}(h:bg c Z e st a w)(h1:ah st.fr root= .box [.mp s es])(h3:w.heap[e.B root]? =some (.map arr n))(hz:(Z.bz root).In (e.B root))(h4:lX s X5 n2 es2)(hK:yx st root s es2 K'=some r): ∃w' bm,w'={w with heap:=w.heap.setIfInBounds (e.B root) (.map X5 n2)}/\bg c Z e bm a w'/\Trans Z e.φ w e.φ w'/\K' bm=some r:=by
 unfold yx wr at hK;cases hn:aP st.bI root with
 |true=>simp [hn] at hK
 |false=>
  simp only [hn,cond_false,force_eq,gV] at hK;have Hx:=O8.map h3 X5 n2;have hit:zp s=false:=by have iw:=h.slot root;rw [h1] at iw;obtain ⟨ob,k1,k2⟩:=iw.2.obj;rw [h3] at k1;cases k1;obtain ⟨s2,ms2,k3,k4,_⟩:=k2;simp only [No,ak.mp.injEq,and_true] at k3;rw [k3.1];exact k4
  refine ⟨_,_,rfl,?_,.chg _ Hx (Hu hz (by rw [<-h.defers.2.1,<-aN,hn];simp)),hK⟩;exact h.setObj h1 Hx (abI h3).1 ⟨s,es2,rfl,hit,h4⟩ rfl (λt=>by rw [a8]) (cD h.nodup)
theorem H9 {s:MS}{arr:Array MapEntry}{n:Nat}{es:List MV}{ks:List MV}(hm:lX s arr n es)(hf:cf s.lay ks=true){v:Value}{m:MV}(hv:Kn s.b m=true)(JU:v=uh s.b m): (∀x,arr[dY es ks]? =some x->x.key=dk s.st ks/\xD es ks (ej s.b)=es/\ lX s (arr.modify (dY es ks) λe=>{e with key:=dk s.st ks,val:=v}) n (Dw es (dY es ks) m)/\ lX s (arr.modify (dY es ks) λe=>{e with key:=dk s.st ks}) n es/\x.born=dY es ks)/\ (arr[dY es ks]? =none->dY es ks=es.length/\xD es ks (ej s.b)=es++[.cG [.agg ks,ej s.b]]/\ lX s (arr.push {key:=dk s.st ks,val:=v,born:=n}) (n+1) (Dw (xD es ks (ej s.b)) (dY es ks) m)):=by
 have jT:=hm.size;have hle:dY es ks<=es.length:=by rw [oP];have:=L4 (es.map lS) ks;simpa using this
 constructor
 ·intro x hx;have cz:dY es ks<es.length:=by have h1:=(Array.getElem?_eq_some_iff.1 hx).1;omega
  obtain ⟨m0,nj⟩: ∃m0,es[dY es ks]? =some m0:=⟨_,IN cz⟩
  obtain ⟨h1,q,v0,rfl,h2,h3,h4,h5⟩:=hm.TN _ x m0 hx nj;have hq:q=ks:=by refine Qy (iB:=es.map lS) ?_;rw [<-oP,aal,nj];rfl
  subst hq;have hb:By (dY es q) es.length=false:=by
   cases hb:By (dY es q) es.length with
   |false=>rfl
   |true=>have:=AI hb;omega
  refine ⟨h3,by simp [xD,hb],⟨by simp [kQ,nj,jT],by simp [kQ,nj,hm.clock],λi y p hy hp=> ?_⟩,⟨by simp [jT],hm.clock,λi y p hy hp=> ?_⟩,h1⟩
  ·rw [kQ,nj] at hp;simp only [aaw] at hy;simp only [List.getElem?_set] at hp;by_cases hi:dY es q=i
   ·subst hi;simp [hx] at hy;simp [cz] at hp;subst hy;subst hp;exact ⟨h1,q,m,rfl,h2,rfl,hv,JU⟩
   ·simp only [hi,if_false] at hy hp;exact hm.TN i y p hy hp
  ·simp only [aaw] at hy;by_cases hi:dY es q=i
   ·subst hi;simp [hx] at hy;rw [nj] at hp;cases hp;subst hy;exact ⟨h1,q,v0,rfl,h2,rfl,h4,h5⟩
   ·simp only [hi,if_false] at hy;exact hm.TN i y p hy hp
 ·intro hx;have Nw:dY es ks=es.length:=by
   have h1:arr.size<=dY es ks:=by simpa using hx
   omega
  have hb:By (dY es ks) es.length=true:=by rw [Nw];simp
  have Tl:xD es ks (ej s.b)=es++[.cG [.agg ks,ej s.b]]:=by simp [xD,hb]
  have zH:Dw (xD es ks (ej s.b)) (dY es ks) m=es++[.cG [.agg ks,m]]:=by rw [Tl,kQ,Nw];simp [lS]
  refine ⟨Nw,Tl,?_⟩;rw [zH];refine ⟨by simp [jT],by simp [hm.clock],λi y p hy hp=> ?_⟩;rcases Nat.lt_trichotomy i arr.size with hi|hi|hi
  ·rw [Array.getElem?_push_lt hi] at hy;rw [abF (by omega)] at hp;exact hm.TN i y p (by rw [<-hy];simp [hi]) hp
  ·subst hi;simp at hy;rw [jT] at hp;simp at hp;subst hy;subst hp;exact ⟨by show n=_;rw [hm.clock,jT],ks,m,rfl,hf,rfl,hv,JU⟩
  ·have:(arr.push {key:=dk s.st ks,val:=v,born:=n}).size<=i:=by simp;omega
   rw [Array.getElem?_eq_none this] at hy;cases hy
theorem L5 {s:MS}{arr:Array MapEntry}{n:Nat}{es:List MV}{ks:List MV}{kt:TypeId}{d:TypeDesc}(hm:lX s arr n es)(hf:cf s.lay ks=true)(t4:P.underlying kt=some d)(t5:(∀a b,cf s.lay a=true->cf s.lay b=true->aav d (dk s.st a) (dk s.st b)=some (ei b a))\/ (∀a b,cf s.lay a=true->cf s.lay b=true->aav d (dk s.st a) (dk s.st b)=none/\ ∀w:World,(ada kt (dk s.st a) (dk s.st b)).run P w= .ok (ei b a) w)): (abH kt (dk s.st ks) arr.toList).run P w= .ok ((arr[dY es ks]?).map λx=>(dY es ks,x.val)) w:=by have:=AV (P:=P) (w:=w) hf t4 t5 hm.iB;rw [<-oP] at this;simpa using this
theorem Gs {t:TypeId}{s:MS}{m k v:Operand}(ho:o.op= .mapUpdate t m k v)(dU:L3 P t s)(h:bg c Z e st a w)(hK:Dx st s (aq c st m) (λr es=>HJ s (aq c st k) λks=>Nb s.b (aq c st v) λv=>yx st r s (Dw (xD es ks (ej s.b)) (dY es ks) v) λst=>aG c st o.dst (.sc .un) K)=some r): o.wp P a w (Out c Z K r e.φ w) Q:=by
 obtain ⟨hm,_⟩:=h.eval m;obtain ⟨hk,_⟩:=h.eval k;obtain ⟨hv,_⟩:=h.eval v;obtain ⟨root,es,arr,n,h1,h2,h3,h4,hz,hK⟩:=tu h hm hK;obtain ⟨ks,h5,h6,hK⟩:=xN hk hK;obtain ⟨mv,h7,h8,hK⟩:=EK hv hK;obtain ⟨kt,el,t1,t2,t3,d,t4,t5⟩:=dU.row;have DD:=L5 (P:=P) (w:=w) h4 h6 t4 t5;obtain ⟨g1,g2⟩:=H9 h4 h6 h7 h8;cases hx:arr[dY es ks]? with
 |some x=>obtain ⟨k1,k2,k3,_,_⟩:=g1 x hx;rw [k2] at hK;obtain ⟨w',bm,rfl,hs,ht,hK⟩:=vZ h h1 h3 hz k3 hK;refine vU ?_ hs ht hK;simp [execOp,ho,h2,h5,Instr.mapUpdate,run_underlying t1,aad h3,t3 _ ks _ h6,DD,hx,k1,EJ h6,aam _ h3,BY]
 |none=>obtain ⟨k1,k2,k3⟩:=g2 hx;obtain ⟨w',bm,rfl,hs,ht,hK⟩:=vZ h h1 h3 hz k3 hK;refine vU ?_ hs ht hK;simp [execOp,ho,h2,h5,Instr.mapUpdate,run_underlying t1,aad h3,t3 _ ks _ h6,DD,hx,aam _ h3,BY]
theorem yI {t:TypeId}{s:MS}{m k:Operand}(ho:o.op= .mapEntry t m k)(dU:L3 P t s)(h:bg c Z e st a w)(hK:Dx st s (aq c st m) (λr es=>HJ s (aq c st k) λks=>yx st r s (xD es ks (ej s.b)) λst=>aG c st o.dst (.cG [xE s es ks,.sc (.p (.i .i64 (dY es ks)))]) K)=some r): o.wp P a w (λa' w'=>qK s w w'/\Out c Z K r e.φ w a' w') Q:=by
 obtain ⟨hm,_⟩:=h.eval m;obtain ⟨hk,_⟩:=h.eval k;obtain ⟨root,es,arr,n,h1,h2,h3,h4,hz,hK⟩:=tu h hm hK;obtain ⟨ks,h5,h6,hK⟩:=xN hk hK;obtain ⟨kt,el,t1,t2,t3,d,t4,t5⟩:=dU.row;have DD:=L5 (P:=P) (w:=w) h4 h6 t4 t5;have L6:Kn s.b (ej s.b)=true:=by cases s.b<;>rfl
 obtain ⟨g1,g2⟩:=H9 h4 h6 L6 rfl;have Tn:=H8 (e:=e) (ks:=ks) h4;rw [<-oP] at Tn;have Qz:uF (xE s es ks)=true:=by unfold xE;cases s.b<;>rfl
 have aa7: ∀(w':World) (bm:St) (u:Value),qK s w w'->(execOp a.eval o).run P w= .ok (.value (.tuple #[u,goInt (dY es ks)])) w'->bg c Z e bm a w'->Trans Z e.φ w e.φ w'-> aa e u (xE s es ks)->aG c bm o.dst (.cG [xE s es ks,.sc (.p (.i .i64 (dY es ks)))]) K=some r->o.wp P a w (λa' w'=>qK s w w'/\Out c Z K r e.φ w a' w') Q:=by
  intro w' bm u hg aV hs ht hu hK;unfold adD;rw [aV,abU];have iy:li Z e w' bm (.tuple #[u,goInt (dY es ks)]) (.cG [xE s es ks,.sc (.p (.i .i64 (dY es ks)))]):=by refine ⟨?_,trivial⟩;simp only [aa];exact ⟨_,rfl,u,[goInt (dY es ks)],rfl,hu,Qz,goInt (dY es ks),[],rfl,lZ _ _,rfl,rfl⟩
  obtain ⟨e2,cK,k1,k2,k3⟩:=bS hs iy hK;exact ⟨hg,e2,cK,k1,by rw [k3];exact ht,k2⟩
 cases hx:arr[dY es ks]? with
 |some x=>
  obtain ⟨k1,k2,_,k4,k5⟩:=g1 x hx;rw [k2] at hK;obtain ⟨w',bm,rfl,hs,ht,hK⟩:=vZ h h1 h3 hz k4 hK;have eo:arr.modify (dY es ks) (λe=>{e with key:=dk s.st ks})=arr:=by
   apply abw;intro i;rw [aaw];by_cases hi:dY es ks=i
   ·subst hi;simp only [if_true,hx,aat];rw [<-k1]
   ·simp [hi]
  refine aa7 _ _ x.val ?_ ?_ hs ht ?_ hK
  ·rw [eo];have:w.heap.setIfInBounds (e.B root) (.map arr n)=w.heap:=by
    apply abw;intro i;rw [Array.getElem?_setIfInBounds];by_cases hi:e.B root=i
    ·subst hi;rw [h3];simp [aC h3]
    ·simp [hi]
   rw [this];exact (bX.refl w).m s
  ·simp [execOp,ho,h2,h5,Instr.mapEntry,run_underlying t1,aad h3,t3 _ ks _ h6,DD,hx,k1,EJ h6,aam _ h3,BY,k5]
  ·have:arr.toList[dY es ks]? =some x:=by simpa using hx
   rw [this] at Tn;exact Tn
 |none=>
  obtain ⟨k1,k2,k3⟩:=g2 hx;have zH:Dw (xD es ks (ej s.b)) (dY es ks) (ej s.b)=xD es ks (ej s.b):=by rw [k2,kQ,k1];simp [lS]
  rw [zH] at k3;obtain ⟨w',bm,rfl,hs,ht,hK⟩:=vZ h h1 h3 hz k3 hK;refine aa7 _ _ (uh s.b (ej s.b)) ?_ ?_ hs ht ?_ hK
  ·have Hx:=O8.map h3 (arr.push {key:=dk s.st ks,val:=uh s.b (ej s.b),born:=n}) (n+1);refine ⟨by rw [Hx.size];exact aae _,λb ob hb=> ?_,Hx.rest⟩;by_cases KC:b=e.B root
   ·subst KC;rw [h3] at hb;cases hb;exact .inr ⟨arr,n,_,_,[{key:=dk s.st ks,val:=uh s.b (ej s.b),born:=n}],[ks],rfl,(abI h3).1,by simp,⟨ks,[],rfl,h6,rfl,rfl⟩,by simp⟩
   ·exact .inl (by rw [Hx.other b KC];exact hb)
  ·rw [hx] at DD;simp [execOp,ho,h2,h5,Instr.mapEntry,run_underlying t1,aad h3,t3 _ ks _ h6,DD,aam _ h3,BY,t2,k1];rw [h4.clock]
  ·have:arr.toList[dY es ks]? =none:=by simpa using hx
   rw [this] at Tn;exact Tn
theorem DM {t:TypeId}{s:MS}{m i v:Operand}(ho:o.op= .entryStore t m i v)(h:bg c Z e st a w)(hK:Dx st s (aq c st m) (λr es=>match aq c st i with
  | .sc (.p (.i .i64 n))=>aY (decide (0<=n/\n.toNat<es.length)) (Nb s.b (aq c st v) λv=>yx st r s (Dw es n.toNat v) λst=>aG c st o.dst (.sc .un) K)
  |_=>none)=some r):
 o.wp P a w (Out c Z K r e.φ w) Q:=by
 obtain ⟨hm,_⟩:=h.eval m;obtain ⟨hi,_⟩:=h.eval i;obtain ⟨hv,_⟩:=h.eval v;obtain ⟨root,es,arr,n,h1,h2,h3,h4,hz,hK⟩:=tu h hm hK;split at hK
 ·rename_i q hq;rw [hq] at hi;obtain ⟨hc,hK⟩:=cj hK;obtain ⟨xx,X6⟩:=of_decide_eq_true hc;obtain ⟨mv,h7,h8,hK⟩:=EK hv hK;have jT:=h4.size;obtain ⟨m0,nj⟩: ∃m0,es[q.toNat]? =some m0:=⟨_,IN X6⟩
  have cz:q.toNat<arr.size:=by omega
  have hx:arr[q.toNat]? =some arr[q.toNat]:=by simp [cz]
  obtain ⟨j1,ks,v0,rfl,j2,j3,j4,j5⟩:=h4.TN _ _ _ hx nj;have X7:lX s (arr.modify q.toNat λe=>{e with val:=a.eval v}) n (Dw es q.toNat mv):=by
   refine ⟨by simp [kQ,nj,jT],by simp [kQ,nj,h4.clock],λk y p hy hp=> ?_⟩;rw [kQ,nj] at hp;simp only [aaw] at hy;simp only [List.getElem?_set] at hp;by_cases hi:q.toNat=k
   ·subst hi;rw [hx] at hy;simp only [if_true,aat,AT] at hy;simp [X6] at hp;subst hy;subst hp;exact ⟨j1,ks,mv,rfl,j2,j3,h7,h8⟩
   ·simp only [hi,if_false] at hy hp;exact h4.TN k y p hy hp
  have Uj:arr.findIdx? (λe=>(e.born:Int)==q)=some q.toNat:=by
   rw [Array.findIdx?_eq_some_iff_findIdx_eq];refine ⟨cz,?_⟩;rw [Array.findIdx_eq cz];refine ⟨by simp [j1];omega,λk hk=> ?_⟩;have ZZ:k<arr.size:=by omega
   obtain ⟨m1,hm1⟩: ∃m1,es[k]? =some m1:=⟨_,IN (by omega)⟩
   obtain ⟨b1,_⟩:=h4.TN k arr[k] m1 (by simp [ZZ]) hm1;simp [b1];omega
  obtain ⟨w',bm,rfl,hs,ht,hK⟩:=vZ h h1 h3 hz X7 hK;refine vU ?_ hs ht hK;have hiv:=ft hi;simp only [execOp,ho,h2,hiv,Instr.entryStore,acA,aad h3,asInt,asIntOf,Sem.run_pure,BY];rw [Uj];simp [aam _ h3,BY]
 ·cases hK
theorem Uk {x:Operand}(ho:o.op= .assign x)(h:bg c Z e st a w)(hK:zY c o st x (λs st=>aG c st o.dst s K)=some r):o.wp P a w (λa' w'=>bX w w'/\Out c Z K r e.φ w a' w') Q:=by
 have plain:aG c st o.dst (aq c st x) K=some r->o.wp P a w (λa' w'=>bX w w'/\Out c Z K r e.φ w a' w') Q:=by intro hK;obtain ⟨v,h1,h2⟩:=Gd (P:=P) (.inr ho) h hK;unfold adD;rw [h1 w trivial,abU];exact ⟨.refl w,h2⟩
 unfold zY at hK;split at hK
 ·rename_i t _ _;split at hK
  ·rename_i cs mU;cases hm:cR cs with
   |false=>simp only [hm,cond_false] at hK;exact plain hK
   |true=>
    simp only [hm,cond_true] at hK;cases hnp:aP st.bI t||ru t with
    |true=>simp [hnp] at hK
    |false=>
     obtain ⟨hn,XJ⟩:=OF.1 hnp;simp only [hnp,cond_false,yy] at hK;have iw:=h.slot t;rw [mU] at iw;have h1:=h.drop (ds:=[t]);have hg:=AE [t] st.fr h.nodup;have nR: ∀t' dj,ah (iL [t] st.fr) t'= .box dj->t'≠t/\ah st.fr t'= .box dj:=by
      intro t' dj ht;rw [hg] at ht;split at ht
      ·cases ht
      ·rename_i cg;refine ⟨λhe=>cg ?_,ht⟩;subst he;simp [aP]
     have iy:li Z e w {st with fr:=iL [t] st.fr} (a.eval (.tmp t)) (.box cs):=by refine ⟨e.B t,iw.1.1 XJ,⟨Hu iw.2.bt (by rw [<-h.defers.2.1,<-aN,hn];simp),iw.2.obj,iw.2.free⟩,λt' dj ht=> ?_,λf o ho=>h.bf t cs f o mU ho⟩;obtain ⟨g1,g2⟩:=nR t' dj ht;exact h.bb t' t dj cs g2 mU g1
     exact Kq (w':=w) (.refl w) (by simp [execOp,ho]) h1 (.refl _ _ _) iy hK
  ·exact plain hK
 ·exact plain hK
end
end Dn
/-
  What goes through a string; a text of a row of bytes. Conditions: none.
-/
namespace Dn
open Go
section
variable {P:Program}{c:Ctx}{Z:aO}{e:Env}{st:St}{a:Act} {w w':World}{R:Type}{K:St->Option R}{r:R}{Q:Exit->Act->World->Prop}{o:Oper}
theorem Ul {t:Nat}{s:MS}(h:oz c t=some s):zp s=false:=by
 unfold oz at h;split at h
 ·split at h
  ·rename_i I _;cases hi:zp ⟨I.st,I.lay,_⟩ with
   |true=>rw [hi] at h;cases h
   |false=>rw [hi] at h;cases h;exact hi
  ·cases h
 ·cases h
theorem QA {t:TypeId}{x:Operand}{I:TI}(ho:o.op= .range t x)(hI:c.tv t=some I)(hT:dt P c.ti)(h:bg c Z e st a w)(hK:Kh I (aq c st x) (λs=>aG c st o.dst s K)=some r):o.wp P a w (Out c Z K r e.φ w) Q:=by
 obtain ⟨fH,hc⟩:=aD hI;obtain ⟨hx,_⟩:=h.eval x;generalize aq c st x=s' at hx hK;unfold Kh at hK;split at hK
 ·rename_i l;cases hS:I.J8 with
  |false=>simp [hS] at hK
  |true=>
   simp only [hS,cond_true] at hK;have hu:=TI.xJ (hT t I fH) hS;obtain ⟨b,hb,rfl⟩:=vV hx;have aV:(execOp a.eval o).run P w= .ok (.value (.pointer (some ⟨w.heap.size,0,none⟩))) (w.alloc (.stringIter b 0)):=by simp [execOp,ho,hb,run_range_string w t b hu,World.iter,BY]
   have hg:bX w (w.alloc (.stringIter b 0)):=by exact ⟨by simp,λk hk=>iR w _ k hk,⟨rfl,rfl,rfl⟩⟩
   refine fin aV (h.grow hg) (hg.trans h.bt _) ?_ hK;exact ⟨w.heap.size,by rw [Ko rfl],⟨h.bt _ (aae _),⟨_,dm w _,rfl⟩,AJ h⟩,(tq h).1,(tq h).2⟩
 ·cases hK
theorem O8.iter {s:ByteArray}{n g:Nat}(hh:w.heap[g]? =some (.stringIter s n)) (n':Nat):O8 g w {w with heap:=w.heap.setIfInBounds g (.stringIter s n')}:=by exact ⟨by simp,λb hb=>by simp [Ne.symm hb],⟨rfl,rfl,rfl⟩⟩
theorem Um {x:Operand}(ho:o.op= .next x true)(h:bg c Z e st a w)(hK:itK st (aq c st x) (λs st=>aG c st o.dst s K)=some r):o.wp P a w (Out c Z K r e.φ w) Q:=by
 obtain ⟨hx,_⟩:=h.eval x;generalize aq c st x=s' at hx hK;unfold itK at hK;split at hK
 ·rename_i t;split at hK
  ·rename_i s es mU;cases hit:zp s with
   |false=>simp [hit] at hK
   |true=>
    simp only [hit,cond_true] at hK;have iw:=h.slot t;rw [mU] at iw;obtain ⟨ob,h1,h2⟩:=iw.2.obj;cases ob with
    |cells arr T z=>exact absurd h2.2.rJ (by simp [cR])
    |map arr n=>obtain ⟨s2,ms2,h3,h4,_⟩:=h2;simp only [No,ak.mp.injEq,and_true] at h3;rw [h3.1,h4] at hit;cases hit
    |stringIter b pos=>
     have h3:_=[ak.mp MS.it _]:=h2;simp only [No,ak.mp.injEq,and_true] at h3;obtain ⟨rfl,rfl⟩:=h3;simp only [aa] at hx;cases X7:TH [.s b.data.toList,.i .i64 (pos:Int)] with
     |true=>
      rw [X7] at hK;simp only [bT] at hK;have cz:pos<b.size:=by simpa [TH,uE,Wl] using X7
      unfold wr at hK;cases hn:aP st.bI t with
      |true=>simp [hn] at hK
      |false=>
       simp only [hn,cond_false,force_eq,gV] at hK;have hb:(⟨b.data.toList.toArray⟩:ByteArray)=b:=by cases b;simp
       have Hx:=O8.iter h1 (pos+(acL b pos).2);have hs:=h.setObj (dj:=[.mp MS.it (Kg [.s b.data.toList,.i .i64 (pos:Int)])]) mU Hx (abI h1).1 (by show _=_;simp [Kg,Wl,uE,hb]) rfl (λt=>by rw [a8]) (cD h.nodup);have aV:(execOp a.eval o).run P w= .ok (.value (.tuple #[.bool true,.int .i64 pos,.int .i32 (acL b pos).1])) {w with heap:=w.heap.setIfInBounds (e.B t) (.stringIter b (pos+(acL b pos).2))}:=by simp [execOp,ho,hx,Instr.next,getObj,setObj,adH,h1,cz,BY,goInt]
       refine fin (s:= .cG [.sc (.p (.b true)),.sc (.p (.i .i64 (uE [.s b.data.toList,.i .i64 (pos:Int)]))),.sc (.p (.i .i32 (Kf [.s b.data.toList,.i .i64 (pos:Int)])))]) aV hs (.chg _ Hx (Hu iw.2.bt (by rw [<-h.defers.2.1,<-aN,hn];simp))) ⟨?_,trivial⟩ hK;simp only [aa,uE,Kf,Wl,hb,Int.toNat_natCast];exact ⟨_,rfl,.bool true,_,rfl,qZ _,rfl,goInt pos,_,rfl,lZ _ _,rfl,_,[],rfl,lZ _ _,rfl,rfl⟩
     |false=>
      rw [X7] at hK;simp only [bT] at hK;have cz: ¬pos<b.size:=by simpa [TH,uE,Wl] using X7
      have aV:(execOp a.eval o).run P w= .ok (.value (.tuple #[.bool false])) w:=by simp [execOp,ho,hx,Instr.next,getObj,setObj,adH,h1,cz,BY,goInt]
      refine fin (s:= .cG [.sc (.p (.b false))]) aV h (.refl _ _ _) ⟨?_,trivial⟩ hK;simp only [aa];exact ⟨_,rfl,.bool false,_,rfl,qZ _,rfl,rfl⟩
    |_=>exact h2.elim
  ·cases hK
 ·cases hK
theorem EL {R:Type}{r:R}: ∀{xs:List MV} {K:List UInt8->Option R},zu xs K=some r-> ∃ns:List Int,xs=ns.map (MV.i .u8)/\K (ns.map λn=>acP n.toNat)=some r:=by
 intro xs;induction xs with
 |nil=>intro K h;exact ⟨[],rfl,h⟩
 |cons m xs ih=>
  intro K h;simp only [zu,byK] at h;cases m with
  |i k n=>
   simp only [gI] at h;by_cases hk:k= .u8
   ·subst hk;simp only [decide_true,cond_true] at h;obtain ⟨_,h1⟩:=cj h;obtain ⟨ns,hx,h2⟩:=ih h1;exact ⟨n::ns,by rw [hx];rfl,h2⟩
   ·simp [hk] at h
  |_=>simp [gI] at h
theorem QB {y t:TypeId}{x:Operand}{Y I:TI}(ho:o.op= .convert y t x)(hY:c.tv y=some Y)(hI:c.tv t=some I)(hL:Y.pH=true)(hT:dt P c.ti)(h:bg c Z e st a w)(hK:PB c st Y I (aq c st x) (λs=>aG c st o.dst s K)=some r):Rd P c Z K r e a w o (bX w):=by
 obtain ⟨hyi,_⟩:=aD hY;obtain ⟨fH,_⟩:=aD hI;obtain ⟨hx,_⟩:=h.eval x;generalize aq c st x=s' at hx hK;obtain ⟨hu,_⟩:=TI.fJ (hT y Y hyi) hL;unfold PB at hK;cases hE:c.tv Y.elem with
 |none=>simp [hE] at hK
 |some E=>
  obtain ⟨fR,_⟩:=aD hE;simp only [hE] at hK;cases Qk:I.J8&&J9 E with
  |false=>simp [Qk] at hK
  |true=>
   simp only [Qk,cond_true] at hK;simp only [aQ] at Qk;have hd:=TI.xJ (hT t I fH) Qk.1;obtain ⟨he,jT⟩:=Gj (hT _ E fR) Qk.2;have go: ∀(ns:List Int),(∀w':World,bX w w'->(convert y t (a.eval x)).run P w'= .ok (.string (strOfNums ns)) w')->aG c st o.dst (.sc (.p (.s (ns.map λn=>acP n.toNat)))) K=some r-> Rd P c Z K r e a w o (bX w):=by intro ns aV hK;refine Kr (s:= .sc (.p (.s (ns.map λn=>acP n.toNat)))) (v:= .string (strOfNums ns)) (λw' hg=>by simp [execOp,ho,aV w' hg,BY]) h (.refl _ _ _) (.of ?_ trivial) hK;rw [<-strOfNums_data];exact TR _
   have ae0:a.eval x= .slice none 0 0->aG c st o.dst (.sc (.p (.s []))) K=some r->Rd P c Z K r e a w o (bX w):=by intro hv hK;refine go [] (λw' hg=> ?_) hK;rw [hv,run_convert_bytes_nil w' y _ hu he 0 0 t hd];rfl
   split at hK
   ·rename_i xs;obtain ⟨ns,QC,q8⟩:=EL hK;refine go ns (λw' hg=> ?_) q8;clear hK;subst QC;simp only [aa,aw] at hx;obtain ⟨_,hx⟩:=hx;generalize hv:[a.eval x]=vs at hx;cases hx;rename_i ad cap aA off xt f h1 h2 h3 h4 h5;simp only [No,and_true] at hv;rw [hv];have hlen:(ns.map (MV.i .u8)).length=ns.length:=aap ..;have h5: ∀(i:Nat) (hi:i<ns.length),dI e.key e.φ (f i) (.i .u8 ns[i]):=λi hi=>by have:=h5 i (by rw [hlen];exact hi);rwa [acF] at this
    rw [hlen] at h1 h2 h3 h4⊢;cases ns with
    |nil=>rw [run_convert_bytes_string w' y t _ _ _ _ hu he hd];cases ad<;>simp [Conv.bytesToString,loadCells,loadCellsFrom,BY,strOfNums]<;>rfl
    |cons n ns=>
     have h5': ∀(i:Nat) (hi:i<(n::ns).length),f i=[.int .u8 (n::ns)[i]]:=by intro i hi;have:=h5 i hi;generalize f i=q at this;cases this;rfl
     have ae1:xt=1:=by rw [<-h3 0 (by simp),h5' 0 (by simp)];rfl
     subst ae1;rw [h2 (by simp)];refine run_convert_bytes_arg w' y _ hu he aA off _ cap (n::ns) rfl (λi hi=> ?_) t hd;have h6:=h4 i 0 hi (by omega);rw [h5' i hi] at h6;simp only [Nat.mul_one,Nat.add_zero,acC,Nat.zero_lt_succ,List.getElem?_cons_zero] at h6;rw [hg.cell (h.fB _ _ _ h6),abC,IN hi];rfl
   ·refine ae0 ?_ hK;simpa [aa,aw] using hx
   ·rename_i f;cases hf:ar st.az f with
    |none=>simp [hf] at hK
    |some ow=>
     simp only [hf] at hK;cases dU:By ow.ty Y.elem with
     |false=>simp [dU] at hK
     |true=>
      simp only [dU,cond_true] at hK;have dU:=AI dU;obtain ⟨ns,QC,q8⟩:=EL hK;clear hK;obtain ⟨hv,_⟩:=lB h hx hf;refine go ns (λw' hg=> ?_) q8;obtain ⟨J,cells,k1,k2,k3,k4,k5⟩:=(h.dV f ow hf).row;rw [dU,fR] at k1;cases k1;rw [jT] at k3 k4;rw [QC] at k3 k4;have aX: ∀(ns:List Int) (cells:List Value),aB e.key e.φ 1 cells (ns.map (MV.i .u8))->cells=ns.map (adC .u8):=by
       intro ns;induction ns with
       |nil=>intro cells hc;exact hc
       |cons n ns ih=>intro cells hc;obtain ⟨v,q,rfl,_,hr,hc⟩:=hc;cases hr;rw [ih _ hc];rfl
      have hce:=aX _ _ k4;subst hce;rw [hv];rw [aap] at k3;rcases k3.2 with ⟨q1,q2⟩|⟨g,cap,bU,q1,_,q2,q3,q4,q5,q6⟩
      ·have:ns=[]:=abe q2;subst this;rw [q1,run_convert_bytes_nil w' y _ hu he 0 0 t hd];rfl
      ·rw [q1];refine run_convert_bytes_arg w' y _ hu he g 0 _ cap ns rfl (λi hi=> ?_) t hd;refine hg.cell ?_;rw [aaD,cell_of q2];have KA:(bU.toList.take (ns.length *1))[i]? =some (.int .u8 (ns.getD i 0)):=by rw [q6,aal,abC,IN hi];rfl
       rw [aaO] at KA;split at KA
       ·simpa using KA
       ·cases KA
   ·cases hK
end
end Dn
/-
  Slices of new elements. Conditions: none.
-/
namespace Dn
open Go
section
variable {P:Program}{c:Ctx}{Z:aO} {e e':Env}{st:St}{a:Act} {w w':World}{R:Type}{K:St->Option R}{r:R}{Q:Exit->Act->World->Prop}{o:Oper}
theorem QD {t:TypeId}{I:TI}(hI:c.tv t=some I)(hT:dt P c.ti): ∃i z,P.info? t=some i/\i.zero=some z/\ai e z.cells.toList I.zero:=by
 obtain ⟨fH,hc⟩:=aD hI;obtain ⟨d,i,h1,h2,h3,h4⟩:=hT t I fH;suffices hz: ∃z,i.zero=some z/\ai e z.cells.toList I.zero by obtain ⟨z,h5,h6⟩:=hz;exact ⟨i,z,h2,h5,h6⟩
 cases d<;>simp only [kM] at h4;case struct fs=>obtain ⟨_,_,_,_,_,_,cs,hz,hl,_⟩:=h4;exact ⟨_,hz,by simpa [abc] using gq hl⟩
 case tuple ts=>exact absurd hc h4.2.1
 case slice el=>obtain ⟨_,_,_,_,_,hz,hl,_⟩:=h4;exact ⟨_,hz,by rw [hl];exact ⟨[.slice none 0 0],[],rfl,rfl,rfl⟩⟩
 case array n el=>obtain ⟨_,_,_,_,k,m,_,_,_,hl,hz⟩:=h4;exact ⟨_,hz,by rw [hl];exact ⟨aX k (zA m),[],by simp [abc],⟨rfl,by simp⟩,rfl⟩⟩
 case bool=>obtain ⟨_,_,_,_,hl,hz⟩:=h4;exact ⟨_,hz,by rw [hl];exact ⟨[.bool false],[],rfl,⟨rfl,.b _⟩,rfl⟩⟩
 case int k=>obtain ⟨_,_,_,_,hl,hz⟩:=h4;exact ⟨_,hz,by rw [hl];exact ⟨[.int k 0],[],rfl,⟨rfl,.i _ _⟩,rfl⟩⟩
 case string=>obtain ⟨_,_,_,_,hl,b,hz,hb⟩:=h4;refine ⟨_,hz,by rw [hl];refine ⟨[.string b],[],rfl,⟨rfl,?_⟩,rfl⟩;rw [<-hb];exact .s b⟩
 all_goals
  obtain ⟨_,_,_,_,v,hz,hv,hl⟩:=h4;refine ⟨v,hz,?_⟩;have:v.cells.toList=[v]:=by cases v<;>simp_all [abc,ac7]
  rw [this];exact gq hl
theorem ai.aa9 {cs:List ak}: ∀{vs:List Value} {ms:List MV},ai e vs cs->rB cs=some ms->dq e.key e.φ vs ms:=by
 induction cs with
 |nil=>intro vs ms h hm;cases h;simp [rB] at hm;subst hm;exact .nil
 |cons l r ih=>
  intro vs ms h hm;obtain ⟨v,u,rfl,h1,h2⟩:=h;cases hr:rB r with
  |none=>cases l<;>simp [rB,hr] at hm
  |some q=>
   cases l<;>simp [rB,hr] at hm
   ·subst hm;exact .cons v _ u q h1.2 (ih h2 hr)
   ·subst hm;obtain ⟨rfl,hx⟩:=h1;exact .cons _ _ u q (.h _ _ _ hx) (ih h2 hr)
   ·subst hm;have h1:v=[.slice none 0 0]:=h1;subst h1;exact .cons _ _ u q (.list none 0 [] 0 0 0 (λ_=>[]) (aae _) (λh=>absurd h (Nat.lt_irrefl _)) (λ_ h=>absurd h (abV _)) (λ_ _ h=>absurd h (abV _)) (λ_ h=>absurd h (abV _))) (ih h2 hr)
theorem NF {b:Bool}{ms:List MV}{x:MV}{vs:List Value}(h:dq e.key e.φ vs ms)(hx:nQ b ms=some x):dI e.key e.φ vs x:=by
 cases b with
 |true=>cases ms<;>simp [nQ] at hx<;>subst hx<;>exact .agg _ _ h
 |false=>
  cases ms with
  |nil=>simp [nQ] at hx
  |cons m ms=>
   cases ms with
   |cons y ys=>simp [nQ] at hx
   |nil=>
    simp [nQ] at hx;subst hx;generalize oK:vs=DF at h;cases h with
    |cons v _ u _ h1 h2=>cases h2;simpa using h1
theorem EM (z:Array Value)(hz:0<z.size): ∀n:Nat,(madeCells z (n *z.size)).toList=(aaa n z.toList).flatten
 |0=>by simp [madeCells]
 |n+1=>by
  have ih:=EM z hz n;unfold madeCells at ih⊢;rw [aa0,Array.toList_range] at ih⊢;rw [acv,List.range_add,List.map_append,ih,List.replicate_succ',abZ];congr 1;simp only [List.flatten_cons,List.flatten_nil,ac6,List.map_map];apply acB;intro k;rw [aal];by_cases hk:k<z.size
  ·rw [ab0 hk];simp only [aat,Function.comp];rw [show (n *z.size+k)%z.size=k by rw [Nat.mul_comm,Nat.mul_add_mod,Nat.mod_eq_of_lt hk]];simp [hk]
  ·simp [hk,show z.size<=k by omega]
theorem uJ {key:Nat->Nat} {φ:Ph}{size:Nat}{vs:List Value}{x:MV}(hl:vs.length=size)(h:dI key φ vs x): ∀n,aB key φ size (aaa n vs).flatten (aaa n x)
 |0=>rfl
 |n+1=>⟨vs,(aaa n vs).flatten,by simp [ab1],hl,h,uJ hl h n⟩
theorem rT {α:Type}(l:List α): ∀n,(aaa n l).flatten.length=n *l.length
 |0=>by simp
 |n+1=>by rw [ab1,List.flatten_cons,ab9,rT l n,acv,acx]
theorem Gt {t:TypeId}{x y:Operand}{I E:TI}(ho:o.op= .makeSlice t x y)(hI:c.tv t=some I)(hL:I.pH=true)(hE:c.tv I.elem=some E)(hT:dt P c.ti)(h:bg c Z e st a w)(hK:Pq (o.dst.getD 0) st I E (aq c st x) (aq c st y) (λs st=>aG c st o.dst s K)=some r): o.wp P a w (λa' w'=>bX w w'/\Out c Z K r e.φ w a' w') Q:=by
 obtain ⟨fH,hc⟩:=aD hI;obtain ⟨fR,iT⟩:=aD hE;obtain ⟨hu,E2,ot,_,cU⟩:=TI.fJ (hT t I fH) hL;rw [fR] at ot;cases ot;obtain ⟨hx,_⟩:=h.eval x;obtain ⟨hy,_⟩:=h.eval y;generalize aq c st x=sx at hx hK;generalize aq c st y=sy at hy hK;unfold Pq at hK;split at hK;rotate_left
 ·cases hK
 rename_i k1 n k2 m;cases hb:acd 1 E.bytes with
 |false=>simp [hb] at hK
 |true=>
 simp only [hb,cond_true] at hK;have hb:=aaW hb;obtain ⟨hn,hK'⟩:=cj hK;clear hK;have hK:=hK';clear hK';have hn:=of_decide_eq_true hn;obtain ⟨h0,Z3,fa⟩:=hn;cases Ds:rB E.zero with
 |none=>simp [Ds] at hK
 |some zs=>
 simp only [Ds] at hK;cases XY:nQ E.st zs with
 |none=>simp [XY] at hK
 |some z0=>
 simp only [XY] at hK;obtain ⟨i,z,hi,hz,Qw⟩:=QD (e:=e) hE hT;obtain ⟨i',z',hi',hs,Pc,Z4,NG⟩:=eF (hT _ E fR) iT;rw [hi] at hi';cases hi';rw [hz] at Z4;cases Z4;have cM:dI e.key e.φ z.cells.toList z0:=NF (Qw.aa9 Ds) XY;have ev1:a.eval x= .int k1 n:=ft hx;have ev2:a.eval y= .int k2 m:=ft hy;have TQ:m<=m *(E.bytes:Int):=by have:m *1<=m *(E.bytes:Int):=Int.mul_le_mul_of_nonneg_left (by omega) (by omega);omega
 have aba:=run_make (P:=P) w t I.elem i z hu hi hz k1 k2 n m h0 Z3 (by rw [Pc,Int.mul_comm];omega) (by omega);have aV:(execOp a.eval o).run P w= .ok (.value (.slice (some ⟨w.heap.size,0,none⟩) n.toNat m.toNat)) (w.alloc (.cells (madeCells z.cells (m.toNat *i.size)) I.elem)):=by simp [execOp,ho,ev1,ev2,aba]
 rw [hs,<-NG] at aV;have abb:n.toNat<=m.toNat:=by omega
 have hg:bX w (w.alloc (.cells (madeCells z.cells (m.toNat *z.cells.size)) I.elem)):= .alloc w _ _;have X8:(madeCells z.cells (m.toNat *z.cells.size)).toList=(aaa m.toNat z.cells.toList).flatten:=EM _ (by rw [NG];exact cU) _;have L0:(madeCells z.cells (m.toNat *z.cells.size)).toList.take (n.toNat *E.size)=(aaa n.toNat z.cells.toList).flatten:=by
  have hl:(aaa n.toNat z.cells.toList).flatten.length=n.toNat *E.size:=by rw [rT,abj,NG]
  have hr:aaa m.toNat z.cells.toList=aaa n.toNat z.cells.toList++aaa (m.toNat-n.toNat) z.cells.toList:=by rw [List.replicate_append_replicate];congr 1;omega
  rw [X8,hr,abZ,<-hl,ac9]
 have dL:=uJ (size:=E.size) (by rw [abj];exact NG) cM n.toNat;rw [<-L0] at dL;have hlen:(aaa n.toNat z0).length=n.toNat:=List.length_replicate;have jT:(madeCells z.cells (m.toNat *z.cells.size)).toList.length=m.toNat *E.size:=by rw [abj,size_madeCells,NG]
 have yE: ∀off,e.φ w.heap.size off=none:=by
  intro off;cases hp:e.φ w.heap.size off with
  |none=>rfl
  |some u=>have:=aah w _ (h.fB _ _ _ hp);simp at this
 have rK:=h.Wr hK;have hK:=jk hK;have db:bw c Z.nc e (w.alloc (.cells (madeCells z.cells (m.toNat *z.cells.size)) I.elem)) (.slice (some ⟨w.heap.size,0,none⟩) n.toNat m.toNat) ⟨I.elem,false,aaa n.toNat z0⟩:=by
  refine ⟨E,_,fR,iT,⟨?_,.inr ⟨w.heap.size,m.toNat,_,?_,adF _,dm w _,?_,?_,?_,?_⟩⟩,dL,?_⟩
  ·have:=aa6 E.size abb;rw [abL,jT,hlen];omega
  ·rw [hlen]
  ·rw [hlen];exact abb
  ·simp [Go.maxLen];omega
  ·simp [size_madeCells,NG]
  ·show List.take _ _=_;rw [hlen]
  ·intro aA et;simp [AS] at et;subst et;refine ⟨h.bt _ (aae _),λoff u hu=>(by rw [yE] at hu;cases hu),λhc=>aaN hc⟩
 have gx:=h.dW (f:=o.dst.getD 0) rK db hg.size (λb z7 _=>hg.ln b z7) (λb off u hu=>hg.cell (h.fB b off u hu)) (λb et=>by simp [AS] at et;exact .inl (by omega));exact Kq (s:= .sc (.own (o.dst.getD 0))) hg aV gx (hg.trans h.bt _) (.of (kN rfl) trivial) hK
end
end Dn
/-
  Variables that are handed to functions. Conditions: none.
-/
namespace Dn
open Go
def L7:List (Nat×Nat)->Nat->Nat
 |[],_=>0
 |(f,x)::r,g=>if f=g then x else L7 r g
def Gu (E:Nat->Value)(ps:List (Nat×Nat))(f:Nat):Value:=match L7 ps f with
 |0=> .slice none 0 0
 |g+1=>E g
structure Gv (ps:List (Nat×Nat)):Prop where
 fn: ∀f x y,(f,x)∈ps->(f,y)∈ps->x=y
 inj: ∀f f' g,(f,g+1)∈ps->(f',g+1)∈ps->f=f'
theorem Gv.nil:Gv []:=⟨λ_ _ _ h=>by simp at h,λ_ _ _ h=>by simp at h⟩
theorem tw {ps:List (Nat×Nat)}(h:Gv ps){f x:Nat}(hm:(f,x)∈ps):L7 ps f=x:=by
 have Z5:=h.fn;clear h;induction ps with
 |nil=>simp at hm
 |cons p ps ih=>
  obtain ⟨a,b⟩:=p;unfold L7;by_cases ha:a=f
  ·subst ha;rw [if_pos rfl];exact Z5 a b x (by simp) hm
  ·rw [if_neg ha];rcases sh.1 hm with h1|h1
   ·simp only [aac] at h1;exact absurd h1.1.symm ha
   ·exact ih h1 (λf x y h1 h2=>Z5 f x y (by simp [h1]) (by simp [h2]))
theorem KH {ps:List (Nat×Nat)}{f g:Nat}(h:iv ps f g=true):(∀b,(f,b)∈ps->b=g/\g≠0)/\(∀x,(x,g)∈ps->x≠f->g=0):=by
 induction ps with
 |nil=>simp
 |cons p ps ih=>
  obtain ⟨x,y⟩:=p;simp only [iv,aQ,cY] at h;obtain ⟨h1,h2⟩:=h;obtain ⟨i1,i2⟩:=ih h2;refine ⟨?_,?_⟩
  ·intro b hb;rcases sh.1 hb with hb|hb
   ·cases hb;simp at h1;exact ⟨h1.1,h1.2⟩
   ·exact i1 b hb
  ·intro z hz cg;rcases sh.1 hz with hz|hz
   ·cases hz;simp [cg] at h1;exact h1
   ·exact i2 z hz cg
theorem Gv.add {ps:List (Nat×Nat)}{f g:Nat}(h:Gv ps)(hp:iv ps f g=true):Gv ((f,g)::ps):=by
 obtain ⟨p1,p2⟩:=KH hp;refine ⟨λa x y hx hy=> ?_,λa b k hx hy=> ?_⟩
 ·rcases sh.1 hx with hx|hx<;>rcases sh.1 hy with hy|hy
  ·cases hx;cases hy;rfl
  ·cases hx;exact (p1 y hy).1.symm
  ·cases hy;exact (p1 x hx).1
  ·exact h.fn a x y hx hy
 ·rcases sh.1 hx with yB|yB<;>rcases sh.1 hy with hy1|hy1
  ·cases yB;cases hy1;rfl
  ·cases yB;by_cases hb:b=f
   ·exact hb.symm
   ·have:=p2 b hy1 hb;omega
  ·cases hy1;by_cases hb:a=f
   ·exact hb
   ·have:=p2 a yB hb;omega
  ·exact h.inj a b k yB hy1
inductive TC (st:St):List (Nat×Nat)->List LK->List ak->List MV->List (Nat×Nat)->Prop
 |nil (ps):TC st ps [] [] [] ps
 |Gw {ps ks ls ms eU}:TC st ps ks ls ms eU->TC st ps (.k .l::ks) (.nil::ls) (.list []::ms) eU
 |hs {ps ks ls ms eU} (k:IntKind) (n:Nat) (x:List Int):TC st ps ks ls ms eU->TC st ps (.k (.h k n)::ks) (.hs k n x::ls) (.h k n x::ms) eU
 |p {ps ks ls ms eU} (x:Kd) (m:MV) (l':ak):eA x m some=some l'->TC st ps ks ls ms eU->TC st ps (.k x::ks) (.p m::ls) (m::ms) eU
 |own {ps ks ls ms eU} (f ty:Nat) (cB:Bool) (g:Nat) (o:jb):ar st.az g=some o->o.ty=ty->(o.cB=true->cB=true)->g∉st.bF->iv ps f (g+1)=true-> TC st ((f,g+1)::ps) ks ls ms eU->TC st ps (.own f ty cB::ks) (.own g::ls) (.list o.xs::ms) eU
 |pX {ps ks ls ms eU} (f ty:Nat) (cB:Bool):iv ps f 0=true->TC st ((f,0)::ps) ks ls ms eU->TC st ps (.own f ty cB::ks) (.nil::ls) (.list []::ms) eU
theorem AW {R:Type}{k:Kd}{m:MV}{l:ak}{K:ak->Option R}(h:eA k m some=some l):eA k m K=K l:=by
 unfold eA gB gI gS gL gH gR at h⊢;cases k<;>cases m<;>simp at h⊢ <;>try (subst h;rfl)
 ·rename_i k k' n;by_cases hk:k'=k
  ·simp [hk] at h⊢;subst h;rfl
  ·simp [hk] at h
 ·rename_i k n k' n' x;cases hq:decide (k'=k)&&By n' n with
  |false=>simp [hq] at h
  |true=>simp only [hq,cond_true,AT] at h⊢;subst h;rfl
theorem tz {R:Type}{r:R}{k:Kd}{m:MV}{K:ak->Option R}(h:eA k m K=some r): ∃l,eA k m some=some l/\K l=some r:=by
 unfold eA gB gI gS gL gH gR at h⊢;cases k<;>cases m<;>simp at h⊢ <;>try exact h
 ·rename_i k k' n;by_cases hk:k'=k
  ·simp [hk] at h⊢;exact h
  ·simp [hk] at h
 ·rename_i k n k' n' x;cases hq:decide (k'=k)&&By n' n with
  |false=>simp [hq] at h
  |true=>simp only [hq,cond_true,AT] at h⊢;exact ⟨_,rfl,h⟩
theorem vg {st:St}{ks:List LK}: ∀{R:Type} {r:R} {ps:List (Nat×Nat)} {ls:List ak} {K':List MV->List (Nat×Nat)->Option R},eZ st ps ks ls K'=some r-> ∃ms eU,TC st ps ks ls ms eU/\K' ms eU=some r:=by
 induction ks with
 |nil=>
  intro R r ps ls K' h;cases ls with
  |nil=>exact ⟨[],ps,.nil ps,h⟩
  |cons=>simp [eZ] at h
 |cons k ks ih=>
  intro R r ps ls K' h;cases ls with
  |nil=>simp [eZ] at h
  |cons l ls=>
   simp only [eZ] at h;unfold F4 at h;split at h
   ·obtain ⟨ms,eU,h1,h⟩:=ih h;exact ⟨_,_,.Gw h1,h⟩
   ·rename_i k n k' n' x;cases hq:decide (k'=k)&&By n' n with
    |false=>simp [hq] at h
    |true=>simp only [hq,cond_true] at h;simp only [aQ,decide_eq_true_eq] at hq;obtain ⟨rfl,hq⟩:=hq;have hq:=AI hq;subst hq;obtain ⟨ms,eU,h1,h⟩:=ih h;exact ⟨_,_,.hs _ _ _ h1,h⟩
   ·obtain ⟨l',h0,h⟩:=tz h;obtain ⟨ms,eU,h1,h⟩:=ih h;exact ⟨_,_,.p _ _ l' h0 h1,h⟩
   ·rename_i f ty cB g;cases ho:ar st.az g with
    |none=>simp [ho] at h
    |some o=>
     simp only [ho] at h;cases hc:!By o.ty ty||(o.cB&&!cB)||aP st.bF g||!iv ps f (g+1) with
     |true=>simp [hc] at h
     |false=>
      simp only [hc,cond_false] at h;simp only [OF,aao] at hc;obtain ⟨⟨⟨h1,h2⟩,h3⟩,h4⟩:=hc;obtain ⟨ms,eU,h5,h⟩:=ih h;refine ⟨_,_,.own f ty cB g o ho (AI h1) ?_ ?_ h4 h5,h⟩
      ·intro hz;rw [hz] at h2;simpa using h2
      ·rw [<-aN,h3];simp
   ·rename_i f ty cB;cases hc:iv ps f 0 with
    |false=>simp [hc] at h
    |true=>simp only [hc,cond_true] at h;obtain ⟨ms,eU,h5,h⟩:=ih h;exact ⟨_,_,.pX f ty cB hc h5,h⟩
   ·simp at h
theorem TC.ps {st:St}{ps eU:List (Nat×Nat)}{ks:List LK}{ls:List ak}{ms:List MV}(h:TC st ps ks ls ms eU):Gv ps->Gv eU/\ ∀p∈ps,p∈eU:=by
 induction h with
 |nil=>exact λh=>⟨h,λ_ h=>h⟩
 |Gw _ ih=>exact ih
 |hs _ _ _ _ ih=>exact ih
 |p _ _ _ _ _ ih=>exact ih
 |own f ty cB g o _ _ _ _ hp _ ih=>intro h;obtain ⟨h1,h2⟩:=ih (h.add hp);exact ⟨h1,λp hm=>h2 p (by simp [hm])⟩
 |pX f ty cB hp _ ih=>intro h;obtain ⟨h1,h2⟩:=ih (h.add hp);exact ⟨h1,λp hm=>h2 p (by simp [hm])⟩
def abd (st:St)(ps:List (Nat×Nat))(ks:List LK)(f:Nat)(o:jb):Prop:=LK.own f o.ty o.cB∈ks/\((∃g o3,(f,g+1)∈ps/\ar st.az g=some o3/\o3.ty=o.ty/\o3.xs=o.xs/\(o3.cB=true->o.cB=true)/\g∉st.bF)\/((f,0)∈ps/\o.xs=[]))
theorem Un {e:Env}{st:St}{Z6:List (Nat×Nat)}(q9:Gv Z6){ps eU:List (Nat×Nat)}{ks:List LK}{ls:List ak}{ms:List MV}(h:TC st ps ks ls ms eU)(he:e.m=st.az):(∀p∈eU,p∈Z6)-> ∀{vs:List Value},ai e vs ls-> ∀(m0:List (Nat×jb)),∃cs m1,(∀{R:Type} (K:List ak->List MV->St->Option R) (rest:List MV),bR ⟨[],[],[],m0⟩ ks (ms++rest) K=K cs rest ⟨[],[],[],m1⟩)/\ (∀e2:Env,e2.key=e.key->e2.φ=e.φ->(∀f,e2.E f=Gu e.E Z6 f)->ai e2 vs cs)/\(∀f o,ar m1 f=some o->ar m0 f=some o\/abd st Z6 ks f o):=by
 induction h with
 |nil=>intro _ vs hl m0;cases hl;exact ⟨[],m0,λK rest=>rfl,λe2 _ _ _=>rfl,λf o h=> .inl h⟩
 |Gw _ ih=>
  intro eu vs hl m0;obtain ⟨v,u,rfl,h1,h2⟩:=hl;obtain ⟨cs,m1,g1,g2,g3⟩:=ih eu h2 m0;have h1:v=[.slice none 0 0]:=h1;subst h1;refine ⟨.p (.list [])::cs,m1,λK rest=> ?_,λe2 q1 q2 q3=>⟨_,u,rfl,⟨rfl,.list none 0 [] 0 0 0 (λ_=>[]) (by simp) (by simp) (by simp) (by simp) (by simp)⟩,g2 e2 q1 q2 q3⟩,λf o h=> ?_⟩
  ·show bR _ _ _ _=_;simp only [bR,gC,aaj,fG,eA,gL];exact g1 _ rest
  ·rcases g3 f o h with h|⟨h,h'⟩
   ·exact .inl h
   ·exact .inr ⟨aai _ h,h'⟩
 |hs k n x _ ih=>
  intro eu vs hl m0;obtain ⟨v,u,rfl,h1,h2⟩:=hl;obtain ⟨cs,m1,g1,g2,g3⟩:=ih eu h2 m0;refine ⟨.hs k n x::cs,m1,λK rest=> ?_,λe2 q1 q2 q3=>⟨v,u,rfl,h1,g2 e2 q1 q2 q3⟩,λf o h=> ?_⟩
  ·simp only [bR,gC,aaj,fG,eA,gH,decide_true,abG,show By n n=true from Nat.beq_refl n,cond_true];exact g1 _ rest
  ·rcases g3 f o h with h|⟨h,h'⟩
   ·exact .inl h
   ·exact .inr ⟨aai _ h,h'⟩
 |p x m l' h0 _ ih=>
  intro eu vs hl m0;obtain ⟨v,u,rfl,h1,h2⟩:=hl;obtain ⟨cs,m1,g1,g2,g3⟩:=ih eu h2 m0;refine ⟨l'::cs,m1,λK rest=> ?_,λe2 q1 q2 q3=>⟨v,u,rfl,?_,g2 e2 q1 q2 q3⟩,λf o h=> ?_⟩
  ·simp only [bR,gC,aaj,fG,AW h0];exact g1 _ rest
  ·obtain ⟨l2,hs,hk⟩:=gw (e:=e2) (vs:=v) h0;cases hk;exact hs.rep (by rw [q1,q2];exact h1.2)
  ·rcases g3 f o h with h|⟨h,h'⟩
   ·exact .inl h
   ·exact .inr ⟨aai _ h,h'⟩
 |own f ty cB g o ho dU ZY hg hp ht ih=>
  intro eu vs hl m0;obtain ⟨v,u,rfl,h1,h2⟩:=hl;obtain ⟨cs,m1,g1,g2,g3⟩:=ih eu h2 (bh m0 f ⟨ty,cB,o.xs⟩);have mb:(f,g+1)∈Z6:=eu _ (by
   have:=(ht.ps)
   clear this;exact (show∀{ps eU:List (Nat×Nat)} {ks:List LK} {ls:List ak} {ms:List MV},TC st ps ks ls ms eU-> ∀p∈ps,p∈eU from by
    intro ps eU ks ls ms h;induction h with
    |nil=>exact λ_ h=>h
    |Gw _ ih=>exact ih
    |hs _ _ _ _ ih=>exact ih
    |p _ _ _ _ _ ih=>exact ih
    |own _ _ _ _ _ _ _ _ _ _ _ ih=>exact λp hm=>ih p (by simp [hm])
    |pX _ _ _ _ _ ih=>exact λp hm=>ih p (by simp [hm])) ht _ (by simp))
  obtain ⟨x,rfl,hx,hE⟩:=h1;have hE:=hE o (by rw [he];exact ho);refine ⟨.own f::cs,m1,λK rest=> ?_,λe2 q1 q2 q3=>⟨[x],u,rfl,⟨x,rfl,hx,λo2 _=> ?_⟩,g2 e2 q1 q2 q3⟩,λf2 o2 h=> ?_⟩
  ·simp only [bR,gC,aaj,fG,gL,jy];exact g1 _ rest
  ·rw [q3 f,Gu,tw q9 mb,hE]
  ·rcases g3 f2 o2 h with h|⟨h,h'⟩
   ·rw [aI] at h;by_cases cS:f2=f
    ·subst cS;simp only [if_true,AT] at h;subst h;exact .inr ⟨by simp,.inl ⟨g,o,mb,ho,dU,rfl,ZY,hg⟩⟩
    ·rw [if_neg cS] at h;exact .inl h
   ·exact .inr ⟨aai _ h,h'⟩
 |pX f ty cB hp ht ih=>
  intro eu vs hl m0;obtain ⟨v,u,rfl,h1,h2⟩:=hl;obtain ⟨cs,m1,g1,g2,g3⟩:=ih eu h2 (bh m0 f ⟨ty,cB,[]⟩);have mb:(f,0)∈Z6:=eu _ ((show∀{ps eU:List (Nat×Nat)} {ks:List LK} {ls:List ak} {ms:List MV},TC st ps ks ls ms eU-> ∀p∈ps,p∈eU from by
   intro ps eU ks ls ms h;induction h with
   |nil=>exact λ_ h=>h
   |Gw _ ih=>exact ih
   |hs _ _ _ _ ih=>exact ih
   |p _ _ _ _ _ ih=>exact ih
   |own _ _ _ _ _ _ _ _ _ _ _ ih=>exact λp hm=>ih p (by simp [hm])
   |pX _ _ _ _ _ ih=>exact λp hm=>ih p (by simp [hm])) ht _ (by simp))
  have h1:v=[.slice none 0 0]:=h1;subst h1;refine ⟨.own f::cs,m1,λK rest=> ?_,λe2 q1 q2 q3=>⟨_,u,rfl,⟨_,rfl,rfl,λo2 _=> ?_⟩,g2 e2 q1 q2 q3⟩,λf2 o2 h=> ?_⟩
  ·simp only [bR,gC,aaj,fG,gL,jy];exact g1 _ rest
  ·rw [q3 f,Gu,tw q9 mb]
  ·rcases g3 f2 o2 h with h|⟨h,h'⟩
   ·rw [aI] at h;by_cases cS:f2=f
    ·subst cS;simp only [if_true,AT] at h;subst h;exact .inr ⟨by simp,.inr ⟨mb,rfl⟩⟩
    ·rw [if_neg cS] at h;exact .inl h
   ·exact .inr ⟨aai _ h,h'⟩
theorem QE {c:Ctx}{ks:List LK}(h:dE c ks=true): ∀f ty cB,LK.own f ty cB∈ks-> ∃I,c.ti ty=some I/\I.bB=[]:=by
 induction ks with
 |nil=>intro f ty cB hm;simp at hm
 |cons k ks ih=>
  intro f ty cB hm;cases k with
  |k x=>
   simp only [dE] at h;rcases sh.1 hm with hm|hm
   ·cases hm
   ·exact ih h f ty cB hm
  |own f' ty' ae2=>
   simp only [dE] at h;cases hI:c.tv ty' with
   |none=>simp [hI] at h
   |some I=>
    simp only [hI] at h;rcases sh.1 hm with hm|hm
    ·cases hm;exact ⟨I,aD hI⟩
    ·exact ih h f ty cB hm
section
variable {P:Program}{c:Ctx}{Z:aO} {Z':Nat->Prop} {e e':Env}{st bm:St}{a:Act} {w w':World}{R:Type}{K:St->Option R}{r:R}{Q:Exit->Act->World->Prop}{o:Oper}{root:Nat}{cs:List ak}{ks:List LK}{ls:List MV}{ps:List (Nat×Nat)}
def gone (e:Env)(root:Nat)(ps:List (Nat×Nat))(b:Nat):Prop:=b=e.B root\/ ∃x g,(x,g+1)∈ps/\(e.E g).ownBlock=some b
theorem cN.wide {Z Z2:Nat->Prop} {φ:Ph}{aA:Nat}(h:cN c Z φ w aA ks ls)(hz: ∀b,Z b->Z2 b):cN c Z2 φ w aA ks ls:=by obtain ⟨cs,m,E,arr,T,h1,h2,h3,h4,h5,h6,h7⟩:=h;refine ⟨cs,m,E,arr,T,h1,h2,hz _ h3,h4,h5,λf o ho=>⟨?_,(h6 f o ho).2⟩,h7⟩;obtain ⟨I,cells,g1,g2,g3,g4,g5⟩:=(h6 f o ho).1.row;exact ⟨I,cells,g1,g2,g3,g4,λb hb=>⟨hz _ (g5 b hb).1,(g5 b hb).2⟩⟩
theorem AX (h:bg c Z e st a w)(hf:ah st.fr root= .box cs)(hm:cR cs=false)(dU:dE c ks=true)(ht:TC st [] ks cs ls ps):cN c (gone e root ps) e.φ w (e.B root) ks ls:=by
 have hs:=h.slot root;rw [hf] at hs;obtain ⟨arr,T,bH,jX⟩:=hs.2.cells hm;obtain ⟨q9,_⟩:=ht.ps .nil;obtain ⟨DB,m1,g1,g2,g3⟩:=Un q9 ht h.m (λp hp=>hp) jX [];have hl:=g2 ⟨c.key,e.φ,Gu e.E ps,λ_=>e.B root,m1⟩ h.key.symm rfl (λ_=>rfl);have hE: ∀{f g:Nat},(f,g+1)∈ps->Gu e.E ps f=e.E g:=λhm=>by rw [Gu,tw q9 hm]
 have hE0: ∀{f:Nat},(f,0)∈ps->Gu e.E ps f= .slice none 0 0:=λhm=>by rw [Gu,tw q9 hm]
 have rQ: ∀f o,ar m1 f=some o->abd st ps ks f o:=λf o ho=>(g3 f o ho).resolve_left (by simp [ar]);refine ⟨DB,m1,Gu e.E ps,arr,T,?_,bH,.inl rfl,hs.2.free,hl,λf o ho=> ?_,λf f' o o' k ho vc hk ZZ=> ?_⟩
 ·have:=g1 (λcs rest st=>gN rest (some (cs,st.az))) [];rw [ac6] at this;exact this
 ·obtain ⟨hk,qH|⟨hp,hx⟩⟩:=rQ f o ho
  ·obtain ⟨g,o3,hp,LQ,abf,Qn,ae3,rK⟩:=qH;obtain ⟨I,cells,q1,q2,q3,q4,q5⟩:=(h.dV g o3 LQ).row;refine ⟨⟨I,cells,by rw [<-abf];exact q1,q2,by rw [<-abf,<-Qn,hE hp];exact q3,by rw [<-Qn];show aB c.key e.φ _ _ _;rw [<-h.key];exact q4,λb hb=>⟨.inr ⟨f,g,hp,by rw [<-hE hp];exact hb⟩,λoff u hu=> ?_,λhc=>hc.elim⟩⟩,?_⟩
   ·obtain ⟨k1,k2⟩:=(q5 b (by rw [<-hE hp];exact hb)).2.1 off u hu;exact ⟨ae3 k1,by rw [<-Qn];exact k2⟩
   ·rw [hE hp];exact h.bf root cs g o3 hf LQ
  ·obtain ⟨I,hI,JV⟩:=QE dU f o.ty o.cB hk;refine ⟨⟨I,[],hI,JV,⟨by rw [hx];simp,.inl ⟨by rw [hE0 hp],by rw [hx];rfl⟩⟩,by rw [hx];rfl,λb hb=> ?_⟩,?_⟩
   ·rw [hE0 hp] at hb;simp [AS] at hb
   ·rw [hE0 hp];simp [AS]
 ·obtain ⟨_,qH|⟨hp,_⟩⟩:=rQ f o ho
  ·obtain ⟨g,o3,hp,LQ,_⟩:=qH;obtain ⟨_,Ez|⟨Gf,_⟩⟩:=rQ f' o' vc
   ·obtain ⟨g',o3',Gf,ae4,_⟩:=Ez;rw [hE hp] at hk;rw [hE Gf] at ZZ;have:=h.ff g g' o3 o3' k LQ ae4 hk ZZ;subst this;exact q9.inj _ _ _ hp Gf
   ·rw [hE0 Gf] at ZZ;simp [AS] at ZZ
  ·rw [hE0 hp] at hk;simp [AS] at hk
theorem TC.az (ht:TC st [] ks cs ls ps): ∀x g,(x,g+1)∈ps-> ∃o,ar st.az g=some o/\g∉st.bF:=by
 have key: ∀{ps0 ps:List (Nat×Nat)} {ks:List LK} {cs:List ak} {ls:List MV},TC st ps0 ks cs ls ps-> ∀x g,(x,g+1)∈ps->(x,g+1)∈ps0\/ ∃o,ar st.az g=some o/\g∉st.bF:=by
  intro ps0 ps ks cs ls h;induction h with
  |nil=>exact λx g hm=> .inl hm
  |Gw _ ih=>exact ih
  |hs _ _ _ _ ih=>exact ih
  |p _ _ _ _ _ ih=>exact ih
  |own f ty cB g0 o ho _ _ hg _ _ ih=>
   intro x g hm;rcases ih x g hm with h|h
   ·rcases sh.1 h with h|h
    ·simp only [aac,aaL] at h;obtain ⟨rfl,rfl⟩:=h;exact .inr ⟨o,ho,hg⟩
    ·exact .inl h
   ·exact .inr h
  |pX f ty cB _ _ ih=>
   intro x g hm;rcases ih x g hm with h|h
   ·rcases sh.1 h with h|h
    ·simp at h
    ·exact .inl h
   ·exact .inr h
 intro x g hm;exact (key ht x g hm).resolve_left (by simp)
def fA (gs:List Nat)(m:List (Nat×jb)):List (Nat×jb):=m.filter λp=>!aP gs p.1
theorem Ia (gs:List Nat)(m:List (Nat×jb))(K:List (Nat×jb)->Option R):HK gs m K=K (fA gs m):=by
 induction m generalizing K with
 |nil=>rfl
 |cons p m ih=>obtain ⟨k,o⟩:=p;simp only [HK,fA,List.filter_cons];cases aP gs k<;>simp [ih,fA]
theorem AY (gs:List Nat)(m:List (Nat×jb))(f:Nat):ar (fA gs m) f=if aP gs f then none else ar m f:=by
 induction m with
 |nil=>simp [fA,ar]
 |cons p m ih=>
  obtain ⟨k,o⟩:=p;simp only [fA,List.filter_cons] at ih⊢;cases hk:aP gs k with
  |true=>
   simp only [ab8,aan,if_false,ih,ar,cY];by_cases hkf:k=f
   ·subst hkf;simp [hk]
   ·simp [hkf]
  |false=>
   simp only [Bool.not_false,if_true,ar,cY];by_cases hkf:k=f
   ·subst hkf;simp [hk]
   ·simp only [hkf,decide_false,cond_false];exact ih
def iN (fs:List Nat)(r:Fr):Fr:=fs.foldl (λr f=>gd f r) r
def v7 (fs:List Nat)(s:Slot):Slot:=fs.foldl (λs f=>tl f s) s
theorem L8 (fs:List Nat)(r:Fr)(K:Fr->Option R):TJ fs r K=K (iN fs r):=by
 induction fs generalizing r with
 |nil=>rfl
 |cons f fs ih=>simp only [TJ,PQ];exact ih _
theorem AZ (fs:List Nat)(r:Fr)(t:Nat):ah (iN fs r) t=v7 fs (ah r t):=by
 induction fs generalizing r with
 |nil=>rfl
 |cons f fs ih=>show ah (iN fs (gd f r)) t=v7 fs (tl f (ah r t));rw [ih,dG]
theorem A0 (fs:List Nat)(r:Fr):ax (iN fs r)=ax r:=by
 induction fs generalizing r with
 |nil=>rfl
 |cons f fs ih=>show ax (iN fs (gd f r))=_;rw [ih];simp [ax,gd]
theorem aa.Wz {v:Value}{s:Slot}(fs:List Nat)(h:aa e v s):aa e v (v7 fs s):=by
 induction fs generalizing s with
 |nil=>exact h
 |cons f fs ih=>exact ih (h.kill f)
theorem v8 {S:Nat->Prop}(f:Nat){l:ak}(h:ef S l):ef (λg=>S g/\g≠f) (F7 f l):=by intro g hg;refine ⟨?_,xG f l g hg⟩;cases l<;>simp [F7] at hg;rename_i g';cases hb:By g' f<;>simp [hb] at hg;subst hg;exact h _ rfl
theorem QF {S T:Nat->Prop}(f:Nat){s:Slot}(h:da S T s):da (λg=>S g/\g≠f) T (tl f s):=by
 cases s with
 |sc l=>exact v8 f h
 |ag cs=>intro l hl;obtain ⟨x,hx,rfl⟩:=aaU.1 hl;exact v8 f (h x hx)
 |tg cs=>intro l hl;obtain ⟨x,hx,rfl⟩:=aaU.1 hl;exact v8 f (h x hx)
 |ep g i o b cs=>
  simp only [tl];cases hb:By g f
  ·simp only [cond_false,da];refine ⟨h,λe=> ?_⟩;subst e;simp [cY] at hb
  ·simp only [cond_true,da];intro g' XM;cases XM
 |box cs=>trivial
 |_=>exact h
theorem L9 {S T:Nat->Prop}(fs:List Nat){s:Slot}(h:da S T s):da (λg=>S g/\g∉fs) T (v7 fs s):=by
 induction fs generalizing S s with
 |nil=>
  have:(λg=>S g/\g∉([]:List Nat))=S:=by funext g;simp
  rw [this];exact h
 |cons f fs ih=>
  have h2:=ih (QF f h);have:(λg=>(S g/\g≠f)/\g∉fs)=(λg=>S g/\g∉f::fs):=by funext g;simp [and_assoc]
  rw [<-this];exact h2
def QG (fs:List Nat)(cs:List ak):List ak:=fs.foldl (λcs f=>cs.map (F7 f)) cs
theorem Ic (fs:List Nat)(cs:List ak):v7 fs (.box cs)= .box (QG fs cs):=by
 induction fs generalizing cs with
 |nil=>rfl
 |cons f fs ih=>exact ih _
theorem nt (fs:List Nat){s:Slot}{ds:List ak}(h:v7 fs s= .box ds): ∃cs,s= .box cs/\ds=QG fs cs:=by
 induction fs generalizing s with
 |nil=>exact ⟨ds,h,rfl⟩
 |cons f fs ih=>
  obtain ⟨cs,h1,h2⟩:=ih (s:=tl f s) h;cases s<;>simp only [tl] at h1<;>first|(cases h1;done)|skip
  ·rename_i zF;simp only [Slot.box.injEq] at h1;exact ⟨zF,rfl,by rw [h2,<-h1];rfl⟩
  ·rename_i g i o b c0;cases hb:By g f<;>simp [hb] at h1
theorem Ig {fs:List Nat}{o:Obj}{cs:List ak}(h:e9 e o cs):e9 e o (QG fs cs):=by
 induction fs generalizing cs with
 |nil=>exact h
 |cons f fs ih=>exact ih (h.map (λ_ _=>aw.kill f) (λ_ _=>rfl))
theorem Ma {S:Nat->Prop}(fs:List Nat){cs:List ak}(h: ∀l∈cs,ef S l): ∀l∈QG fs cs,ef (λg=>S g/\g∉fs) l:=by
 induction fs generalizing S cs with
 |nil=>
  have:(λg=>S g/\g∉([]:List Nat))=S:=by funext g;simp
  rw [this];exact h
 |cons f fs ih=>
  have h2:=ih (S:=λg=>S g/\g≠f) (cs:=cs.map (F7 f)) (λl hl=>by obtain ⟨x,hx,rfl⟩:=aaU.1 hl;exact v8 f (h x hx));have:(λg=>(S g/\g≠f)/\g∉fs)=(λg=>S g/\g∉f::fs):=by funext g;simp [and_assoc]
  rw [<-this];exact h2
theorem EN (fs:List Nat)(cs:List ak):gn (QG fs cs)=gn cs:=by
 induction fs generalizing cs with
 |nil=>rfl
 |cons f fs ih=>exact (ih _).trans (Kp f cs)
theorem A3 {fs:List Nat}{m:List (Nat×jb)}(h:Eo fs m=false): ∀f∈fs,ar m f=none:=by
 induction fs with
 |nil=>simp
 |cons f fs ih=>
  intro g hg;unfold Eo at h;cases ho:ar m f with
  |some o=>simp [ho] at h
  |none=>
   simp only [ho] at h;rcases sh.1 hg with rfl|hg
   ·exact ho
   ·exact ih h g hg
theorem A4 {l k:List Nat}(h:meets l k=false): ∀f∈l,f∉k:=by
 induction l with
 |nil=>simp
 |cons x l ih=>
  intro g hg;unfold meets at h;cases hx:aP k x with
  |true=>simp [hx] at h
  |false=>
   simp only [hx,cond_false] at h;rcases sh.1 hg with rfl|hg
   ·intro hm;rw [(aN k g).2 hm] at hx;cases hx
   ·exact ih h g hg
theorem yJ {ps:List (Nat×Nat)}{g:Nat}:g∈cI ps↔ ∃x,(x,g+1)∈ps:=by
 induction ps with
 |nil=>simp [cI]
 |cons p ps ih=>
  obtain ⟨x,y⟩:=p;cases y with
  |zero=>
   simp only [cI,ih];constructor
   ·rintro ⟨z,hz⟩;exact ⟨z,by simp [hz]⟩
   ·rintro ⟨z,hz⟩;rcases sh.1 hz with hz|hz
    ·simp at hz
    ·exact ⟨z,hz⟩
  |succ y=>
   simp only [cI,sh,ih];constructor
   ·rintro (rfl|⟨z,hz⟩)
    ·exact ⟨x,by simp⟩
    ·exact ⟨z,by simp [hz]⟩
   ·rintro ⟨z,hz⟩;rcases hz with hz|hz
    ·simp only [aac,aaL] at hz;exact .inl hz.2
    ·exact .inr ⟨z,hz⟩
theorem eV {ks:List LK}: ∀{R:Type} {r:R} {st:St} {ms:List MV} {K':List ak->List MV->St->Option R},bR st ks ms K'=some r-> ∃cs rest bm,(∀{R':Type} (K2:List ak->List MV->St->Option R'),bR st ks ms K2=K2 cs rest bm)/\K' cs rest bm=some r:=by
 induction ks with
 |nil=>intro R r st ms K' h;exact ⟨[],ms,st,λ_=>rfl,h⟩
 |cons k ks ih=>
  intro R r st ms K' h;cases ms with
  |nil=>simp [bR,gC] at h
  |cons m ms=>
   simp only [bR,gC] at h;cases k with
   |k x=>simp only [fG] at h;obtain ⟨l,h0,h⟩:=tz h;obtain ⟨cs,rest,bm,h1,h⟩:=ih h;refine ⟨l::cs,rest,bm,λK2=> ?_,h⟩;simp only [bR,gC,fG,AW h0];exact h1 _
   |own f ty cB=>
    unfold fG gL at h;cases m<;>simp only at h<;>try (cases h;done)
    rename_i xs;obtain ⟨p,q,fr,n⟩:=st;simp only [jy] at h;obtain ⟨cs,rest,bm,h1,h⟩:=ih h;refine ⟨.own f::cs,rest,bm,λK2=> ?_,h⟩;simp only [bR,gC,fG,gL,jy];exact h1 _
theorem EO (m n:List (Nat×jb))(f:Nat):ar (m++n) f=match ar m f with|some o=>some o|none=>ar n f:=by
 induction m with
 |nil=>rfl
 |cons p m ih=>obtain ⟨k,o⟩:=p;simp only [aaj,ar,cY];by_cases h:k=f<;>simp [h,ih]
theorem wa {ks:List LK}: ∀{st:St} {ms:List MV} {cs:List ak} {rest:List MV} {bm:St},(∀{R':Type} (K2:List ak->List MV->St->Option R'),bR st ks ms K2=K2 cs rest bm)-> ∀f o,ar bm.az f=some o->ar st.az f=some o\/f∈aM ks:=by
 induction ks with
 |nil=>intro st ms cs rest bm h f o ho;have:=h (λa b c=>some c);simp only [bR,AT] at this;subst this;exact .inl ho
 |cons k ks ih=>
  intro st ms cs rest bm h f o ho;have h0:=h (λa b c=>some (a,b,c));obtain ⟨DB,aht,cK,h1,h2⟩:=eV h0;clear h1;cases ms with
  |nil=>simp [bR,gC] at h0
  |cons m ms=>
   cases k with
   |k x=>simp only [bR,gC,fG] at h0;obtain ⟨l,h3,h4⟩:=tz h0;obtain ⟨rU,QH,jm,h5,h6⟩:=eV h4;simp only [AT,aac] at h6;obtain ⟨_,_,rfl⟩:=h6;exact ih h5 f o ho
   |own f' ty cB=>
    simp only [bR,gC] at h0;unfold fG gL at h0;cases m<;>simp only at h0<;>try (cases h0;done)
    rename_i xs;obtain ⟨p,q,fr,n⟩:=st;simp only [jy] at h0;obtain ⟨rU,QH,jm,h5,h6⟩:=eV h0;simp only [AT,aac] at h6;obtain ⟨_,_,rfl⟩:=h6;rcases ih h5 f o ho with h7|h7
    ·have h7:ar (bh n f' ⟨ty,cB,xs⟩) f=some o:=h7;rw [aI] at h7;by_cases cS:f=f'
     ·subst cS;exact .inr (by simp [aM])
     ·rw [if_neg cS] at h7;exact .inl h7
    ·exact .inr (by simp [aM,h7])
end
end Dn
/-
  Calls that are handed a variable. Conditions: none.
-/
namespace Dn
open Go
theorem rV {ks:List LK}: ∀{st:St} {ms:List MV} {cs:List ak} {rest:List MV} {bm:St},(∀{R':Type} (K2:List ak->List MV->St->Option R'),bR st ks ms K2=K2 cs rest bm)-> ∀l∈cs,ef (λf=>f∈aM ks) l:=by
 induction ks with
 |nil=>intro st ms cs rest bm h l hl;have:=h (λa b c=>some a);simp only [bR,AT] at this;subst this;simp at hl
 |cons k ks ih=>
  intro st ms cs rest bm h l hl;have h0:=h (λa b c=>some (a,b,c));cases ms with
  |nil=>simp [bR,gC] at h0
  |cons m ms=>
   cases k with
   |k x=>
    simp only [bR,gC,fG] at h0;obtain ⟨l0,h3,h4⟩:=tz h0;obtain ⟨rU,QH,jm,h5,h6⟩:=eV h4;simp only [AT,aac] at h6;obtain ⟨rfl,_,_⟩:=h6;rcases sh.1 hl with rfl|hl
    ·obtain ⟨l2,hs,hk⟩:=gw (e:=⟨λn=>n,λ_ _=>none,λ_=>undef,λ_=>0,[]⟩) (vs:=[]) h3;cases hk;exact AF hs.O9
    ·exact ih h5 l hl
   |own f' ty cB=>
    simp only [bR,gC] at h0;unfold fG gL at h0;cases m<;>simp only at h0<;>try (cases h0;done)
    rename_i xs;obtain ⟨p,q,fr,n⟩:=st;simp only [jy] at h0;obtain ⟨rU,QH,jm,h5,h6⟩:=eV h0;simp only [AT,aac] at h6;obtain ⟨rfl,_,_⟩:=h6;rcases sh.1 hl with rfl|hl
    ·intro f hf;cases hf;simp [aM]
    ·intro f hf;have:=ih h5 l hl f hf;simp [aM,this]
section
variable {P:Program}{c:Ctx}{Z:aO} {Z':Nat->Prop} {e e':Env}{st bm:St}{a:Act} {w w':World}{R:Type}{K:St->Option R}{r:R}{Q:Exit->Act->World->Prop}{o:Oper}{root:Nat}{cs:List ak}{ks:List LK}{ls outs:List MV}{ps:List (Nat×Nat)} {φ':Ph}
theorem yK {fr:Fr}(fs:List Nat){s:Slot}(h:bK fr s):bK fr (v7 fs s):=by
 induction fs generalizing s with
 |nil=>exact h
 |cons f fs ih=>
  refine ih ?_;cases s with
  |ep g i o b cs=>simp only [tl];cases By g f<;>trivial
  |ptr=>exact h
  |hp=>exact h
  |rr=>exact h
  |_=>trivial
theorem A5 (fs:List Nat){s:Slot}(h:bP s=true):bP (v7 fs s)=true:=by
 induction fs generalizing s with
 |nil=>exact h
 |cons f fs ih=>refine ih (s:=tl f s) ?_;rw [xL];exact h
theorem wb (h:bg c Z e st a w)(hf:ah st.fr root= .box cs)(hr:aP st.bI root=false)(ht:TC st [] ks cs ls ps): ∀b,gone e root ps b->Z.In b:=by
 have hs:=h.slot root;rw [hf] at hs;intro b hb;rcases hb with rfl|⟨x,g,hp,hb⟩
 ·exact Hu hs.2.bt (by rw [<-h.defers.2.1,<-aN,hr];simp)
 ·obtain ⟨o,ho,hg⟩:=ht.az x g hp;obtain ⟨I,cells,_,_,_,_,h5⟩:=(h.dV g o ho).row;exact Hu (h5 b hb).1 (by rw [<-h.defers.2.2.1];exact hg)
theorem QI {ki:List LK}(h:bg c Z e st a w)(hf:ah st.fr root= .box cs)(hm:cR cs=false)(hr:aP st.bI root=false)(ht:TC st [] ki cs ls ps)(hZ: ∀b,Z' b↔w.heap.size<=b\/gone e root ps b)(nq:Trans Z' e.φ w φ' w')(hi:iA φ' w')(hc:cN c Z' φ' w' (e.B root) ks outs)(hK:Ep st root ks ps outs K=some r): ∃e' bm,bg c Z e' bm a w'/\e'.φ=φ'/\K bm=some r:=by
 unfold Ep at hK;obtain ⟨DB,rest,tj,g1,hK⟩:=eV hK;cases rest with
 |cons=>simp [gN] at hK
 |nil=>
 simp only [gN,Ia] at hK;cases im:Eo (aM ks) (fA (cI ps) st.az)||meets (aM ks) st.bF with
 |true=>simp [im] at hK
 |false=>
 simp only [im,cond_false,L8,gV,pN] at hK;obtain ⟨KI,A6⟩:=OF.1 im;have KI:=A3 KI;have A6:=A4 A6;obtain ⟨rU,m3,E,arr,T,rW,bH,hzb,jn,jX,db,cS⟩:=hc;have ek:rU=DB/\m3=tj.az:=by unfold EG at rW;rw [g1] at rW;simp only [gN,AT,aac] at rW;exact ⟨rW.1.symm,rW.2.symm⟩
 obtain ⟨rfl,rfl⟩:=ek;have cb:=rV g1;have eu: ∀f o,ar tj.az f=some o->f∈aM ks:=λf o ho=>(wa g1 f o ho).resolve_left (by simp [ar]);have hs:=h.slot root;rw [hf] at hs;have mb: ∀b,Z' b->Z.In b:=by
  intro b hb;rcases (hZ b).1 hb with hb|hb
  ·exact h.bt b hb
  ·exact wb h hf hr ht b hb
 have Ih: ∀t dj,ah st.fr t= .box dj->t≠root-> ¬Z' (e.B t):=by
  intro t dj QJ cg hz;rcases (hZ _).1 hz with hz|hz|⟨x,g,hp,hz⟩
  ·have:=pV h QJ;omega
  ·exact h.bb t root dj cs QJ hf cg hz
  ·obtain ⟨o,ho,_⟩:=ht.az x g hp;exact h.bf t dj g o QJ ho hz
 have hold: ∀f o,ar (fA (cI ps) st.az) f=some o->ar st.az f=some o/\f∉cI ps:=by
  intro f o ho;rw [AY] at ho;cases hn:aP (cI ps) f with
  |true=>simp [hn] at ho
  |false=>simp only [hn,aan,if_false] at ho;exact ⟨ho,λhm=>by rw [(aN _ _).2 hm] at hn;cases hn⟩
 have yL: ∀f o b,ar (fA (cI ps) st.az) f=some o->(e.E f).ownBlock=some b-> ¬Z' b:=by
  intro f o b ho hb hz;obtain ⟨vc,XK⟩:=hold f o ho;rcases (hZ _).1 hz with hz|hz|⟨x,g,hp,hz⟩
  ·have:=pW h vc hb;omega
  ·exact h.bf root cs f o hf vc (by rw [hb,hz])
  ·obtain ⟨o2,bJ,_⟩:=ht.az x g hp;have:=h.ff f g o o2 b vc bJ hb hz;subst this;exact XK (yJ.2 ⟨x,hp⟩)
 let E2:Nat->Value:=λf=>if aP (aM ks) f=true then E f else e.E f
 have ot: ∀f,f∈aM ks->E2 f=E f:=λf hf=>by show (if _ then _ else _)=_;rw [if_pos ((aN _ _).2 hf)]
 have Hy: ∀f,f∉aM ks->E2 f=e.E f:=λf hf=>by show (if _ then _ else _)=_;rw [if_neg (λhq=>hf ((aN _ _).1 hq))]
 have fK: ∀f o,ar (tj.az++fA (cI ps) st.az) f=some o->(f∈aM ks/\ar tj.az f=some o)\/(f∉aM ks/\ar (fA (cI ps) st.az) f=some o):=by
  intro f o ho;rw [EO] at ho;cases hq:ar tj.az f with
  |some o2=>simp only [hq,AT] at ho;exact .inl ⟨eu f o2 hq,by rw [ho]⟩
  |none=>simp only [hq] at ho;refine .inr ⟨λhm=> ?_,ho⟩;rw [KI f hm] at ho;cases ho
 let e2:Env:=⟨e.key,φ',E2,e.B,tj.az++fA (cI ps) st.az⟩
 have lu:eR (λg=>True/\g∉aM ks) (λ_=>True) e e2:=by
  refine ⟨rfl,nq.ph,λ_ _=>rfl,λf o' vc hS=> ?_⟩;rcases fK f o' vc with ⟨h1,_⟩|⟨h1,h2⟩
  ·exact absurd h1 hS.2
  ·exact ⟨o',by rw [h.m];exact (hold f o' h2).1,Hy f h1,rfl⟩
 have QK:ai e2 arr.toList rU:=by
  have X9:eR (λf=>f∈aM ks) (λ_=>True) ⟨c.key,φ',E,λ_=>e.B root,tj.az⟩ ⟨c.key,φ',E2,λ_=>e.B root,tj.az++fA (cI ps) st.az⟩:=by
   refine ⟨rfl,.refl _,λ_ _=>rfl,λf o' vc hS=> ?_⟩;rcases fK f o' vc with ⟨h1,h2⟩|⟨h1,_⟩
   ·exact ⟨o',h2,ot f h1,rfl⟩
   ·exact absurd hS h1
  have h1:=jX.on X9 cb;have Ya:eR (λ_=>True) (λ_=>False) ⟨c.key,φ',E2,λ_=>e.B root,tj.az++fA (cI ps) st.az⟩ e2:=⟨h.key,.refl _,λ_ h=>h.elim,λf o ho _=>⟨o,ho,rfl,rfl⟩⟩
  exact h1.on Ya (λ_ _ _ _=>trivial)
 have hm3:cR rU=false:=QK.rJ;have Ii: ∀t,ah (bu (iN (aM ks) st.fr) root (.box rU)) t=if t=root then .box rU else v7 (aM ks) (ah st.fr t):=λt=>by rw [a8,AZ]
 have nW: ∀t ds,ah (bu (iN (aM ks) st.fr) root (.box rU)) t= .box ds-> ∃ds0,ah st.fr t= .box ds0:=by
  intro t ds hb;rw [Ii] at hb;by_cases nq:t=root
  ·exact ⟨cs,by rw [nq];exact hf⟩
  ·rw [if_neg nq] at hb;obtain ⟨d0,h1,_⟩:=nt _ hb;exact ⟨d0,h1⟩
 refine ⟨e2,⟨st.bI,st.bF,bu (iN (aM ks) st.fr) root (.box rU),tj.az++fA (cI ps) st.az⟩,⟨h.defers,h.size,rfl,h.key,?_,?_,?_,?_,?_,?_,?_,hi,λb hb=>h.bt b (aaP nq.size hb)⟩,rfl,hK⟩
 ·show (ax (bu (iN (aM ks) st.fr) root (.box rU))).Nodup;refine cD ?_;rw [A0];exact h.nodup
 ·intro t;show bk Z e2 w' t _ (ah (bu (iN (aM ks) st.fr) root (.box rU)) t);rw [Ii];by_cases mi:t=root
  ·subst mi;rw [if_pos rfl];exact ⟨hs.1.gn (by rw [pR hm,pR hm3]),hs.2.bt,⟨_,bH,rfl,QK⟩,jn⟩
  ·rw [if_neg mi];have cu:=h.slot t;have TQ:=Ih t;generalize ah st.fr t=s at cu TQ;by_cases xK: ∃ds,s= .box ds
   ·obtain ⟨ds,rfl⟩:=xK;rw [Ic];have hz:=TQ ds rfl mi;obtain ⟨o2,h1,h2⟩:=cu.2.obj;refine ⟨cu.1.gn (EN _ _),cu.2.bt,⟨o2,by show w'.heap[e.B t]? =_;rw [nq.heap _ hz (aC h1)];exact h1,?_⟩,λoff=>by show φ' (e.B t) off=none;rw [nq.free _ off hz];exact cu.2.free off⟩;exact (Ig h2).on lu (Ma _ (λl _ f _=>trivial))
   ·have Yb:aa e (a.tmps.getD t undef) s:=by cases s<;>simp only [bk] at cu<;>first|exact cu|exact absurd ⟨_,rfl⟩ xK
    have h2:=(Yb.Wz (aM ks)).on lu (L9 _ (cw s));have QL: ∀ds,v7 (aM ks) s≠ .box ds:=λds hq=>by obtain ⟨d0,h1,_⟩:=nt _ hq;exact xK ⟨d0,h1⟩
    generalize v7 (aM ks) s=s2 at h2 QL;cases s2<;>first|exact h2|exact absurd rfl (QL _)
 ·intro t;show bK (bu (iN (aM ks) st.fr) root (.box rU)) (ah (bu (iN (aM ks) st.fr) root (.box rU)) t);have Qm: ∀q,bP (ah st.fr q)=true->bP (ah (bu (iN (aM ks) st.fr) root (.box rU)) q)=true:=by
   intro q hq;rw [Ii];by_cases Wx:q=root
   ·rw [if_pos Wx];rfl
   ·rw [if_neg Wx];exact A5 _ hq
  rw [Ii];by_cases mi:t=root
  ·rw [if_pos mi];trivial
  ·rw [if_neg mi];refine yK _ ?_;have jV:=h.root t;generalize ah st.fr t=s at jV;cases s with
   |ptr q o=>exact Qm q jV
   |hp q o i=>exact Qm q jV
   |rr q=>exact Qm q jV
   |_=>trivial
 ·intro f o ho;rcases fK f o ho with ⟨h1,h2⟩|⟨h1,h2⟩
  ·have hfm:=(db f o h2).1;have rK:f∉Z.bF:=by rw [<-h.defers.2.2.1];exact A6 f h1
   refine bw.to ?_ rK;obtain ⟨I,cells,q1,q2,q3,q4,q5⟩:=hfm.row;refine ⟨I,cells,q1,q2,?_,?_,λb hb=> ?_⟩
   ·show w'.ownsRow 0 o.ty I.size (E2 f) o.xs.length cells;rw [ot f h1];exact q3
   ·show aB e.key φ' I.size cells o.xs;rw [h.key];exact q4
   ·have hb:(E2 f).ownBlock=some b:=hb;rw [ot f h1] at hb;exact ⟨mb b (q5 b hb).1,(q5 b hb).2.1,λhc=>hc.elim⟩
  ·obtain ⟨vc,XK⟩:=hold f o h2;obtain ⟨I,cells,q1,q2,q3,q4,q5⟩:=(h.dV f o vc).row;refine ⟨I,cells,q1,q2,?_,q4.mono nq.ph,?_⟩
   ·show w'.ownsRow 0 o.ty I.size (E2 f) o.xs.length cells;rw [Hy f h1];refine ⟨q3.1,?_⟩;rcases q3.2 with h6|⟨g,cap,bU,k1,k2,k3,k4⟩
    ·exact .inl h6
    ·refine .inr ⟨g,cap,bU,k1,k2,?_,k4⟩;rw [nq.heap g (yL f o g h2 (by rw [k1];rfl)) (aC k3)];exact k3
   ·intro aA hb;have hb:(E2 f).ownBlock=some aA:=hb;rw [Hy f h1] at hb;refine ⟨(q5 aA hb).1,λoff u hu=>(q5 aA hb).2.1 off u ?_,λk1 k2 j hj=>nq.ph.tk ((q5 aA hb).2.2 k1 k2 j hj) hj⟩;have hu:φ' aA off=some u:=hu;rw [nq.free _ off (yL f o aA h2 hb)] at hu;exact hu
 ·intro t t' c1 c2 h1 h2 cg;obtain ⟨d1,k1⟩:=nW t c1 h1;obtain ⟨d2,k2⟩:=nW t' c2 h2;exact h.bb t t' d1 d2 k1 k2 cg
 ·intro t c1 f o h1 h2;show (E2 f).ownBlock≠some (e.B t);rcases fK f o h2 with ⟨k1,k2⟩|⟨k1,k2⟩
  ·rw [ot f k1];by_cases mi:t=root
   ·rw [mi];exact (db f o k2).2
   ·obtain ⟨d1,k3⟩:=nW t c1 h1;intro hq;obtain ⟨I,cells,_,_,_,_,q5⟩:=(db f o k2).1.row;exact Ih t d1 k3 mi (q5 _ hq).1
  ·rw [Hy f k1];obtain ⟨d1,k3⟩:=nW t c1 h1;exact h.bf t d1 f o k3 (hold f o k2).1
 ·intro f f' o o' k h1 h2 h3 h4;have h3:(E2 f).ownBlock=some k:=h3;have h4:(E2 f').ownBlock=some k:=h4;rcases fK f o h1 with ⟨k1,k2⟩|⟨k1,k2⟩<;>rcases fK f' o' h2 with ⟨k3,k4⟩|⟨k3,k4⟩
  ·rw [ot f k1] at h3;rw [ot f' k3] at h4;exact cS f f' o o' k k2 k4 h3 h4
  ·rw [ot f k1] at h3;rw [Hy f' k3] at h4;obtain ⟨I,cells,_,_,_,_,q5⟩:=(db f o k2).1.row;exact absurd (q5 _ h3).1 (yL f' o' k k4 h4)
  ·rw [Hy f k1] at h3;rw [ot f' k3] at h4;obtain ⟨I,cells,_,_,_,_,q5⟩:=(db f' o' k4).1.row;exact absurd (q5 _ h4).1 (yL f o k k2 h3)
  ·rw [Hy f k1] at h3;rw [Hy f' k3] at h4;exact h.ff f f' o o' k (hold f o k2).1 (hold f' o' k4).1 h3 h4
end
end Dn
/-
  The operation of a call that is handed a variable. Conditions: none.
-/
namespace Dn
open Go
section
variable {P:Program}{c:Ctx}{Z:aO} {Z':Nat->Prop} {e e':Env}{st bm:St}{a:Act} {w w':World}{R:Type}{K:St->Option R}{r:R}{Q:Exit->Act->World->Prop}{o:Oper}
theorem aE.length {key:Nat->Nat} {φ:Ph}{ms:List MV}: ∀{vs:List Value},aE key φ vs ms->vs.length=ms.length:=by
 induction ms with
 |nil=>intro vs h;cases h;rfl
 |cons m ms ih=>intro vs h;obtain ⟨v,u,rfl,_,h2⟩:=h;simp [ih h2]
theorem Ij {cl:Call}{g:List MV->Option MV}{pos:Nat}{ks ko:List LK}{oI:Option TI}{gv:Bool}(hS:Sound P c)(Hz:gv=true-> ∀ms x,g ms=some x-> ∃f:Nat,c.g (c.key f) ms=some x/\c.bQ (c.key f)=true/\c.sig (c.key f)=some (pos,ks,ko)/\(execOp a.eval o).run P w=(callFunc f (cl.args.map a.eval)).run P w)(h:bg c Z e st a w)(hK:LM c gv g pos ks ko st (eB c st cl.args.toList) oI (λs st=>aG c st o.dst s K)=some r): gv=true/\o.wp P a w (λa' w'=>Out c Z K r e.φ w a' w') Q:=by
 unfold LM at hK;obtain ⟨vs,oK⟩: ∃vs,vs=cl.args.toList.map a.eval:=⟨_,rfl⟩
 have hlen:vs.length=(eB c st cl.args.toList).length:=by rw [oK];simp [eg]
 have cM: ∀(i:Nat) (v:Value) (s:Slot),vs[i]? =some v->(eB c st cl.args.toList)[i]? =some s->aa e v s:=by rw [oK];exact aE.map h
 generalize eB c st cl.args.toList=ss at hK hlen cM;split at hK
 ·rename_i root off cU;have ajg:pos<ss.length:=(aaE.1 cU).1;obtain ⟨v,hv⟩: ∃v,vs[pos]? =some v:=⟨vs[pos]'(by omega),IN (by omega)⟩
  have Z7:v= .pointer (some ⟨e.B root,off,none⟩):=cM pos v _ hv cU;have A7:vs=vs.take pos++v::vs.drop (pos+1):=by
   conv=>lhs;rw [<-List.take_append_drop pos vs]
   rw [List.drop_eq_getElem_cons (by omega)];have:=aaE.1 hv;obtain ⟨_,JU⟩:=this;rw [JU]
  obtain ⟨e1,aT,m1,h1,x1,xI,r1,lv⟩:=lz h ⟨λ_=>vs.take pos,rfl,by simp only [abL];omega,λi u s hu hs=>by
   rw [aaO] at hu hs;split at hu
   ·rename_i hi;rw [if_pos hi] at hs;exact cM i u s hu hs
   ·cases hu⟩ hK
  obtain ⟨e2,cK,m2,h2,x2,T3,r2,q8⟩:=lz h1 ⟨λ_=>vs.drop (pos+1),rfl,by simp only [List.length_drop];omega,λi u s hu hs=>by rw [aca] at hu hs;exact (cM _ u s hu hs).on x1.on (cw s)⟩ lv;split at q8
  ·rename_i cs hf;cases im:cR cs||aP cK.bI root||!dE c ks||!gv with
   |true=>simp [im] at q8
   |false=>
   simp only [im,cond_false] at q8;simp only [OF,aao] at im;obtain ⟨⟨⟨hm,hr⟩,dU⟩,hg⟩:=im;obtain ⟨ls,ps,ht,AP⟩:=vg q8;simp only [pN] at AP;obtain ⟨x,hx,Tk⟩:=fQ AP;unfold gW at Tk;split at Tk;rotate_left
   ·simp at Tk
   rename_i r0 outs;have hB:e2.B root=e.B root:=(x2.on.B root trivial).trans (x1.on.B root trivial);let Z2:Nat->Prop:=λb=>w.heap.size<=b\/gone e2 root ps b;have Ge:m1.length=pos:=by rw [<-r1.length,abL];omega
   have abi:e2.key=c.key:=h2.key;obtain ⟨f,hx,Pf,nX,aV⟩:=Hz hg _ _ hx;have bZ:bO c Z2 e2.φ w (c.key f) vs (m1++ .cell (.func off ls)::m2):=by
    simp only [bO,Pf,if_true];refine .inr (.inr ⟨pos,ks,ko,off,ls,e2.B root,nX,by rw [hv,Z7,hB],by rw [abA (by omega),Ge];simp,?_,(AX h2 hf hm dU ht).wide λb hb=> .inr hb⟩);rw [List.set_append_right _ _ (by omega),Ge,Nat.sub_self,List.set_cons_zero,A7];refine aE.append ?_ ⟨v,vs.drop (pos+1),rfl,?_,?_⟩
    ·have:=r1.mono x2.on.φ;rw [h1.key] at this;exact this
    ·rw [Z7];exact ⟨rfl,.rp (e.B root) off [] [] .nil (by simp)⟩
    ·rw [<-abi];exact r2
   have qI:=hS f _ _ hx e2.φ w Z2 vs (λb hb=> .inl hb) bZ h2.fB;refine ⟨hg,?_⟩;have zG:vs.toArray=cl.args.map a.eval:=by rw [oK,<-aa0,abg]
   refine oN ?_ qI ?_
   ·rw [zG];exact aV
   ·rintro v' w' ⟨φ',t1,t2,jt,pos',ks',ko',aA,HM,oq,Hv,hc⟩;rw [nX] at oq;simp only [AT,aac] at oq;obtain ⟨rfl,rfl,rfl⟩:=oq;rw [hv,Z7] at Hv;simp only [AT,adG,Addr.mk.injEq] at Hv;have et:aA=e2.B root:=by rw [<-Hv.1,hB]
    subst et;obtain ⟨e3,jm,h3,Yc,Z8⟩:=QI h2 hf hm hr ht (λb=>Iff.rfl) t1 t2 hc Tk;have nq:Trans Z e.φ w φ' w':=by
     have t0:Trans Z e2.φ w φ' w':=by have mb: ∀b,Z2 b->Z.In b:=λb hb=>hb.elim (h2.bt b) (wb h2 hf hr ht b);exact ⟨t1.ph,λb hb=>t1.heap b (λhz=>hb (mb b hz)),λb o hb=>t1.free b o (λhz=>hb (mb b hz)),t1.size,t1.rest⟩
     exact (x1.tr.trans x2.tr).trans t0
    cases oI with
    |none=>simp only at Z8;obtain ⟨e4,st4,q1,q2,q3⟩:=bS (v:=v') (s:= .sc .un) h3 (.of (by simp [aa]) trivial) Z8;exact ⟨e4,st4,q1,by rw [q3,Yc];exact nq,q2⟩
    |some I=>simp only at Z8;obtain ⟨s,g1,g2,Yd⟩:=pU (e:=e3) (st:=jm) h3.key (by rw [Yc];exact jt) Z8;obtain ⟨e4,st4,q1,q2,q3⟩:=bS h3 (.of g1 g2) Yd;exact ⟨e4,st4,q1,by rw [q3,Yc];exact nq,q2⟩
  ·simp at q8
 ·simp at hK
theorem Uo {cl:Call}{f pos:Nat}{ks ko:List LK}{oI:Option TI}(hS:Sound P c)(nX:c.sig (c.key f)=some (pos,ks,ko))(ho:o.op= .call cl)(iG:cl.callee= .value (.func f))(h:bg c Z e st a w)(hK:Wm c (c.key f) pos ks ko st (eB c st cl.args.toList) oI (λs st=>aG c st o.dst s K)=some r): c.bQ (c.key f)=true/\o.wp P a w (λa' w'=>Out c Z K r e.φ w a' w') Q:=Ij hS (λhg ms x hx=>⟨f,hx,hg,nX,by simp [execOp,ho,resolve,iG,Act.eval,aa1,invoke]⟩) h hK
theorem A8: ∀{l m:List LK},LN l m=true->l=m
 |[],[],_=>rfl
 | .k k1::r,.k k2::q,h=>by simp only [LN,aQ] at h;rw [A8 h.2];have h1:=h.1;cases k1<;>cases k2<;>simp [Wg,kB] at h1<;>first|rfl|(subst h1;rfl)|(obtain ⟨rfl,rfl⟩:=h1;rfl)
 | .own f t z::r,.own f' t' z'::q,h=>by simp only [LN,aQ,cY,decide_eq_true_eq,beq_iff_eq] at h;obtain ⟨rfl,rfl,rfl,h⟩:=h;rw [A8 h]
 |[],_::_,h=>by simp [LN] at h
 | .k _::_,[],h=>by simp [LN] at h
 | .k _::_,.own _ _ _::_,h=>by simp [LN] at h
 | .own _ _ _::_,[],h=>by simp [LN] at h
 | .own _ _ _::_,.k _::_,h=>by simp [LN] at h
theorem QM {pos:Nat}{ks ko:List LK}{l:List Nat}(h:HL c pos ks ko l=true): ∀k∈l,c.sig k=some (pos,ks,ko)/\c.bQ k=true:=by
 induction l with
 |nil=>simp
 |cons x l ih=>
  simp only [HL,aQ] at h;obtain ⟨h1,h2,h3⟩:=h;intro k hk;rcases sh.1 hk with rfl|hk
  ·refine ⟨?_,h2⟩;cases hs:c.sig k with
   |none=>rw [hs] at h1;cases h1
   |some sg=>rw [hs] at h1;simp only [aQ] at h1;obtain ⟨p,q,q'⟩:=sg;have e1:p=pos:=AI h1.1;have e2:q=ks:=A8 h1.2.1;have e3:q'=ko:=A8 h1.2.2;rw [e1,e2,e3]
  ·exact ih h3 k hk
theorem Ye {R:Type}{r:R}{l:List Nat}{k:Nat}{K:Nat->Option R}(h:O7 l k K=some r):k∈l/\K k=some r:=by
 induction l with
 |nil=>simp [O7] at h
 |cons p l ih=>
  cases l with
  |nil=>
   unfold O7 at h;cases hb:By k p with
   |false=>rw [hb] at h;cases h
   |true=>rw [hb] at h;have:=AI hb;subst this;exact ⟨by simp,h⟩
  |cons q l=>
   unfold O7 at h;cases hb:By k p with
   |false=>rw [hb] at h;obtain ⟨h1,h2⟩:=ih h;exact ⟨aai _ h1,h2⟩
   |true=>rw [hb] at h;have:=AI hb;subst this;exact ⟨by simp,h⟩
theorem Up {cl:Call}{x:Operand}{Nc:List Nat}{oI:Option TI}(hS:Sound P c)(ho:o.op= .call cl)(iG:cl.callee= .value x)(h:bg c Z e st a w)(hK:PC c Nc st (aq c st x) (eB c st cl.args.toList) oI (λs st=>aG c st o.dst s K)=some r): o.wp P a w (λa' w'=>Out c Z K r e.φ w a' w') Q:=by
 obtain ⟨hx,_⟩:=h.eval x;generalize aq c st x=s at hx hK;unfold PC at hK;split at hK
 ·rename_i m k0 abk;simp only [aa,aw] at hx;cases hs0:c.sig k0 with
  |none=>simp [hs0] at hK
  |some sg=>
  obtain ⟨pos,ks,ko⟩:=sg;simp only [hs0] at hK;cases xK:HL c pos ks ko (k0::abk) with
  |false=>simp [xK] at hK
  |true=>
  simp only [xK,cond_true] at hK;unfold gFn at hK;split at hK
  ·rename_i f aS;cases aS with
   |cons=>simp [gN] at hK
   |nil=>
   simp only [gN] at hK;obtain ⟨f',cap,hv,oO,ve,dS⟩: ∃(f':Nat) (cap:Array Value),a.eval x= .func (.func f') #[] cap/\e.key f'=f/\dq e.key e.φ cap.toList []/\ ∀m∈([]:List MV),m.one=true:=by obtain ⟨_,hx⟩:=hx;generalize oK:[a.eval x]=vs at hx;cases hx;rename_i f' cap h1 h2 h3;exact ⟨f',cap,by simpa using oK,h1,h2,h3⟩
   have abl:cap= #[]:=by generalize hl:cap.toList=l at ve;cases ve;exact aak.1 hl
   subst abl;have EI:c.key f'=f:=by rw [<-h.key];exact oO
   exact (Ij hS (λ_ ms y hy=>by obtain ⟨hm,hy⟩:=Ye hy;obtain ⟨h1,h2⟩:=QM xK f hm;refine ⟨f',by rw [EI];exact hy,by rw [EI];exact h2,by rw [EI];exact h1,?_⟩;simp [execOp,ho,resolve,iG,hv,aa1,invoke]) h hK).2
  ·simp at hK
 ·simp at hK
end
end Dn
/-
  A string that becomes a row of bytes. Conditions: none.
-/
namespace Dn
open Go
section
variable {P:Program}{c:Ctx}{Z:aO} {e e':Env}{st:St}{a:Act} {w w':World}{R:Type}{K:St->Option R}{r:R}{Q:Exit->Act->World->Prop}{o:Oper}
theorem Uq {y t:Nat}(h:isLT c y=true):Ke c y t=false:=by
 unfold isLT at h;unfold Ke;cases hy:c.tv y with
 |none=>rfl
 |some Y=>
  rw [hy] at h;cases c.tv t with
  |none=>rfl
  |some I=>
   have h:Y.pH=true:=h;have:Y.J8=false:=by unfold TI.pH at h;unfold TI.J8;split at h<;>simp_all
   simp [this]
theorem abm {y t:TypeId}{x:Operand}(ho:o.op= .convert y t x)(hb:Ke c y t=true)(hT:dt P c.ti)(h:bg c Z e st a w)(hK:(match aq c st x with| .sc (.p (.s l))=>aG c st o.dst (.sc (.p (.list (pL l)))) K|_=>none)=some r): o.wp P a w (λa' w'=>bX w w'/\Out c Z K r e.φ w a' w') Q:=by
 unfold Ke at hb;split at hb;rotate_left
 ·cases hb
 rename_i Y I hY hI;split at hb;rotate_left
 ·simp at hb
 rename_i E hE;simp only [aQ] at hb;obtain ⟨⟨np,hL⟩,hU⟩:=hb;obtain ⟨hYi,_⟩:=aD hY;obtain ⟨fH,hc⟩:=aD hI;obtain ⟨fR,iT⟩:=aD hE;obtain ⟨hu,E2,ot,_,cU⟩:=TI.fJ (hT t I fH) hL;rw [fR] at ot;cases ot;have hd:=TI.xJ (hT y Y hYi) np;obtain ⟨he,jT⟩:=Gj (hT _ E fR) hU;obtain ⟨hx,_⟩:=h.eval x;split at hK;rotate_left
 ·cases hK
 rename_i l Gg;rw [Gg] at hx;obtain ⟨b,Ud,rfl⟩:=vV hx;have KJ:=run_bytes_of_string (P:=P) w y t I.elem b hd hu he;obtain ⟨C,hC⟩: ∃C,C=grownCap w b.size 0 I.elem:=⟨_,rfl⟩
 rw [<-hC] at KJ;obtain ⟨W,hW⟩: ∃W,W=w.drew.alloc (.cells (bytesRow b C) I.elem ((bytesRow b C).size,(bytesRow b C).size+1)):=⟨_,rfl⟩
 rw [<-hW] at KJ;have aV:(execOp a.eval o).run P w= .ok (.value (.slice (some ⟨w.heap.size,0,none⟩) b.size C)) W:=by simp [execOp,ho,Ud,KJ]
 have iy:W.heap[w.heap.size]? =some (.cells (bytesRow b C) I.elem ((bytesRow b C).size,(bytesRow b C).size+1)):=by rw [hW];exact dm w.drew _
 have hg:bX w W:=by rw [hW];exact ⟨by simp,λk hk=>iR w.drew _ k hk,⟨rfl,rfl,rfl⟩⟩
 have yE: ∀off,e.φ w.heap.size off=none:=by
  intro off;cases hp:e.φ w.heap.size off with
  |none=>rfl
  |some u=>have:=aah w _ (h.fB _ _ _ hp);simp at this
 obtain ⟨flat,ZX⟩: ∃flat:List Value,flat=b.data.toList.map λx=>adC .u8 (x.toNat:Int):=⟨_,rfl⟩
 have hlen:flat.length=b.size:=by rw [ZX,aap];rfl
 have uj: ∀off,off<flat.length->(bytesRow b C)[off]? =flat[off]? :=by intro off ho;unfold bytesRow;rw [Array.getElem?_append_left (by rw [Array.size_map];rw [hlen] at ho;exact ho),ZX,Array.getElem?_map,aal,Array.getElem?_toList]
 have hle:dJ e.φ (λk off=>if k=w.heap.size/\off<flat.length then flat[off]? else e.φ k off):=by
  intro k off u hu;by_cases AO:k=w.heap.size
  ·subst AO;rw [yE] at hu;cases hu
  ·simp only [AO,false_and,if_false];exact hu
 have du: ∀k off u,(λk off=>if k=w.heap.size/\off<flat.length then flat[off]? else e.φ k off) k off=some u->W.cell? ⟨k,off,none⟩=some u:=by
  intro k off u hu;by_cases AO:k=w.heap.size/\off<flat.length
  ·simp only [AO,and_self,if_true] at hu;obtain ⟨rfl,cz⟩:=AO;simp only [World.cell?,iy];rw [uj off cz];exact hu
  ·simp only [AO,if_false] at hu;exact hg.cell (h.fB k off u hu)
 have gx:=(h.grow hg).Wv hle du (by
   intro t2 DB ht off;have Ez:=h.slot t2;rw [ht] at Ez;obtain ⟨o2,h1,_⟩:=Ez.2.obj;have:=aC h1;have cg: ¬e.B t2=w.heap.size:=by omega
   simp [cg])
  (by
   intro f o2 k bJ lp off;obtain ⟨J,nS,_,_,h3,_⟩:=(h.dV f o2 bJ).row;rcases h3.2 with ⟨h1,_⟩|⟨g,cap,bU,h1,_,h4,_⟩
   ·rw [h1] at lp;simp [AS] at lp
   ·rw [h1] at lp;simp [AS] at lp;subst lp;have:=aC h4;have cg: ¬g=w.heap.size:=by omega
    simp [cg])
 have z7:(pL b.data.toList).length=b.size:=by unfold pL;rw [aap];rfl
 refine Kq (s:= .sc (.p (.list (pL b.data.toList)))) hg aV gx ?_ (.of ?_ trivial) hK
 ·refine ⟨hle,λk hz z7=>hg.ln k z7,λk off hz=> ?_,hg.size,hg.rest⟩;have cg: ¬k=w.heap.size:=by intro KC;subst KC;exact hz (h.bt _ (aae _))
  simp [cg]
 ·simp only [aa,aw];rw [<-z7];refine ⟨rfl,LZ (size:=1) (cells:=flat) ?_ ?_ (λoff rN=>by simp [rN])⟩
  ·rw [ZX];exact Gk _
  ·rw [z7,hC];exact grownCap_ge ..
theorem KK {k:IntKind}: ∀{xs:List MV} {K':List Int->Option R},yw k xs K'=some r-> ∃ns:List Int,xs=ns.map (MV.i k)/\K' ns=some r:=by
 intro xs;induction xs with
 |nil=>intro K' h;exact ⟨[],rfl,h⟩
 |cons m xs ih=>
  intro K' h;simp only [yw] at h;unfold gI at h;split at h
  ·rename_i k' n;by_cases hk:k'=k
   ·subst hk;simp only [decide_true,cond_true] at h;obtain ⟨ns,rfl,h'⟩:=ih h;exact ⟨n::ns,rfl,h'⟩
   ·simp [hk] at h
  ·cases h
theorem Yf {t:TypeId}{x:Operand}{I:TI}(ho:o.op= .sliceToArrayPointer t x)(hI:c.tv t=some I)(hT:dt P c.ti)(h:bg c Z e st a w)(hK:XA st I (aq c st x) (λs st=>aG c st o.dst s K)=some r):o.wp P a w (Out c Z K r e.φ w) Q:=by
 obtain ⟨fH,hc⟩:=aD hI;obtain ⟨hx,_⟩:=h.eval x;unfold XA at hK;split at hK;rotate_left
 ·cases hK
 rename_i k m cu hl;obtain ⟨e1,aT,y,h1,x1,_,hy,hK⟩:=gu h hx hK;unfold gL at hK;split at hK;rotate_left
 ·cases hK
 rename_i xs;obtain ⟨hlen,hK⟩:=cj hK;have hlen:=of_decide_eq_true hlen;obtain ⟨ns,rfl,hK'⟩:=KK hK;replace hK:=hK';obtain ⟨d,i,hu,h2,h3,h4⟩:=hT t I fH;cases d<;>simp only [kM,hl,cu] at h4<;>first|(exfalso;simp_all;done)|skip
 obtain ⟨_,_,_,_,kk,mm,rfl,_,oJ,_⟩:=h4;simp only [No,Kd.h.injEq,and_true] at oJ;obtain ⟨rfl,rfl⟩:=oJ;obtain ⟨_,hy⟩:=hy;generalize hv:[a.eval x]=vs at hy;cases hy with
 |list ad cap _ aA off xt f vK z6 LS h4' h5'=>
 simp only [No,and_true] at hv;simp only [aap] at hlen vK z6 LS h4' h5' hv;have Gi:=z6 (by omega);have jj: ∀j (hj:j<ns.length),e1.φ aA (off+j)=some (.int k ns[j]):=by
  intro j hj;have h6:=h5' j hj;simp only [acF] at h6;have hf:f j=[.int k ns[j]]:=by generalize f j=u at h6;cases h6;rfl
  have hf0:(f 0).length=xt:=LS 0 (by omega);have hfj:=LS j hj;rw [hf] at hfj;have h7:=h4' j 0 hj (by rw [<-hfj];simp);rw [hf,<-hfj] at h7;simpa using h7
 refine fin (v:= .pointer ad) (s:= .rp [.hs k m (ns.take (m+2))] 0) ?_ h1 x1.tr (.of ?_ trivial) hK
 ·have: ¬ns.length<m+2:=by omega
  simp [execOp,ho,hv,Instr.arrayAt,run_underlying hu,this]
 ·simp only [aa];refine ⟨aA,off,aX k (ns.take (m+2)),by rw [Gi];simp,⟨_,[],by simp,⟨rfl,by simp;omega⟩,rfl⟩,rfl,λj hj=> ?_⟩;have JT:j<m+2:=by simpa [bC] using abv hj (by simp [bC];omega)
  rw [jj j (by omega),l9 k _ j (by simp;omega)];simp [List.getD,IN (show j<ns.length by omega),aaO,JT]
end
end Dn
/-
  Every operation. Conditions: none.
-/
namespace Dn
open Go
section
variable {P:Program}{c:Ctx} {Z Z':aO} {e e':Env}{st:St}{a:Act} {w w':World}{R:Type}{K:St->Option R}{r:R}{Q:Exit->Act->World->Prop}{o:Oper}
structure Good (P:Program) (c:Ctx):Prop where
 ti:dt P c.ti
 eq:HV P c.ti
 fn:Sound P c
 fk: ∀t k,c.fk t=some k->P.underlying t=some (.float k)
 mt:rR P c
def KL (c:Ctx)(o:Oper):Option MS:=match rD o with|some t=>oz c t|none=>none
def cO (c:Ctx)(o:Oper) (w w':World):Prop:=match KL c o with|some s=>qK s w w'|none=>bX w w'
theorem bX.trans' {w w' tp:World}(h:bX w w') (h':bX w' tp):bX w tp:=⟨aaP h.size h'.size,λb hb=>(h'.ln b (abv hb h.size)).trans (h.ln b hb),h.rest.trans h'.rest⟩
theorem bX.for {w w':World}(h:bX w w'):cO c o w w':=by
 unfold cO;split
 ·exact h.m _
 ·exact h
theorem cO.trans {w w' tp:World}(h:cO c o w w') (h':cO c o w' tp):cO c o w tp:=by
 unfold cO at *;split at h
 ·rename_i s hs;simp only [hs] at h'⊢;exact qK.trans h h'
 ·rename_i hs;simp only [hs] at h'⊢;exact bX.trans' h h'
inductive kb (P:Program) (c:Ctx) (Z:aO) {R:Type} (K:St->Option R) (r:R) (e:Env) (a:Act) (w:World) (o:Oper) (Q:Exit->Act->World->Prop):Prop
 |rd:(eE c o=false/\c8 c o=false)->Rd P c Z K r e a w o (λ_=>True)->kb P c Z K r e a w o Q
 |ld:(eE c o=true/\c8 c o=false)->iA e.φ w->Rd P c Z K r e a w o (λw'=>(still c o=false->cO c o w w')/\iA e.φ w')->kb P c Z K r e a w o Q
 |gr:(dx o=false\/c8 c o=true)->o.wp P a w (λa' w'=>bX w w'/\Out c Z K r e.φ w a' w') Q->kb P c Z K r e a w o Q
 |cl (f:Nat):(dx o=false/\qY c o=!c.bQ (c.key f))->o.wp P a w (λa' w'=>(c.bQ (c.key f)=false->bX w w')/\Out c Z K r e.φ w a' w') Q->kb P c Z K r e a w o Q
 |an:(dx o=false/\qY c o=false)->o.wp P a w (Out c Z K r e.φ w) Q->kb P c Z K r e a w o Q
 |me (t:Nat) (s:MS):PF o=some t->oz c t=some s->(dx o=false/\qY c o=false)->o.wp P a w (λa' w'=>qK s w w'/\Out c Z K r e.φ w a' w') Q->kb P c Z K r e a w o Q
theorem KM (hG:Good P c)(h:bg c Z e st a w)(hK:ZR c o st (λs st=>aG c st o.dst s K)=some r):kb P c Z K r e a w o Q:=by
 have hT:=hG.ti;unfold ZR at hK;split at hK
 ·rename_i ho;exact .rd ⟨by simp [eE,iK, *],by simp [c8, *]⟩ (Gd (.inl ho) h hK)
 ·rename_i x ho;cases hm:c8 c o with
  |true=>exact .gr (.inr hm) (Uk ho h hK)
  |false=>
   refine .rd ⟨by simp [eE,iK, *],hm⟩ (Gd (.inr ho) h ?_);unfold zY at hK;unfold c8 at hm;rw [ho] at hm;split at hK
   ·rename_i t q hq;rw [hq] at hm;simp at hm
   ·exact hK
 ·rename_i t ho;cases hs:oz c t with
  |none=>simp [hs] at hK
  |some s=>simp only [hs] at hK;exact .an (by simp [dx,qY, *]) (KG ho (Ul hs) h hK)
 ·rename_i t m k ho;unfold Wj at hK;cases hs:oz c t with
  |none=>simp [hs] at hK
  |some s=>simp only [hs] at hK;obtain ⟨v,h1,h2⟩:=NE ho (hG.mt t s hs) h hK;refine .ld ⟨by simp [eE,iK,ho],by simp [c8,ho]⟩ h.fB ⟨v,λw' hw=>h1 w' ?_,h2⟩;have:=hw.1 (by simp [still,ho]);simpa [cO,KL,rD,ho,hs] using this
 ·rename_i t m k v ho;unfold Wk at hK;cases hs:oz c t with
  |none=>simp [hs] at hK
  |some s=>simp only [hs] at hK;exact .an (by simp [dx,qY, *]) (Gs ho (hG.mt t s hs) h hK)
 ·rename_i t m k ho;unfold PA at hK;cases hs:oz c t with
  |none=>simp [hs] at hK
  |some s=>simp only [hs] at hK;exact .me t s (by simp [PF,ho]) hs (by simp [dx,qY, *]) (yI ho (hG.mt t s hs) h hK)
 ·rename_i t m i v ho;unfold aaz at hK;cases hs:oz c t with
  |none=>simp [hs] at hK
  |some s=>simp only [hs] at hK;exact .an (by simp [dx,qY, *]) (DM (t:=t) ho h hK)
 ·rename_i ho;exact .rd ⟨by simp [eE,iK, *],by simp [c8, *]⟩ (HT ho h hK)
 ·rename_i ho;exact .rd ⟨by simp [eE,iK, *],by simp [c8, *]⟩ (TS ho h hK)
 ·rename_i t ho;cases hI:c.tv t with
  |none=>simp [hI] at hK
  |some I=>simp only [hI] at hK;exact .gr (.inl (by simp [dx, *])) (P1 ho hI hT h hK)
 ·rename_i t x ho;cases hI:c.tv t with
  |none=>simp [hI] at hK
  |some I=>simp only [hI] at hK;exact .gr (.inl (by simp [dx, *])) (XQ ho h hK)
 ·rename_i t parts ho;cases hI:c.tv t with
  |none=>simp [hI] at hK
  |some I=>simp only [hI] at hK;exact .rd ⟨by simp [eE,iK, *],by simp [c8, *]⟩ (Qe ho hI hT h hK)
 ·rename_i t n parts ho;cases hI:c.tv t with
  |none=>simp [hI] at hK
  |some I=>
   simp only [hI] at hK;cases hL:I.pH with
   |false=>simp [hL] at hK
   |true=>
    simp only [hL,cond_true] at hK;cases hE:c.tv I.elem with
    |none=>simp [hE] at hK
    |some E=>
     simp only [hE] at hK;cases fa:acd (n *E.size) 16777216 with
     |false=>simp [fa] at hK
     |true=>simp only [fa,cond_true] at hK;exact .gr (.inl (by simp [dx, *])) (DK ho hI hL hE hT h fa hK)
 ·rename_i t x y ho;cases hI:c.tv t with
  |none=>simp [hI] at hK
  |some I=>
   simp only [hI] at hK;cases hL:I.pH with
   |false=>simp [hL] at hK
   |true=>
    simp only [hL,cond_true] at hK;cases hE:c.tv I.elem with
    |none=>simp [hE] at hK
    |some E=>simp only [hE] at hK;exact .gr (.inl (by simp [dx, *])) (Gt ho hI hL hE hT h hK)
 ·rename_i t x ho;cases hI:c.tv t with
  |none=>simp [hI] at hK
  |some I=>
   simp only [hI] at hK;cases hs:still c o with
   |true=>
    simp only [hs,cond_true] at hK;split at hK
    ·rename_i cs off Dq;obtain ⟨v,h1,h2⟩:=PZ ho hI hT h Dq hK;exact .ld ⟨by simp [eE,iK, *],by simp [c8, *]⟩ h.fB ⟨v,λw' hw=>h1 w' hw.2,h2⟩
    ·simp at hK
   |false=>simp only [hs,cond_false] at hK;obtain ⟨v,h1,h2⟩:=TW ho hI hT h hK;refine .ld ⟨by simp [eE,iK, *],by simp [c8, *]⟩ h.fB ⟨v,λw' hw=>h1 w' ?_,h2⟩;have:=hw.1 hs;simpa [cO,KL,rD,ho] using this
 ·rename_i t x y ho;cases hI:c.tv t with
  |none=>simp [hI] at hK
  |some I=>simp only [hI] at hK;exact .an (by simp [dx,qY, *]) (Qb ho hI hT h hK)
 ·rename_i op t x y t' ho;exact .rd ⟨by simp [eE,iK, *],by simp [c8, *]⟩ (PX ho h hG.eq hK)
 ·rename_i ho;exact .rd ⟨by simp [eE,iK, *],by simp [c8, *]⟩ (TT ho h hK)
 ·rename_i s t x ho;cases hL:isLT c s with
  |true=>
   simp only [hL,cond_true] at hK;cases hY:c.tv s with
   |none=>simp [hY] at hK
   |some Y=>
    cases hI:c.tv t with
    |none=>simp [hY,hI] at hK
    |some I=>
     simp only [hY,hI] at hK;obtain ⟨v,h1,h2⟩:=QB ho hY hI (by simpa [isLT,hY] using hL) hT h hK;refine .ld ⟨by simp [eE,iK,ho,hL],by simp [c8,ho,Uq hL]⟩ h.fB ⟨v,λw' hw=>h1 w' ?_,h2⟩;have hs:still c o=false:=by simp [still,ho]
     have:=hw.1 hs;simpa [cO,KL,rD,ho] using this
  |false=>
   simp only [hL,cond_false] at hK;cases hSB:Ke c s t with
   |true=>simp only [hSB,cond_true] at hK;exact .gr (.inr (by simp [c8,ho,hSB])) (abm ho hSB hT h hK)
   |false=>
   simp only [hSB,cond_false] at hK;cases hS:c.ti s with
   |none=>simp [hS] at hK
   |some S=>
    simp only [hS] at hK;cases hI:c.tv t with
    |none=>simp [hI] at hK
    |some I=>simp only [hI] at hK;obtain ⟨d,i,h1,_⟩:=hT s S hS;exact .rd ⟨by simp [eE,iK,ho,hL],by simp [c8,ho,hSB]⟩ (Ks ho (aD hI).1 hT ⟨d,h1⟩ (hG.fk t) h hK)
 ·rename_i t x ho;cases hI:c.tv t with
  |none=>simp [hI] at hK
  |some I=>simp only [hI] at hK;exact .an (by simp [dx,qY, *]) (QA ho hI hT h hK)
 ·rename_i x ho;exact .an (by simp [dx,qY, *]) (Um ho h hK)
 ·rename_i f first aS ho
  split at hK
  ·rename_i hf;have hf:first= #[]:=by apply aak.1;simpa using hf
   subst hf;exact .rd ⟨by simp [eE,iK, *],by simp [c8, *]⟩ (H3 ho h hK)
  ·simp at hK
 ·rename_i t x lo hi ho;cases hI:c.tv t with
  |none=>simp [hI] at hK
  |some I=>simp only [hI] at hK;exact .rd ⟨by simp [eE,iK, *],by simp [c8, *]⟩ (P8 ho hI hT h hK)
 ·rename_i t x y z ho;cases hI:c.tv t with
  |none=>simp [hI] at hK
  |some I=>simp only [hI] at hK;exact .rd ⟨by simp [eE,iK, *],by simp [c8, *]⟩ (T8 ho hI hT h hK)
 ·rename_i t x f ho;cases hI:c.tv t with
  |none=>simp [hI] at hK
  |some I=>simp only [hI] at hK;exact .rd ⟨by simp [eE,iK, *],by simp [c8, *]⟩ (Ni ho hI hT h hK)
 ·rename_i t x f ho;cases hI:c.tv t with
  |none=>simp [hI] at hK
  |some I=>simp only [hI] at hK;exact .rd ⟨by simp [eE,iK, *],by simp [c8, *]⟩ (XR ho hI hT h hK)
 ·rename_i t x y ho;cases hI:c.tv t with
  |none=>simp [hI] at hK
  |some I=>
   simp only [hI] at hK;cases hE:c.tv I.elem with
   |none=>simp [hE] at hK
   |some E=>simp only [hE] at hK;exact .rd ⟨by simp [eE,iK, *],by simp [c8, *]⟩ (XT ho hI hE hT h hK)
 ·rename_i t x y ho;cases hI:c.tv t with
  |none=>simp [hI] at hK
  |some I=>simp only [hI] at hK;exact .rd ⟨by simp [eE,iK, *],by simp [c8, *]⟩ (aaG ho (aD hI).1 hT h hK)
 ·rename_i ho;exact .rd ⟨by simp [eE,iK, *],by simp [c8, *]⟩ (XP ho h hK)
 ·rename_i t x ho;cases hI:c.tv t with
  |none=>simp [hI] at hK
  |some I=>simp only [hI] at hK;exact .an (by simp [dx,qY, *]) (Yf ho hI hT h hK)
 ·rename_i cl ho;split at hK
  ·rename_i f iG;cases hsg:c.sig (c.key f) with
   |some sg=>obtain ⟨pos,ks⟩:=sg;simp only [hsg] at hK;obtain ⟨hg,hw⟩:=Uo hG.fn hsg ho iG h hK;exact .an (by simp [dx,qY,ho,iG,hg]) hw
   |none=>
   simp only [hsg] at hK;cases hI:c.ti o.type with
   |none=>simp [hI] at hK
   |some I=>simp only [hI] at hK;exact .cl f (by simp [dx,qY, *]) (Ue hG.fn ho iG h hK)
  ·rename_i x _ iG;cases hdy:c.dyn with
   |cons k0 Nc=>simp only [hdy] at hK;exact .an (by simp [dx,qY,ho,iG,hdy]) (Up hG.fn ho iG h hK)
   |nil=>
   simp only [hdy] at hK;cases hI:c.ti o.type with
   |none=>simp [hI] at hK
   |some I=>simp only [hI] at hK;exact .gr (.inl (by simp [dx, *])) (X2 hG.fn ho iG h hK)
  ·rename_i iG;split at hK
   ·rename_i t DI;cases hI:c.tv t with
    |none=>simp [hI] at hK
    |some I=>simp only [hI] at hK;exact .rd ⟨by simp [eE,iK, *],by simp [c8, *]⟩ (XS ho iG DI hI hT h hK)
   ·simp at hK
  ·rename_i iG;split at hK
   ·rename_i s x t t' Dq DI;cases hI:c.tv t with
    |none=>simp [hI] at hK
    |some I=>
     simp only [hI] at hK;cases hL:I.pH with
     |false=>simp [hL] at hK
     |true=>
      simp only [hL,cond_true] at hK;cases hE:c.tv I.elem with
      |none=>simp [hE] at hK
      |some E=>
       simp only [hE] at hK;obtain ⟨so,xo,bZ,rfl,rfl⟩: ∃so xo,cl.args.toList=[so,xo]/\aq c st so=s/\aq c st xo=x:=by
        rw [eg] at Dq;match hl:cl.args.toList,Dq with
        |[so,xo],Dq=>simp at Dq;exact ⟨so,xo,rfl,Dq.1,Dq.2⟩
        |[],Dq=>simp at Dq
        |[_],Dq=>simp at Dq
        |_::_::_::_,Dq=>simp at Dq
       exact .an (by simp [dx,qY,iG,ho]) (Ny ho iG bZ DI hI hL hE hT h hK)
   ·simp at hK
  ·rename_i iG;rw [eg] at hK;split at hK
   ·rename_i m ek;cases hl:cl.args.toList with
    |nil=>rw [hl] at ek;simp at ek
    |cons x xs=>
     rw [hl] at ek;simp only [aau,No,ab5] at ek;obtain ⟨he,rfl⟩:=ek;unfold gCx at hK;split at hK
     ·rename_i u v;have hx:=ni (by have:=(h.eval x).1;rw [he] at this;exact this);have Nl:cl.args= #[x]:=by rw [<-aak,hl]
      refine .rd ⟨by simp [eE,iK, *],by simp [c8, *]⟩ (dH h ?_ (AG (.float .f64 u) rfl) trivial hK);have hb: ∀ts ty,Builtin.real_ ts ty #[.complex .f64 u v]=pure (.float .f64 u):=λ_ _=>rfl;simp [execOp,ho,resolve,iG,invoke,builtin,hb,Nl,hx]
     ·cases hK
   ·cases hK
  ·rename_i iG;rw [eg] at hK;split at hK
   ·rename_i m ek;cases hl:cl.args.toList with
    |nil=>rw [hl] at ek;simp at ek
    |cons x xs=>
     rw [hl] at ek;simp only [aau,No,ab5] at ek;obtain ⟨he,rfl⟩:=ek;unfold gCx at hK;split at hK
     ·rename_i u v;have hx:=ni (by have:=(h.eval x).1;rw [he] at this;exact this);have Nl:cl.args= #[x]:=by rw [<-aak,hl]
      refine .rd ⟨by simp [eE,iK, *],by simp [c8, *]⟩ (dH h ?_ (AG (.float .f64 v) rfl) trivial hK);have hb: ∀ts ty,Builtin.imag_ ts ty #[.complex .f64 u v]=pure (.float .f64 v):=λ_ _=>rfl;simp [execOp,ho,resolve,iG,invoke,builtin,hb,Nl,hx]
     ·cases hK
   ·cases hK
  ·rename_i iG;rw [eg] at hK;split at hK
   ·rename_i u v ek;match hl:cl.args.toList,ek with
    |[x,y],ek=>
     simp only [aau,List.map_nil,No,and_true] at ek;have hx:=ni (by have:=(h.eval x).1;rw [ek.1] at this;exact this);have hy:=ni (by have:=(h.eval y).1;rw [ek.2] at this;exact this);have Nl:cl.args= #[x,y]:=by rw [<-aak,hl]
     refine .rd ⟨by simp [eE,iK, *],by simp [c8, *]⟩ (dH h ?_ (AG (.complex .f64 u v) rfl) trivial hK);have hb: ∀ts ty,Builtin.complex_ ts ty #[.float .f64 u,.float .f64 v]=pure (.complex .f64 u v):=λ_ _=>rfl;simp [execOp,ho,resolve,iG,invoke,builtin,hb,Nl,hx,hy]
    |[],ek=>simp at ek
    |[_],ek=>simp at ek
    |_::_::_::_,ek=>simp at ek
   ·cases hK
  ·rename_i iG;cases hm:Kb false (eB c st cl.args.toList) with
   |none=>simp [hm] at hK
   |some m=>simp only [hm] at hK;exact .rd ⟨by simp [eE,iK, *],by simp [c8, *]⟩ (EC (mx:=false) ho iG h hm hK)
  ·rename_i iG;cases hm:Kb true (eB c st cl.args.toList) with
   |none=>simp [hm] at hK
   |some m=>simp only [hm] at hK;exact .rd ⟨by simp [eE,iK, *],by simp [c8, *]⟩ (EC (mx:=true) ho iG h hm hK)
  ·simp at hK
 ·simp at hK
theorem kb.wp (h:kb P c Z K r e a w o Q):o.wp P a w (Out c Z K r e.φ w) Q:=by
 cases h with
 |rd _ h=>exact h.wp trivial
 |ld _ hi h=>exact h.wp ⟨λ_=>(bX.refl w).for,hi⟩
 |me _ _ _ _ _ h=>exact abn (λa w h=>h.2) h
 |gr _ h=>exact abn (λa w h=>h.2) h
 |cl f _ h=>exact abn (λa w h=>h.2) h
 |an _ h=>exact h
theorem kb.afc (h:kb P c Z K r e a w o Q)(hr:dx o=true)(hv:c8 c o=false):Rd P c Z K r e a w o (λw'=>eE c o=true->(still c o=false->cO c o w w')/\iA e.φ w'):=by
 cases h with
 |rd hl h=>obtain ⟨v,h1,h2⟩:=h;exact ⟨v,λw' _=>h1 w' trivial,h2⟩
 |ld hl _ h=>obtain ⟨v,h1,h2⟩:=h;exact ⟨v,λw' hg=>h1 w' (hg hl.1),h2⟩
 |gr hn h=>rw [hr,hv] at hn;simp at hn
 |me _ _ _ _ hn h=>rw [hr] at hn;cases hn.1
 |cl f hn h=>rw [hr] at hn;cases hn.1
 |an hn h=>rw [hr] at hn;cases hn.1
theorem kb.afd (h:kb P c Z K r e a w o Q)(hr:dx o=true\/qY c o=true):o.wp P a w (λa' w'=>bX w w'/\Out c Z K r e.φ w a' w') Q:=by
 have rd: ∀G:World->Prop,G w->Rd P c Z K r e a w o G->o.wp P a w (λa' w'=>bX w w'/\Out c Z K r e.φ w a' w') Q:=by rintro G hG ⟨v,h1,h2⟩;unfold adD;rw [h1 w hG,abU];exact ⟨.refl w,h2⟩
 cases h with
 |rd hl h=>exact rd _ trivial h
 |ld _ hi h=>exact rd _ ⟨λ_=>(bX.refl w).for,hi⟩ h
 |me _ _ _ _ hn h=>
  rcases hr with hr|hr
  ·rw [hr] at hn;cases hn.1
  ·rw [hr] at hn;cases hn.2
 |gr hn h=>exact h
 |cl f hn h=>
  rcases hr with hr|hr
  ·rw [hr] at hn;cases hn.1
  ·rw [hn.2] at hr;exact abn (λa w h=>⟨h.1 (by simpa using hr),h.2⟩) h
 |an hn h=>
  rcases hr with hr|hr
  ·rw [hr] at hn;cases hn.1
  ·rw [hr] at hn;cases hn.2
theorem abo (hG:Good P c)(h:bg c Z e st a w)(hK:ZR c o st (λs st=>aG c st o.dst s K)=some r){oi:Oper}(hr:lT oi o=true):o.wp P a w (λa' w'=>cO c oi w w'/\Out c Z K r e.φ w a' w') Q:=by
 unfold lT at hr;split at hr
 ·rename_i t t' h1 h2;have ht:=AI hr;subst ht;have Tl: ∃m k,o.op= .mapEntry t m k:=by
   unfold PF at h2;split at h2
   ·rename_i u m k ho;cases h2;exact ⟨m,k,ho⟩
   ·cases h2
  obtain ⟨m,k,ho⟩:=Tl;unfold ZR at hK;simp only [ho] at hK;unfold PA at hK;cases hs:oz c t with
  |none=>simp [hs] at hK
  |some s=>simp only [hs] at hK;refine abn (λa w h=>⟨?_,h.2⟩) (yI ho (hG.mt t s hs) h hK);simpa [cO,KL,h1,hs] using h.1
 ·cases hr
end
end Dn
/-
  Guards; operations one behind the other. Conditions: none.
-/
namespace Dn
open Go
section
variable {P:Program}{c:Ctx} {Z Z':aO} {e e':Env}{st:St}{a:Act} {w w':World}{R:Type}{K:St->Option R}{r:R}{Q:Exit->Act->World->Prop}{o:Oper}
theorem bg.frame {j8:Fr}(h:bg c Z e st a w)(hf: ∀t,ah j8 t=ah st.fr t)(hn:(ax j8).Nodup):bg c Z e {st with fr:=j8} a w:=by
 have hr: ∀s,bK st.fr s->bK j8 s:=by intro s hs;cases s<;>simp only [bK,hf] at hs⊢ <;>exact hs
 exact ⟨h.defers,h.size,h.m,h.key,hn,λt=>by show bk Z e w t _ (ah j8 t);rw [hf];exact h.slot t,λt=>by show bK j8 (ah j8 t);rw [hf];exact hr _ (h.root t),h.dV,λt t' cs dj h1 h2=>h.bb t t' cs dj (by rw [<-hf];exact h1) (by rw [<-hf];exact h2),λt cs f o h1=>h.bf t cs f o (by rw [<-hf];exact h1),h.ff,h.fB,h.bt⟩
theorem bg.reset {t:Nat}{s:Slot}(h:bg c Z e st a w)(hs:ah st.fr t=s):bg c Z e {st with fr:=bu st.fr t s} a w:=by
 refine h.frame (λt'=> ?_) (cD h.nodup);rw [a8];by_cases ht:t'=t
 ·subst ht;simp [hs]
 ·simp [ht]
theorem Ik {ops:Array Oper} {K':Bool->St->Option R}(h:bg c Z e st a w)(hK:Ki ops.toList o st K'=some r): ∃bm go,bg c Z e bm a w/\K' go bm=some r/\adu o (yielded ops a.tmps)=go:=by
 unfold Ki at hK;unfold adu;cases hg:o.guard with
 |none=>simp only [hg] at hK;exact ⟨st,true,h,hK,rfl⟩
 |some jw=>
  obtain ⟨j,want⟩:=jw;simp only [hg] at hK;cases hp:ops.toList[j]? with
  |none=>simp [hp] at hK
  |some p=>
   simp only [hp] at hK;have Gf:ops[j]? =some p:=by simpa using hp
   cases hd:p.dst with
   |none=>simp [hd] at hK
   |some t=>
    simp only [hd] at hK;have iw:=h.slot t;split at hK
    ·rename_i v hv;rw [hv] at iw;have Gr:a.tmps.getD t undef= .bool v:=yz iw;have hy:yielded ops a.tmps j=some v:=by
      unfold yielded;have:a.tmps[t]? =some (.bool v):=by
       rw [abr] at Gr;cases ht:a.tmps[t]? with
       |none=>rw [ht] at Gr;simp [undef] at Gr
       |some u=>rw [ht] at Gr;simpa using Gr
      simp [Gf,hd,this]
     simp only [hy];cases v<;>simp only [gV] at hK
     ·exact ⟨_,_,h.reset hv,hK,by cases want<;>rfl⟩
     ·exact ⟨_,_,h.reset hv,hK,by cases want<;>rfl⟩
    ·rename_i hv;rw [hv] at iw;simp only [bk,aa] at iw;have hy:yielded ops a.tmps j=none:=by
      unfold yielded;rw [abr] at iw;cases ht:a.tmps[t]? with
      |none=>simp [Gf,hd,ht]
      |some u=>rw [ht] at iw;simp at iw;subst iw;simp [Gf,hd,ht,undef]
     simp only [hy];exact ⟨st,false,h,hK,by cases want<;>rfl⟩
    ·simp at hK
theorem Mb {ops:Array Oper}{i:Nat}(hG:Good P c)(hi:ops[i]? =some o)(h:bg c Z e st a w)(hK:LO c ops.toList o st K=some r): wpOp P ops Q i (Out c Z K r e.φ w) a w:=by
 unfold LO at hK;obtain ⟨bm,go,h',hK,hw⟩:=Ik h hK;unfold wpOp;simp only [hi];rw [hw];cases go with
 |true=>simp only [cond_true] at hK;simp only [if_true];exact .inl (KM hG h' hK).wp
 |false=>simp only [cond_false] at hK;simp only [aan,if_false];obtain ⟨e2,cK,h1,h2,h3⟩:=bS (v:=undef) (s:= .skip) h' ⟨rfl,trivial⟩ hK;exact ⟨e2,cK,h1,by rw [h3];exact .refl _ _ _,h2⟩
theorem Yg {ops:Array Oper}{is:List Nat}(hG:Good P c): ∀{os:List Oper} {e:Env} {st:St} {a:Act} {w:World},is.map (ops[·]?)=os.map some->bg c Z e st a w->ug c ops.toList os st K=some r-> ∀{φ0:Ph} {w0:World},Trans Z φ0 w0 e.φ w->(∀a' w',Out c Z K r φ0 w0 a' w'->Q .normal a' w')->wpOps P ops Q is a w:=by
 induction is with
 |nil=>
  intro os e st a w hm h hK φ0 w0 ht hQ;cases os with
  |nil=>exact hQ a w ⟨e,st,h,ht,hK⟩
  |cons=>simp at hm
 |cons i is ih=>
  intro os e st a w hm h hK φ0 w0 ht hQ;cases os with
  |nil=>simp at hm
  |cons o os=>simp only [aau,No] at hm;simp only [ug] at hK;rw [wpOps_cons];refine wpOp_mono ?_ (Mb hG hm.1 h hK);rintro a' w' ⟨e2,cK,h1,h2,h3⟩;exact ih hm.2 h1 h3 (ht.trans h2) hQ
end
end Dn
/-
  Parts of a state. Conditions: none.
-/
namespace Dn
open Go
section
variable {P:Program}{c:Ctx}{Z Zi:aO} {e e':Env}{st bm:St}{a:Act} {w w':World}{R:Type}{K:St->Option R}{r:R}{Q:Exit->Act->World->Prop}{o:Oper}
theorem NH {fs:List Nat}: ∀{e:Env} {st:St},bg c Z e st a w->(∀f∈fs,∀o,ar st.az f=some o->f∉Z.bF\/o.cB=true)-> ∃φ' m',dJ e.φ φ'/\(∀b off,¬Z.In b->φ' b off=e.φ b off)/\bg c Z {e with φ:=φ',m:=m'} {st with az:=m'} a w/\ (∀f,ar m' f=(ar st.az f).map λo=>if f∈fs then ⟨o.ty,true,o.xs⟩ else o)/\ (∀f∈fs,∀o I cells,ar st.az f=some o->c.ti o.ty=some I->w.ownsRow 0 o.ty I.size (e.E f) o.xs.length cells-> ∀aA,(e.E f).ownBlock=some aA-> ∀j,j<cells.length->φ' aA j=cells[j]?):=by
 induction fs with
 |nil=>
  intro e st h _;refine ⟨e.φ,st.az,.refl _,λ_ _ _=>rfl,?_,λf=>by cases ar st.az f<;>simp,λf hf=>by simp at hf⟩;have hm:e.m=st.az:=h.m;have he:({e with φ:=e.φ,m:=st.az}:Env)=e:=by cases e;simp at hm⊢;exact hm.symm
  rw [he];exact h
 |cons g gs ih=>
  intro e st h hp;cases hg:ar st.az g with
  |none=>
   obtain ⟨φ',m',h1,h2,h3,h4,h5⟩:=ih h (λf hf=>hp f (by simp [hf]));refine ⟨φ',m',h1,h2,h3,λf=> ?_,λf hf o I cells ho=> ?_⟩
   ·rw [h4];by_cases HA:f=g
    ·subst HA;rw [hg];rfl
    ·simp [HA]
   ·rcases sh.1 hf with rfl|hf
    ·rw [hg] at ho;cases ho
    ·exact h5 f hf o I cells ho
  |some og=>
   obtain ⟨φ1,k1,k2,k3,_,k5⟩:=freeze h hg (hp g (by simp) og hg);obtain ⟨φ',m',h1,h2,h3,h4,h5⟩:=ih k3 (by
    intro f hf o ho;have ho:ar (bh st.az g ⟨og.ty,true,og.xs⟩) f=some o:=ho;rw [aI] at ho;by_cases HA:f=g
    ·rw [if_pos HA] at ho;cases ho;exact .inr rfl
    ·rw [if_neg HA] at ho;exact hp f (by simp [hf]) o ho)
   refine ⟨φ',m',k1.trans h1,λb off hb=>(h2 b off hb).trans (k2 b off hb),h3,λf=> ?_,λf hf o I cells ho hI cb aA hb j hj=> ?_⟩
   ·rw [h4];show Option.map _ (ar (bh st.az g ⟨og.ty,true,og.xs⟩) f)=_;rw [aI];by_cases HA:f=g
    ·subst HA;simp [hg]
    ·simp [HA]
   ·by_cases HA:f=g
    ·subst HA;rw [hg] at ho;cases ho;exact h1.tk (k5 I cells hI cb aA hb j hj) hj
    ·rcases sh.1 hf with rfl|hf
     ·exact absurd rfl HA
     ·refine h5 f hf o I cells ?_ hI cb aA hb j hj;show ar (bh st.az g ⟨og.ty,true,og.xs⟩) f=_;rw [aI,if_neg HA];exact ho
end
end Dn
/-
  What a piece of code begins with, and what stays as it was behind it. Conditions: none.
-/
namespace Dn
open Go
theorem nu {l k:List Nat}(h:meets l k=false): ∀x∈l,x∉k:=by
 induction l with
 |nil=>simp
 |cons y l ih=>
  simp only [meets] at h;cases hm:aP k y with
  |true=>simp [hm] at h
  |false=>
   simp only [hm,cond_false] at h;intro x hx;rcases sh.1 hx with rfl|hx
   ·rw [<-aN,hm];simp
   ·exact ih h x hx
theorem A9 {ks:List Nat}{r:Fr}: ∀t∈ax (jx ks r),t∈ks:=by
 induction r with
 |nil=>simp [ax,jx]
 |cons p r ih=>
  obtain ⟨k,x⟩:=p;simp only [jx];cases hb:aP ks k&&!b8 x with
  |false=>simpa using ih
  |true=>
   simp only [aQ] at hb;intro t ht;simp only [cond_true,ax,aau,sh] at ht;rcases ht with rfl|ht
   ·exact (aN _ _).1 hb.1
   ·exact ih t ht
theorem EP {qs:List Nat}{r:Fr}:ax (Km qs r)=ax r:=by simp [ax,Km]
theorem yM {ks fs qs:List Nat}{m:List (Nat×jb)}{f:Nat}: ar (lW ks fs qs m) f=if f∈ks then (ar m f).map λo=>if f∈fs/\f∉qs then ⟨o.ty,true,o.xs⟩ else o else none:=by
 induction m with
 |nil=>simp [lW,ar]
 |cons p m ih=>
  obtain ⟨k,o⟩:=p;simp only [lW];by_cases hk:k=f
  ·subst hk;cases hm:aP ks k with
   |false=>
    have:k∉ks:=by rw [<-aN,hm];simp
    simp only [cond_false,ih,this,if_false]
   |true=>
    have:k∈ks:=(aN _ _).1 hm;simp only [cond_true,this,if_true,ar,cY,decide_true];cases hc:aP fs k&&!aP qs k with
    |true=>
     simp only [aQ,aaf] at hc;have h1:=(aN _ _).1 hc.1;have h2:k∉qs:=by rw [<-aN,hc.2];simp
     simp [ar,cY,h1,h2]
    |false=>
     have: ¬(k∈fs/\k∉qs):=by
      rintro ⟨h1,h2⟩;rw [<-aN] at h1;have h2:aP qs k=false:=by cases hq:aP qs k with|false=>rfl|true=>exact absurd ((aN _ _).1 hq) h2
      simp [h1,h2] at hc
     simp [ar,cY,this]
  ·cases hm:aP ks k with
   |false=>simp only [cond_false,ih,ar,cY,hk,decide_false]
   |true=>simp only [cond_true,ar,cY,hk,decide_false,cond_false];cases aP fs k&&!aP qs k<;>simp only [cond_true,cond_false,ar,cY,hk,decide_false]<;>exact ih
theorem nw (m n:List (Nat×jb))(f:Nat):ar (m++n) f=(match ar m f with|some o=>some o|none=>ar n f):=by
 induction m with
 |nil=>simp [ar]
 |cons p m ih=>obtain ⟨k,o⟩:=p;simp only [aaj,ar,cY];by_cases hk:k=f<;>simp [hk,ih]
def jA:Slot->List ak
 | .sc l=>[l]
 | .ag cs=>cs
 | .tg cs=>cs
 | .box cs=>cs
 |_=>[]
section
variable {P:Program}{c:Ctx}{Z Zb Zi:aO} {e e':Env}{st bm B:St} {a a':Act} {w w':World}{R:Type}{K:St->Option R}{r:R}{Q:Exit->Act->World->Prop}{o:Oper}{hn:eY}
structure oQ (c:Ctx) (Zb Zi:aO) (e:Env) (B:St) (hn:eY) (a:Act) (w:World):Prop where
 mg:bg c Zb e B a w
 sub: ∀b,Zi.In b->Zb.In b
 new: ∀b,w.heap.size<=b->Zi.In b
 bI: ∀t∈Zb.bI,t∈Zi.bI
 T: ∀t∈Zi.bI,a.tmps.getD t undef=Zi.T t
 keys: ∀t∈ax B.fr,t∈Zi.bI
 box: ∀t cs,ah B.fr t= .box cs-> ¬Zi.In (e.B t)
 dV: ∀f o b,ar B.az f=some o->(e.E f).ownBlock=some b-> ¬Zi.In b
 Yh: ∀t∈ch hn.all,t∉Zb.bI/\t∉Zi.bI
 Ur: ∀f∈bp hn.all,f∉Zb.bF/\ar B.az f=none
 ptr: ∀t,b8 (ah B.fr t)=false
 Tp: ∀t f,ak.own f∈jA (ah B.fr t)->f∉bp hn.all
theorem oQ.later {φ':Ph}(h:oQ c Zb Zi e B hn a w)(ht:Trans Zi.In e.φ w φ' w')(hi:iA φ' w')(hd:a'.defers=[])(hs:a'.tmps.size=c.n)(hT: ∀t∈Zi.bI,a'.tmps.getD t undef=Zi.T t): oQ c Zb Zi {e with φ:=φ'} B hn a' w':=by
 have h1:=h.mg.called (Z':=Zi.In) h.sub h.box h.dV ht hi;refine ⟨?_,h.sub,λb hb=>h.new b (aaP ht.size hb),h.bI,hT,h.keys,h.box,h.dV,h.Yh,h.Ur,h.ptr,h.Tp⟩;have eo: ∀t∈Zi.bI,a'.tmps.getD t undef=a.tmps.getD t undef:=λt ht=>(hT t ht).trans (h.T t ht).symm;refine ⟨⟨hd,h1.defers.2.1,h1.defers.2.2.1,λt ht=>(eo t (h.bI t ht)).trans (h1.defers.2.2.2 t ht)⟩,hs,h1.m,h1.key,h1.nodup,?_,h1.root,h1.dV,h1.bb,h1.bf,h1.ff,h1.fB,h1.bt⟩;intro t;by_cases hk:t∈ax B.fr
 ·rw [eo t (h.keys t hk)];exact h1.slot t
 ·rw [j9 _ _ hk];simp [bk,aa]
theorem NI {K2:St->St->Option R}(h:bg c Z e st a w)(hK:Kj c hn st K2=some r): ∃Zi e1 e2 aT cK,bg c Zi e1 aT a w/\Trans Z.In e.φ w e1.φ w/\e2.φ=e1.φ/\e2.key=e1.key/\oQ c Z Zi e2 (uV st cK) hn a w/\oQ c Zi Zi e2 cK hn a w/\(∀b,Zi.In b->Z.In b)/\cJ c hn.all=true/\K2 aT cK=some r:=by
 obtain ⟨p,q,fr,m⟩:=st;unfold Kj at hK;simp only [pN,TM,XG,PS] at hK;cases JX:!cJ c hn.all||meets (ch hn.all) p||meets (bp hn.all) q||meets (ch hn.all) hn.bI||meets (bp hn.all) hn.bF with
 |true=>simp [JX] at hK
 |false=>
  simp only [JX,cond_false] at hK;simp only [OF,aao] at JX;obtain ⟨⟨⟨⟨m0,m1⟩,m2⟩,m3⟩,m4⟩:=JX;have m1:=nu m1;have m2:=nu m2;have m3:=nu m3;have m4:=nu m4;have KN:p=Z.bI/\q=Z.bF:=⟨h.defers.2.1,h.defers.2.2.1⟩
  let mp:=lW hn.bF hn.cB q m;let mo:=lW (bp hn.all) hn.cB q m;let rp:=Km hn.bF (jx hn.bI fr);let ro:=jx (ch hn.all) fr;let fs:=hn.bF.filter λf=>match ar mp f with|some o=>o.cB|none=>false
  have rX: ∀f o,ar mp f=some o->f∈hn.bF/\ ∃o0,ar m f=some o0/\o0.ty=o.ty/\o0.xs=o.xs/\(o0.cB=true->o.cB=true)/\(f∈q->o=o0):=by
   intro f o ho;have ho:ar (lW hn.bF hn.cB q m) f=some o:=ho;rw [yM] at ho;split at ho
   ·rename_i hf;refine ⟨hf,?_⟩;cases h0:ar m f with
    |none=>rw [h0] at ho;cases ho
    |some o0=>
     rw [h0] at ho;simp only [aat,AT] at ho;refine ⟨o0,rfl,?_⟩;split at ho
     ·rename_i hc;subst ho;exact ⟨rfl,rfl,λ_=>rfl,λhq=>absurd hq hc.2⟩
     ·subst ho;exact ⟨rfl,rfl,id,λ_=>rfl⟩
   ·cases ho
  have hmo: ∀f o,ar mo f=some o->f∈bp hn.all/\ ∃o0,ar m f=some o0/\o0.ty=o.ty/\o0.xs=o.xs/\(o0.cB=true->o.cB=true):=by
   intro f o ho;have ho:ar (lW (bp hn.all) hn.cB q m) f=some o:=ho;rw [yM] at ho;split at ho
   ·rename_i hf;refine ⟨hf,?_⟩;cases h0:ar m f with
    |none=>rw [h0] at ho;cases ho
    |some o0=>
     rw [h0] at ho;simp only [aat,AT] at ho;refine ⟨o0,rfl,?_⟩;split at ho
     ·subst ho;exact ⟨rfl,rfl,λ_=>rfl⟩
     ·subst ho;exact ⟨rfl,rfl,id⟩
   ·cases ho
  obtain ⟨φ',m',f1,f2,f3,f4,f5⟩:=NH (fs:=fs) h (by
   intro f hf o ho;simp only [fs,abh] at hf;obtain ⟨EF,uI⟩:=hf;by_cases hq:f∈Z.bF
   ·right;cases DN:ar mp f with
    |none=>simp [DN] at uI
    |some o1=>simp only [DN] at uI;obtain ⟨_,o0,g1,_,_,_,g5⟩:=rX f o1 DN;have ho:ar m f=some o:=ho;rw [g1] at ho;cases ho;have:=g5 (by rw [KN.2];exact hq);rw [<-this];exact uI
   ·exact .inl hq)
  let Zi:aO:=⟨λb=>Z.In b/\(∀t cs,ah rp t= .box cs->e.B t≠b)/\(∀f o,ar mp f=some o->(e.E f).ownBlock≠some b),hn.bI++p,hn.bF++q,λt=>a.tmps.getD t undef,False,λ_=>True⟩
  have jT: ∀b,w.heap.size<=b->Zi.In b:=by
   intro b hb;refine ⟨f3.bt b hb,λt cs ht=> ?_,λf o ho z7=> ?_⟩
   ·have hrp:ah rp t=z1 hn.bF (ah (jx hn.bI fr) t):=Et _ _ _;rw [hrp,u9 _ _ h.nodup] at ht;split at ht
    ·have: ∃zF,ah fr t= .box zF:=by generalize ah fr t=s at ht;cases s<;>simp only [z1] at ht<;>first|(cases ht;done)|exact ⟨_,rfl⟩
     obtain ⟨zF,h0⟩:=this;have:=pV (st:=⟨p,q,fr,m⟩) h h0;omega
    ·simp [z1,JR] at ht
   ·obtain ⟨_,o0,g1,_⟩:=rX f o ho;have:=pW (st:=⟨p,q,fr,m⟩) h g1 z7;omega
  have Us: ∀t,ah rp t=if aP hn.bI t&&!b8 (ah fr t) then z1 hn.bF (ah fr t) else .sc .un:=by intro t;have hrp:ah rp t=z1 hn.bF (ah (jx hn.bI fr) t):=Et _ _ _;rw [hrp,u9 _ _ h.nodup];split<;>rfl
  have Yi: ∀t,ah ro t=if aP (ch hn.all) t&&!b8 (ah fr t) then ah fr t else .sc .un:=λt=>u9 _ _ h.nodup t
  have Yj: ∀t∈ax rp,t∈hn.bI:=by intro t ht;have ht:t∈ax (Km hn.bF (jx hn.bI fr)):=ht;rw [EP] at ht;exact A9 t ht
  have Ba: ∀t cs,ah rp t= .box cs->t∈hn.bI/\ ∃zF,ah fr t= .box zF:=by
   intro t cs ht;rw [Us] at ht;split at ht
   ·rename_i hc;simp only [aQ] at hc;refine ⟨(aN _ _).1 hc.1,?_⟩;generalize ah fr t=s at ht;cases s<;>simp only [z1] at ht<;>first|(cases ht;done)|exact ⟨_,rfl⟩
   ·cases ht
  have afg: ∀f o,ar mp f=some o->o.cB=true->f∈fs:=by intro f o ho hz;simp only [fs,abh];exact ⟨(rX f o ho).1,by simp only [ho];exact hz⟩
  have Wo: ∀f o0,ar m f=some o0->ar m' f=some (if f∈fs then ⟨o0.ty,true,o0.xs⟩ else o0):=by intro f o0 h0;rw [f4];show Option.map _ (ar m f)=_;rw [h0];rfl
  have WA: ∀f o,ar (mp++mo) f=some o-> ∃o1,ar m' f=some o1/\o1.ty=o.ty/\o1.xs=o.xs/\(o1.cB=true->o.cB=true):=by
   intro f o ho;rw [nw] at ho;cases DN:ar mp f with
   |some o1=>
    simp only [DN,AT] at ho;subst ho;obtain ⟨_,o0,g1,g2,g3,g4,_⟩:=rX f o1 DN;refine ⟨_,Wo f o0 g1,?_⟩;split
    ·rename_i QN;refine ⟨g2,g3,λ_=> ?_⟩;simp only [fs,abh,DN] at QN;exact QN.2
    ·exact ⟨g2,g3,g4⟩
   |none=>
    simp only [DN] at ho;obtain ⟨g0,o0,g1,g2,g3,g4⟩:=hmo f o ho;refine ⟨_,Wo f o0 g1,?_⟩;have:f∉fs:=by intro QN;simp only [fs,abh] at QN;exact m4 f g0 QN.1
    rw [if_neg this];exact ⟨g2,g3,g4⟩
  have abp: ∀f o,ar mp f=some o-> ∃o1,ar m' f=some o1/\o1.ty=o.ty/\o1.xs=o.xs/\(o1.cB=true->o.cB=true):=by intro f o ho;exact WA f o (by rw [nw,ho])
  have Uf: ∀f o I cells b,ar mp f=some o->o.cB=true->c.ti o.ty=some I->w.ownsRow 0 o.ty I.size (e.E f) o.xs.length cells->(e.E f).ownBlock=some b-> ∀j,j<cells.length->φ' b j=cells[j]? :=by intro f o I cells b ho hz hI cb hb j hj;obtain ⟨_,o0,g1,g2,g3,_⟩:=rX f o ho;exact f5 f (afg f o ho hz) o0 I cells g1 (by rw [g2];exact hI) (by rw [g2,g3];exact cb) b hb j hj
  have abq:(hn.bI++p)=Zi.bI/\(hn.bF++q)=Zi.bF/\ ∀t∈Zi.bI,a.tmps.getD t undef=Zi.T t:=⟨rfl,rfl,λ_ _=>rfl⟩
  have hkd:(ax rp).Nodup:=by have:ax rp=ax (jx hn.bI fr):=EP;rw [this];exact (pO _ _).nodup h.nodup
  have QO: ∀t,ah rp t= .sc .un\/(b8 (ah fr t)=false/\(ah rp t=ah fr t\/ ∃qs,ah rp t=z1 qs (ah fr t))):=by
   intro t;rw [Us];cases hc:aP hn.bI t&&!b8 (ah fr t) with
   |false=>exact .inl (by simp)
   |true=>simp only [aQ,aaf] at hc;exact .inr ⟨hc.2,.inr ⟨hn.bF,by simp⟩⟩
  have WB: ∀(Zb:aO) (pb qb:List Nat),pb=Zb.bI->qb=Zb.bF->(∀t∈Zb.bI,a.tmps.getD t undef=Zb.T t)->(∀t∈Z.bI,t∈Zb.bI)->(∀t cs,ah rp t= .box cs->(t∈Zb.bI/\Zb.Pr (e.B t))\/Zb.In (e.B t))-> (∀f o b,ar mp f=some o->(e.E f).ownBlock=some b->(f∈Zb.bF/\Zb.Pr b)\/Zb.In b)->(∀b,w.heap.size<=b->Zb.In b)->bg c Zb {e with φ:=φ',m:=mp} ⟨pb,qb,rp,mp⟩ a w:=by intro Zb pb qb h1 h2 h3 hpp h4 h5 h6;exact f3.sub (bm:=⟨pb,qb,rp,mp⟩) hpp ⟨h1,h2,h3⟩ hkd QO abp h4 h5 (λf o I cells b ho _ hz hI cb hb j hj=>Uf f o I cells b ho hz hI cb hb j hj) h6
  have Ut: ∀t f,ak.own f∈jA (ah rp t)->f∉bp hn.all:=by
   intro t f hf;have:f∈hn.bF:=by
    rw [Us] at hf;split at hf
    ·generalize ah fr t=s at hf;cases s<;>simp only [z1,jA,sh,aaU,List.not_mem_nil,or_false] at hf
     ·exact F8 hn.bF _ f hf.symm
     ·obtain ⟨l,_,hl⟩:=hf;exact F8 hn.bF l f hl
     ·obtain ⟨l,_,hl⟩:=hf;exact F8 hn.bF l f hl
     ·obtain ⟨l,_,hl⟩:=hf;exact F8 hn.bF l f hl
    ·simp [jA] at hf
   exact λho=>m4 f ho this
  have Qc: ∀t,b8 (ah rp t)=false:=by
   intro t;rw [Us];split
   ·rename_i hc;simp only [aQ,aaf] at hc;generalize ah fr t=s at hc;cases s<;>simp [b8] at hc<;>rfl
   ·rfl
  have WC: ∀b,Zi.In b->Z.In b:=λb hb=>hb.1;refine ⟨Zi,{e with φ:=φ',m:=mp++mo},{e with φ:=φ',m:=mp},⟨hn.bI++p,hn.bF++q,rp++ro,mp++mo⟩,⟨hn.bI++p,hn.bF++q,rp,mp⟩,?_,⟨f1,λ_ _ _=>rfl,f2,aae _,.refl _⟩,rfl,rfl,?_,?_,WC,m0,hK⟩
  ·have WD: ∀t,ah (rp++ro) t=ah rp t\/(t∈ch hn.all/\ah rp t= .sc .un/\ah (rp++ro) t=ah ro t):=by
    intro t;rw [rG];by_cases hk:t∈ax rp
    ·simp [hk]
    ·simp only [hk,if_false];have h0:=j9 rp t hk;by_cases LY:t∈ch hn.all
     ·exact .inr ⟨LY,h0,trivial⟩
     ·left;rw [h0,Yi];have:aP (ch hn.all) t=false:=by cases hq:aP (ch hn.all) t with|false=>rfl|true=>exact absurd ((aN _ _).1 hq) LY
      simp [this]
   refine f3.sub (bm:=⟨hn.bI++p,hn.bF++q,rp++ro,mp++mo⟩) (λt ht=>aab _ (by rw [KN.1];exact ht)) abq ?_ ?_ WA ?_ ?_ ?_ jT
   ·show (ax (rp++ro)).Nodup;have:ax (rp++ro)=ax rp++ax ro:=by simp [ax]
    rw [this];refine List.nodup_append.2 ⟨hkd,(pO _ _).nodup h.nodup,?_⟩;intro x hx y hy Qx;subst Qx;exact m3 x (A9 x hy) (Yj x hx)
   ·intro t;show ah (rp++ro) t=_\/(_/\(ah (rp++ro) t=_\/ ∃qs,ah (rp++ro) t=_));rcases WD t with hk|⟨hk1,LY,hk⟩
    ·rw [hk];exact QO t
    ·rw [hk,Yi];cases hc:aP (ch hn.all) t&&!b8 (ah fr t) with
     |false=>exact .inl (by simp)
     |true=>simp only [aQ,aaf] at hc;exact .inr ⟨hc.2,.inl (by simp)⟩
   ·intro t cs ht;have ht:ah (rp++ro) t= .box cs:=ht;rcases WD t with hk|⟨hk1,LY,hk⟩
    ·rw [hk] at ht;exact .inl ⟨IT _ (Ba t cs ht).1,trivial⟩
    ·rw [hk,Yi] at ht;split at ht
     ·right;refine ⟨?_,?_,?_⟩
      ·have hs:=h.slot t;have vd:ah (St.fr ⟨p,q,fr,m⟩) t= .box cs:=ht;rw [vd] at hs;refine Hu hs.2.bt ?_;rw [<-KN.1];exact m1 t hk1
      ·intro t2 DB z8 xv;obtain ⟨g1,zF,g2⟩:=Ba t2 DB z8;exact h.bb t2 t zF cs g2 ht (by intro he;subst he;exact m3 t2 hk1 g1) xv
      ·intro f o ho xv;obtain ⟨_,o0,g1,_⟩:=rX f o ho;exact h.bf t cs f o0 ht g1 xv
     ·cases ht
   ·intro f o b ho hb;have ho:ar (mp++mo) f=some o:=ho;rw [nw] at ho;cases DN:ar mp f with
    |some o1=>exact .inl ⟨IT _ (rX f o1 DN).1,trivial⟩
    |none=>
     right;simp only [DN] at ho;obtain ⟨g0,o0,g1,_⟩:=hmo f o ho;obtain ⟨I,cells,_,_,_,_,g5⟩:=(h.dV f o0 g1).row;refine ⟨Hu (g5 b hb).1 (by rw [<-KN.2];exact m2 f g0),?_,?_⟩
     ·intro t cs ht xv;obtain ⟨_,zF,k2⟩:=Ba t cs ht;exact h.bf t zF f o0 k2 g1 (by rw [xv];exact hb)
     ·intro f2 o2 bJ xv;obtain ⟨k0,o20,k1,_⟩:=rX f2 o2 bJ;have:=h.ff f f2 o0 o20 b g1 k1 hb xv;subst this;exact m4 f g0 k0
   ·intro f o I cells b ho hp hz hI cb hb j hj;have ho:ar (mp++mo) f=some o:=ho;rw [nw] at ho;cases DN:ar mp f with
    |some o1=>simp only [DN,AT] at ho;subst ho;exact Uf f o1 I cells b DN hz hI cb hb j hj
    |none=>
     simp only [DN] at ho;obtain ⟨g0,_⟩:=hmo f o ho;exfalso;rcases aas.1 hp with hp|hp
     ·exact m4 f g0 hp
     ·exact m2 f g0 hp
  ·refine ⟨WB Z p q KN.1 KN.2 h.defers.2.2.2 (λ_ h=>h) ?_ ?_ f3.bt,WC,jT,λt ht=>aab _ (by rw [KN.1];exact ht),λ_ _=>rfl,λt ht=>IT _ (Yj t ht),?_,?_,?_,?_,Qc,Ut⟩
   ·intro t cs ht;obtain ⟨_,zF,g2⟩:=Ba t cs ht;have hs:=h.slot t;have g2':ah (St.fr ⟨p,q,fr,m⟩) t= .box zF:=g2;rw [g2'] at hs;exact hs.2.bt
   ·intro f o b ho hb;obtain ⟨_,o0,g1,_⟩:=rX f o ho;obtain ⟨I,cells,_,_,_,_,g5⟩:=(h.dV f o0 g1).row;exact (g5 b hb).1
   ·intro t cs ht hz;exact hz.2.1 t cs ht rfl
   ·intro f o b ho hb hz;exact hz.2.2 f o ho hb
   ·intro t ht;exact ⟨by rw [<-KN.1];exact m1 t ht,by show t∉hn.bI++p;simp only [aas,not_or];exact ⟨m3 t ht,m1 t ht⟩⟩
   ·intro f hf;refine ⟨by rw [<-KN.2];exact m2 f hf,?_⟩;cases DN:ar mp f with
    |none=>first|exact DN|rfl
    |some o1=>exact absurd (rX f o1 DN).1 (m4 f hf)
  ·refine ⟨WB Zi _ _ rfl rfl (λ_ _=>rfl) (λt ht=>aab _ (by rw [KN.1];exact ht)) ?_ ?_ jT,λb hb=>hb,jT,λt ht=>ht,λ_ _=>rfl,λt ht=>IT _ (Yj t ht),?_,?_,?_,?_,Qc,Ut⟩
   ·intro t cs ht;exact .inl ⟨IT _ (Ba t cs ht).1,trivial⟩
   ·intro f o b ho hb;exact .inl ⟨IT _ (rX f o ho).1,trivial⟩
   ·intro t cs ht hz;exact hz.2.1 t cs ht rfl
   ·intro f o b ho hb hz;exact hz.2.2 f o ho hb
   ·intro t ht;have:t∉hn.bI++p:=by simp only [aas,not_or];exact ⟨m3 t ht,m1 t ht⟩
    exact ⟨this,this⟩
   ·intro f hf;refine ⟨by show f∉hn.bF++q;simp only [aas,not_or];exact ⟨m4 f hf,m2 f hf⟩,?_⟩;cases DN:ar mp f with
    |none=>first|exact DN|rfl
    |some o1=>exact absurd (rX f o1 DN).1 (m4 f hf)
theorem wc {K2:St->St->Option R}(h:bg c Z e st a w)(hK:xF c hn st K2=some r): ∃Zi e1 e2 aT cK,bg c Zi e1 aT a w/\Trans Z.In e.φ w e1.φ w/\e2.φ=e1.φ/\e2.key=e1.key/\oQ c Z Zi e2 (uV st cK) hn a w/\oQ c Zi Zi e2 cK hn a w/\(∀b,Zi.In b->Z.In b)/\cJ c hn.all=true/\K2 aT cK=some r:=by unfold xF at hK;obtain ⟨Zi,e1,e2,aT,cK,h1,t1,hφ,hk,j1,j2,eu,dU,hK⟩:=NI h hK;obtain ⟨fr,g1,g2⟩:=AU h (H7 h.nodup) h1 hK;exact ⟨Zi,e1,e2,_,cK,g1,t1,hφ,hk,j1,j2,eu,dU,g2⟩
end
end Dn
/-
  What a piece of code hands on. Conditions: none.
-/
namespace Dn
open Go
section
variable {P:Program}{c:Ctx}{Z Zb Zi:aO} {e e' e3:Env}{st bm jm B:St} {a a':Act} {w w':World}{R:Type}{K:St->Option R}{r:R}{Q:Exit->Act->World->Prop}{o:Oper}{hn:eY}
structure Ev (S:Nat->Prop) (e e':Env):Prop where
 key:e'.key=e.key
 φ:e'.φ=e.φ
 dV: ∀f o,ar e'.m f=some o->S f->(∃o0,ar e.m f=some o0)/\e'.E f=e.E f
theorem Ev.refl (S:Nat->Prop)(e:Env):Ev S e e:=⟨rfl,rfl,λf o h _=>⟨⟨o,h⟩,rfl⟩⟩
theorem Ev.trans {S:Nat->Prop} {e e' e'':Env}(h:Ev S e e') (h':Ev S e' e''):Ev S e e'':=⟨h'.key.trans h.key,h'.φ.trans h.φ,λf o ho hs=>by obtain ⟨⟨o1,g1⟩,g2⟩:=h'.dV f o ho hs;obtain ⟨g3,g4⟩:=h.dV f o1 g1 hs;exact ⟨g3,g2.trans g4⟩⟩
theorem Ev.abt {S S':Nat->Prop} {e e':Env}(h:Ev S e e')(hs: ∀f,S' f->S f):Ev S' e e':=⟨h.key,h.φ,λf o ho hf=>h.dV f o ho (hs f hf)⟩
theorem aw.ev {S:Nat->Prop}(h:Ev S e e'){vs:List Value}{l:ak}(hl: ∀f,l= .own f->S f)(hr:aw e vs l):aw e' vs l:=by
 cases l with
 |own f=>obtain ⟨v,rfl,hv,hf⟩:=hr;refine ⟨v,rfl,hv,λo' vc=> ?_⟩;obtain ⟨⟨o,ho⟩,hE⟩:=h.dV f o' vc (hl f rfl);rw [hE];exact hf o ho
 |p m=>exact ⟨hr.1,by rw [h.key,h.φ];exact hr.2⟩
 |_=>exact hr
theorem ai.ev {S:Nat->Prop}(h:Ev S e e'){cs:List ak}: ∀{vs:List Value},(∀f,ak.own f∈cs->S f)->ai e vs cs->ai e' vs cs:=by
 induction cs with
 |nil=>intro vs _ hr;exact hr
 |cons l r ih=>intro vs hl hr;obtain ⟨v,u,rfl,h1,h2⟩:=hr;exact ⟨v,u,rfl,h1.ev h (λf hf=>hl f (by simp [hf])),ih (λf hf=>hl f (by simp [hf])) h2⟩
theorem e9.ev {S:Nat->Prop}(h:Ev S e e'){ob:Obj}{cs:List ak}(hl: ∀f,ak.own f∈cs->S f)(hr:e9 e ob cs):e9 e' ob cs:=by
 cases ob with
 |cells arr T z=>exact ⟨hr.1,hr.2.ev h hl⟩
 |map es clock=>exact hr
 |stringIter x pos=>exact hr
 |_=>exact hr.elim
theorem aa.ev {S:Nat->Prop}(h:Ev S e e'){v:Value}{s:Slot}(hp:b8 s=false)(hl: ∀f,ak.own f∈jA s->S f)(hr:aa e v s):aa e' v s:=by
 have Qz:eR (λ_=>False) (λ_=>False) e e':=⟨h.key,by rw [h.φ];exact .refl _,λ_ hf=>hf.elim,λ_ _ _ hf=>hf.elim⟩
 cases s with
 |sc l=>
  cases l<;>first|exact hr|skip
  ·exact aw.ev (l:= .p _) h (λf hf=>by cases hf) hr
  ·rename_i f;exact aw.ev (l:= .own f) h (λf hf=>hl f (by simp [jA,hf])) hr
 |ag cs=>simp only [aa] at hr⊢;obtain ⟨arr,h1,h2⟩:=hr;exact ⟨arr,h1,h2.ev h (λf hf=>hl f hf)⟩
 |tg cs=>simp only [aa] at hr⊢;obtain ⟨arr,h1,h2⟩:=hr;exact ⟨arr,h1,h2.ev h (λf hf=>hl f hf)⟩
 |ptr=>simp [b8] at hp
 |rr=>simp [b8] at hp
 |rp=>simp [b8] at hp
 |hp=>simp [b8] at hp
 |ep=>simp [b8] at hp
 |_=>exact hr.on Qz (by simp [da])
theorem lN {fr:Fr}{s:Slot}(h:b8 s=false):bK fr s:=by cases s<;>simp [b8] at h<;>trivial
theorem bg.Uu {t:Nat}{s:Slot}(h:bg c Z e st a w)(hp: ∀t,b8 (ah st.fr t)=false)(hs:b8 s=false)(hb:bP s=false)(hr:aa e (a.tmps.getD t undef) s): bg c Z e {st with fr:=bu st.fr t s} a w:=by
 have hg: ∀t',ah (bu st.fr t s) t'=if t'=t then s else ah st.fr t':=λt'=>a8 _ _ _ _
 have nR: ∀t' cs,ah (bu st.fr t s) t'= .box cs->t'≠t/\ah st.fr t'= .box cs:=by
  intro t' cs ht;rw [hg] at ht;by_cases nV:t'=t
  ·rw [if_pos nV] at ht;subst ht;simp [bP] at hb
  ·rw [if_neg nV] at ht;exact ⟨nV,ht⟩
 refine ⟨h.defers,h.size,h.m,h.key,cD h.nodup,?_,?_,h.dV,?_,?_,h.ff,h.fB,h.bt⟩
 ·intro t';show bk Z e w t' _ (ah (bu st.fr t s) t');rw [hg];by_cases nV:t'=t
  ·subst nV;simp only [if_true];cases s<;>first|exact hr|(simp [bP] at hb)
  ·simp only [nV,if_false];exact h.slot t'
 ·intro t';show bK _ (ah (bu st.fr t s) t');rw [hg];by_cases nV:t'=t
  ·simp only [nV,if_true];exact lN hs
  ·simp only [nV,if_false];exact lN (hp t')
 ·intro t1 t2 c1 c2 h1 h2 cg;exact h.bb t1 t2 c1 c2 (nR t1 c1 h1).2 (nR t2 c2 h2).2 cg
 ·intro t1 c1 f o h1 h2;exact h.bf t1 c1 f o (nR t1 c1 h1).2 h2
theorem bg.Yk {t aA:Nat}{cs:List ak}(h:bg c Z e st a w)(hp: ∀t,b8 (ah st.fr t)=false)(hv:tied Z t (a.tmps.getD t undef) cs aA)(vX:nh (Z.bz t) e w aA cs)(h1: ∀t' dj,ah st.fr t'= .box dj->t'≠t->e.B t'≠aA)(h2: ∀f o,ar st.az f=some o->(e.E f).ownBlock≠some aA): bg c Z (e.ui t aA) {st with fr:=bu st.fr t (.box cs)} a w:=by
 have lu:eR (λ_=>True) (λ_=>False) e (e.ui t aA):=⟨rfl,.refl _,λr hr=>hr.elim,λf o ho _=>⟨o,ho,rfl,rfl⟩⟩
 have hg: ∀t',ah (bu st.fr t (.box cs)) t'=if t'=t then .box cs else ah st.fr t':=λt'=>a8 _ _ _ _
 refine ⟨h.defers,h.size,h.m,h.key,cD h.nodup,?_,?_,λf o ho=>(h.dV f o ho).env rfl rfl,?_,?_,h.ff,h.fB,h.bt⟩
 ·intro t';show bk Z _ w t' _ (ah (bu st.fr t (.box cs)) t');rw [hg];by_cases nV:t'=t
  ·subst nV;simp only [if_true,bk,Env.ui];exact ⟨hv,vX.env rfl rfl rfl rfl⟩
  ·simp only [nV,if_false];have hs:=h.slot t';have Gf:=hp t';generalize ah st.fr t'=s at hs Gf;cases s<;>simp only [bk] at hs⊢ <;>first|(simp [b8] at Gf;done)|exact hs.on lu (by simp [da,ef])|skip
   simp only [Env.ui,nV,if_false];exact ⟨hs.1,hs.2.env rfl rfl rfl rfl⟩
 ·intro t';show bK _ (ah (bu st.fr t (.box cs)) t');rw [hg];by_cases nV:t'=t
  ·simp only [nV,if_true];trivial
  ·simp only [nV,if_false];exact lN (hp t')
 ·intro t1 t2 c1 c2 g1 g2 cg;have g1:ah (bu st.fr t (.box cs)) t1= .box c1:=g1;have g2:ah (bu st.fr t (.box cs)) t2= .box c2:=g2;rw [hg] at g1 g2;simp only [Env.ui];by_cases k1:t1=t
  ·by_cases k2:t2=t
   ·exact absurd (k1.trans k2.symm) cg
   ·rw [if_neg k2] at g2;simp only [k1,k2,if_true,if_false];exact λhe=>h1 t2 c2 g2 k2 he.symm
  ·rw [if_neg k1] at g1;by_cases k2:t2=t
   ·simp only [k1,k2,if_true,if_false];exact h1 t1 c1 g1 k1
   ·rw [if_neg k2] at g2;simp only [k1,k2,if_false];exact h.bb t1 t2 c1 c2 g1 g2 cg
 ·intro t1 c1 f o g1 g2;have g1:ah (bu st.fr t (.box cs)) t1= .box c1:=g1;rw [hg] at g1;simp only [Env.ui];by_cases k1:t1=t
  ·simp only [k1,if_true];exact h2 f o g2
  ·rw [if_neg k1] at g1;simp only [k1,if_false];exact h.bf t1 c1 f o g1 g2
def Env.Gx (e:Env)(f:Nat)(v:Value)(fo:jb):Env:={e with E:=λg=>if g=f then v else e.E g,m:=bh e.m f fo}
theorem bg.QP {f:Nat}{v:Value}{fo:jb}(h:bg c Z e st a w)(hp: ∀t,b8 (ah st.fr t)=false)(rK:f∉Z.bF)(db:bw c Z.nc e w v fo)(hb: ∀b,v.ownBlock=some b->(∀t cs,ah st.fr t= .box cs->e.B t≠b)/\(∀g o,g≠f->ar st.az g=some o->(e.E g).ownBlock≠some b))(Dq:Ev (λg=> ∃t,ak.own g∈jA (ah st.fr t)) e (e.Gx f v fo)):bg c Z (e.Gx f v fo) {st with az:=bh st.az f fo} a w:=by
 refine ⟨h.defers,h.size,by show bh e.m f _=bh st.az f _;rw [h.m],h.key,h.nodup,?_,h.root,?_,h.bb,?_,?_,h.fB,h.bt⟩
 ·intro t;have hs:=h.slot t;have hl: ∀f,ak.own f∈jA (ah st.fr t)-> ∃t,ak.own f∈jA (ah st.fr t):=λf hf=>⟨t,hf⟩
  have XJ:=hp t;show bk Z _ w t _ (ah st.fr t);generalize ah st.fr t=s at hs XJ hl;by_cases xK: ∃cs,s= .box cs
  ·obtain ⟨cs,rfl⟩:=xK;simp only [bk] at hs⊢;obtain ⟨o2,h1,h2⟩:=hs.2.obj;exact ⟨hs.1,hs.2.bt,⟨o2,h1,h2.ev Dq hl⟩,hs.2.free⟩
  ·have oq:aa e (a.tmps.getD t undef) s:=by cases s<;>simp only [bk] at hs<;>first|exact hs|exact absurd ⟨_,rfl⟩ xK
   have h2:=oq.ev Dq XJ hl;cases s<;>first|exact h2|exact absurd ⟨_,rfl⟩ xK
 ·intro f2 o2 bJ;have bJ:ar (bh st.az f fo) f2=some o2:=bJ;rw [aI] at bJ;show bw c (Z.fz f2) _ w (if f2=f then v else e.E f2) o2;by_cases cS:f2=f
  ·rw [if_pos cS];rw [if_pos cS] at bJ;cases bJ;rw [cS];exact (db.to rK).env rfl rfl
  ·rw [if_neg cS];rw [if_neg cS] at bJ;exact (h.dV f2 o2 bJ).env rfl rfl
 ·intro t c1 f2 o2 h1 h2;have h2:ar (bh st.az f fo) f2=some o2:=h2;rw [aI] at h2;show (if f2=f then v else e.E f2).ownBlock≠some (e.B t);by_cases cS:f2=f
  ·rw [if_pos cS];intro hh;exact (hb _ hh).1 t c1 h1 rfl
  ·rw [if_neg cS] at h2⊢;exact h.bf t c1 f2 o2 h1 h2
 ·intro f1 f2 o1 o2 k h1 h2 h3 h4;have h1:ar (bh st.az f fo) f1=some o1:=h1;have h2:ar (bh st.az f fo) f2=some o2:=h2;have h3:(if f1=f then v else e.E f1).ownBlock=some k:=h3;have h4:(if f2=f then v else e.E f2).ownBlock=some k:=h4;rw [aI] at h1 h2;by_cases k1:f1=f
  ·by_cases k2:f2=f
   ·rw [k1,k2]
   ·rw [if_pos k1] at h3;rw [if_neg k2] at h4 h2;exact absurd h4 ((hb k h3).2 f2 o2 k2 h2)
  ·rw [if_neg k1] at h3 h1;by_cases k2:f2=f
   ·rw [if_pos k2] at h4;exact absurd h3 ((hb k h4).2 f1 o1 k1 h1)
   ·rw [if_neg k2] at h4 h2;exact h.ff f1 f2 o1 o2 k h1 h2 h3 h4
inductive TK (st:St) (ps:List (Nat×Nat)):LK->ak->MV->List (Nat×Nat)->Prop
 |Gw:TK st ps (.k .l) .nil (.list []) ps
 |hs (k:IntKind) (n:Nat) (x:List Int):TK st ps (.k (.h k n)) (.hs k n x) (.h k n x) ps
 |p (x:Kd) (m:MV):TK st ps (.k x) (.p m) m ps
 |own (f ty:Nat) (cB:Bool) (g:Nat) (o:jb):ar st.az g=some o->o.ty=ty->(o.cB=true->cB=true)->g∉st.bF->iv ps f (g+1)=true->TK st ps (.own f ty cB) (.own g) (.list o.xs) ((f,g+1)::ps)
 |pX (f ty:Nat) (cB:Bool):iv ps f 0=true->TK st ps (.own f ty cB) .nil (.list []) ((f,0)::ps)
theorem KO {k:Kd}{m:MV} {K':ak->Option R}(h:eA k m K'=some r): ∃l,K' l=some r:=by obtain ⟨l,_,h⟩:=gw (e:=⟨λn=>n,λ_ _=>none,λ_=>undef,λ_=>0,[]⟩) (vs:=[]) h;exact ⟨l,h⟩
theorem Il {ps:List (Nat×Nat)}{k:LK}{l:ak} {K':MV->List (Nat×Nat)->Option R}(h:F4 st ps k l K'=some r): ∃m eU,TK st ps k l m eU/\K' m eU=some r:=by
 unfold F4 at h;split at h
 ·exact ⟨_,_,.Gw,h⟩
 ·rename_i k n k' n' x;cases hq:decide (k'=k)&&By n' n with
  |false=>simp [hq] at h
  |true=>simp only [hq,cond_true] at h;simp only [aQ,decide_eq_true_eq] at hq;obtain ⟨rfl,hq⟩:=hq;have hq:=AI hq;subst hq;exact ⟨_,_,.hs _ _ _,h⟩
 ·obtain ⟨_,h⟩:=KO h;exact ⟨_,_,.p _ _,h⟩
 ·rename_i f ty cB g;cases ho:ar st.az g with
  |none=>simp [ho] at h
  |some o=>
   simp only [ho] at h;cases hc:!By o.ty ty||(o.cB&&!cB)||aP st.bF g||!iv ps f (g+1) with
   |true=>simp [hc] at h
   |false=>
    simp only [hc,cond_false] at h;simp only [OF,aao] at hc;obtain ⟨⟨⟨h1,h2⟩,h3⟩,h4⟩:=hc;refine ⟨_,_,.own f ty cB g o ho (AI h1) ?_ ?_ h4,h⟩
    ·intro hz;rw [hz] at h2;simpa using h2
    ·rw [<-aN,h3];simp
 ·rename_i f ty cB;cases hc:iv ps f 0 with
  |false=>simp [hc] at h
  |true=>simp only [hc,cond_true] at h;exact ⟨_,_,.pX f ty cB hc,h⟩
 ·simp at h
theorem yN {ps:List (Nat×Nat)}{f g:Nat}(h:iv ps f g=true):(∀b,(f,b)∈ps->b=g/\g≠0)/\(∀x,(x,g)∈ps->x≠f->g=0):=by
 induction ps with
 |nil=>simp
 |cons p ps ih=>
  obtain ⟨x,y⟩:=p;simp only [iv,aQ,cY] at h;obtain ⟨h1,h2⟩:=h;obtain ⟨i1,i2⟩:=ih h2;refine ⟨?_,?_⟩
  ·intro b hb;rcases sh.1 hb with hb|hb
   ·cases hb;simp at h1;exact ⟨h1.1,h1.2⟩
   ·exact i1 b hb
  ·intro z hz cg;rcases sh.1 hz with hz|hz
   ·cases hz;simp [cg] at h1;exact h1
   ·exact i2 z hz cg
structure Inv (c:Ctx) (Zb Zi:aO) (e3:Env) (jm:St) (F:List Nat) (ps:List (Nat×Nat)) (e:Env) (st:St) (a:Act) (w:World):Prop where
 mg:bg c Zb e st a w
 φ:e.φ=e3.φ
 box: ∀t cs,ah st.fr t= .box cs-> ¬Zi.In (e.B t)\/(e.B t=e3.B t/\ ∃rU,ah jm.fr t= .box rU)
 dV: ∀f o b,ar st.az f=some o->(e.E f).ownBlock=some b-> ¬Zi.In b\/ ∃g,(f,g+1)∈ps
 pair: ∀f g,(f,g+1)∈ps->e.E f=e3.E g/\ ∃o3,ar jm.az g=some o3
 has: ∀f x,(f,x)∈ps-> ∃o,ar st.az f=some o
 own: ∀f∈F,∀o,ar st.az f=some o-> ∃x,(f,x)∈ps
 ptr: ∀t,b8 (ah st.fr t)=false
 Tp: ∀t f,ak.own f∈jA (ah st.fr t)->f∉F\/ ∃x,(f,x)∈ps
theorem NJ {F:List Nat}{ps eU:List (Nat×Nat)}{k:LK}{l:ak}{m:MV}{vs:List Value} {K':ak->St->Option R}(hi:Inv c Zb Zi e3 jm F ps e st a w)(h3:bg c Zi e3 jm a w)(eu: ∀b,Zi.In b->Zb.In b)(hF: ∀f∈aM [k],f∈F/\f∉Zb.bF)(hl:aw e3 vs l)(ht:TK jm ps k l m eU)(hK:fG st k m K'=some r)(dU: ∀f ty cB,k= .own f ty cB-> ∃I,c.ti ty=some I/\I.bB=[]): ∃e' bm l',K' l' bm=some r/\Inv c Zb Zi e3 jm F eU e' bm a w/\aw e' vs l'/\bm.fr=st.fr/\Ev (λf=>f∉F\/ ∃x,(f,x)∈ps) e e'/\(∀p∈ps,p∈eU)/\(∀f,l'= .own f-> ∃x,(f,x)∈eU)/\e'.B=e.B/\l'≠ .un:=by
 have hkφ: ∀{vs m},dI e3.key e3.φ vs m->dI e.key e.φ vs m:=by intro vs m h;rw [hi.φ,hi.mg.key,<-h3.key];exact h
 have simple: ∀{x:Kd} {m:MV},dI e3.key e3.φ vs m->(eA x m λl=>K' l st)=some r-> ∃e' bm l',K' l' bm=some r/\Inv c Zb Zi e3 jm F ps e' bm a w/\aw e' vs l'/\bm.fr=st.fr/\Ev (λf=>f∉F\/ ∃x,(f,x)∈ps) e e'/\(∀p∈ps,p∈ps)/\(∀f,l'= .own f-> ∃x,(f,x)∈ps)/\e'.B=e.B/\l'≠ .un:=by
  intro x m hr hK;obtain ⟨l',zx,hK⟩:=gw (e:=e) (vs:=vs) hK;refine ⟨e,st,l',hK,hi,zx.rep (hkφ hr),rfl,.refl _ _,λp hp=>hp,λf hf=> ?_,rfl,λhu=> ?_⟩
  ·have:=zx.O9;rw [hf] at this;simp [lV] at this
  ·have:=zx.O9;rw [hu] at this;simp [lV] at this
 cases ht with
 |Gw=>have hl:vs=[.slice none 0 0]:=hl;subst hl;exact simple (x:= .l) (.list none 0 [] 0 0 0 (λ_=>[]) (by simp) (by simp) (by simp) (by simp) (by simp)) hK
 |hs k n x=>obtain ⟨rfl,hl⟩:=hl;exact simple (x:= .h k n) (.h k n x hl) hK
 |p x m=>exact simple hl.2 hK
 |own f ty cB g o3 ho abu ZY hg hpo=>
  obtain ⟨v,rfl,hv,hE⟩:=hl;have hE:=hE o3 (by rw [h3.m];exact ho);obtain ⟨hfF,hfp⟩:=hF f (by simp [aM]);obtain ⟨p1,p2⟩:=yN hpo;simp only [fG,gL,jy] at hK;have hgz:g∉Zi.bF:=by rw [<-h3.defers.2.2.1];exact hg
  obtain ⟨I,cells,q1,q2,q3,q4,q5⟩:=(h3.dV g o3 ho).row;have mb: ∀b,v.ownBlock=some b->Zi.In b:=λb hb=>Hu (q5 b (by rw [<-hE];exact hb)).1 hgz;have db:bw c Zb.nc e w v ⟨ty,cB,o3.xs⟩:=by refine ⟨I,cells,by rw [<-abu];exact q1,q2,by rw [<-abu,hE];exact q3,by rw [hi.φ,hi.mg.key,<-h3.key];exact q4,λaA hb=>⟨eu _ (mb aA hb),λoff u hu=> ?_,λhc=>hc.elim⟩⟩;rw [hi.φ] at hu;obtain ⟨k1,k2⟩:=(q5 aA (by rw [<-hE];exact hb)).2.1 off u hu;exact ⟨ZY k1,k2⟩
  have hold: ∀x,(f,x)∈ps->e.E f=v:=by intro x hx;have:=(p1 x hx).1;subst this;rw [(hi.pair f g hx).1,hE]
  have KP: ∀S:Nat->Prop,(S f-> ∃x,(f,x)∈ps)->Ev S e (e.Gx f v ⟨ty,cB,o3.xs⟩):=by
   intro S hS;refine ⟨rfl,rfl,λf2 o2 bJ hs=> ?_⟩;have bJ:ar (bh e.m f ⟨ty,cB,o3.xs⟩) f2=some o2:=bJ;rw [aI] at bJ;by_cases cS:f2=f
   ·subst cS;obtain ⟨x,hx⟩:=hS hs;obtain ⟨o0,h0⟩:=hi.has f2 x hx;exact ⟨⟨o0,by rw [hi.mg.m];exact h0⟩,by simp only [Env.Gx,if_true];exact (hold x hx).symm⟩
   ·rw [if_neg cS] at bJ;exact ⟨⟨o2,bJ⟩,by simp only [Env.Gx,cS,if_false]⟩
  have z7: ∀b,v.ownBlock=some b->(∀t cs,ah st.fr t= .box cs->e.B t≠b)/\(∀g' o',g'≠f->ar st.az g'=some o'->(e.E g').ownBlock≠some b):=by
   intro b hb;refine ⟨λt cs vX hbt=> ?_,λg' o' cg hog Z9=> ?_⟩
   ·rcases hi.box t cs vX with h0|⟨h0,rU,h1⟩
    ·exact h0 (by rw [hbt];exact mb b hb)
    ·exact h3.bf t rU g o3 h1 ho (by rw [<-hE,<-h0,hbt];exact hb)
   ·rcases hi.dV g' o' b hog Z9 with h0|⟨x,h0⟩
    ·exact h0 (mb b hb)
    ·obtain ⟨h5,o5,h6⟩:=hi.pair g' x h0;rw [h5] at Z9;have:=h3.ff g x o3 o5 b ho h6 (by rw [<-hE];exact hb) Z9;subst this;have:=p2 g' h0 cg;omega
  have gx:=hi.mg.QP hi.ptr hfp db z7 (KP _ (λ⟨t,hm⟩=>(hi.Tp t f hm).resolve_left (λhn=>hn hfF)));refine ⟨_,_,.own f,hK,⟨gx,hi.φ,hi.box,?_,?_,?_,?_,hi.ptr,?_⟩,?_,rfl,KP _ (λhs=>hs.resolve_left (λhn=>hn hfF)),λp hp=>by simp [hp],λf' P0=>by cases P0;exact ⟨g+1,by simp⟩,rfl,λhu=>by cases hu⟩
  ·intro f2 o2 b bJ hb;have bJ:ar (bh st.az f ⟨ty,cB,o3.xs⟩) f2=some o2:=bJ;have hb:(if f2=f then v else e.E f2).ownBlock=some b:=hb;rw [aI] at bJ;by_cases cS:f2=f
   ·subst cS;exact .inr ⟨g,by simp⟩
   ·rw [if_neg cS] at bJ hb;rcases hi.dV f2 o2 b bJ hb with h0|⟨x,h0⟩
    ·exact .inl h0
    ·exact .inr ⟨x,by simp [h0]⟩
  ·intro f2 g2 hp;show (if f2=f then v else e.E f2)=_/\_;rcases sh.1 hp with EA|EA
   ·simp only [aac,aaL] at EA;obtain ⟨rfl,rfl⟩:=EA;simp only [if_true];exact ⟨hE,o3,ho⟩
   ·by_cases cS:f2=f
    ·subst cS;have:=(p1 _ EA).1;have:g2=g:=by omega
     subst this;simp only [if_true];exact ⟨hE,o3,ho⟩
    ·rw [if_neg cS];exact hi.pair f2 g2 EA
  ·intro f2 x hp;show∃o,ar (bh st.az f ⟨ty,cB,o3.xs⟩) f2=some o;rw [aI];by_cases cS:f2=f
   ·rw [if_pos cS];exact ⟨_,rfl⟩
   ·rw [if_neg cS];rcases sh.1 hp with hp|hp
    ·exact absurd (Prod.mk.inj hp).1 cS
    ·exact hi.has f2 x hp
  ·intro f2 uI o2 bJ;have bJ:ar (bh st.az f ⟨ty,cB,o3.xs⟩) f2=some o2:=bJ;rw [aI] at bJ;by_cases cS:f2=f
   ·subst cS;exact ⟨g+1,by simp⟩
   ·rw [if_neg cS] at bJ;obtain ⟨x,hx⟩:=hi.own f2 uI o2 bJ;exact ⟨x,by simp [hx]⟩
  ·intro t f2 hm;rcases hi.Tp t f2 hm with h0|⟨x,hx⟩
   ·exact .inl h0
   ·exact .inr ⟨x,by simp [hx]⟩
  ·exact ⟨v,rfl,hv,λo' _=>by simp [Env.Gx]⟩
 |pX f ty cB hpo=>
  have hl:vs=[.slice none 0 0]:=hl;subst hl;obtain ⟨hfF,hfp⟩:=hF f (by simp [aM]);obtain ⟨p1,_⟩:=yN hpo;have Tq: ∀x,(f,x)∉ps:=λx hx=>(p1 x hx).2 rfl;simp only [fG,gL,jy] at hK;obtain ⟨I,hI,JV⟩:=dU f ty cB rfl;have db:bw c Zb.nc e w (.slice none 0 0) ⟨ty,cB,[]⟩:=⟨I,[],hI,JV,⟨by simp,.inl ⟨rfl,rfl⟩⟩,rfl,λaA hb=>by simp [AS] at hb⟩
  have KP: ∀S:Nat->Prop,(S f->False)->Ev S e (e.Gx f (.slice none 0 0) ⟨ty,cB,[]⟩):=by
   intro S hS;refine ⟨rfl,rfl,λf2 o2 bJ hs=> ?_⟩;have bJ:ar (bh e.m f ⟨ty,cB,[]⟩) f2=some o2:=bJ;rw [aI] at bJ;by_cases cS:f2=f
   ·subst cS;exact (hS hs).elim
   ·rw [if_neg cS] at bJ;exact ⟨⟨o2,bJ⟩,by simp only [Env.Gx,cS,if_false]⟩
  have gx:=hi.mg.QP hi.ptr hfp db (λb hb=>by simp [AS] at hb) (KP _ (λ⟨t,hm⟩=>(hi.Tp t f hm).elim (λhn=>hn hfF) (λ⟨x,hx⟩=>Tq x hx)));refine ⟨_,_,.own f,hK,⟨gx,hi.φ,hi.box,?_,?_,?_,?_,hi.ptr,?_⟩,?_,rfl,KP _ (λhs=>hs.elim (λhn=>hn hfF) (λ⟨x,hx⟩=>Tq x hx)),λp hp=>by simp [hp],λf' P0=>by cases P0;exact ⟨0,by simp⟩,rfl,λhu=>by cases hu⟩
  ·intro f2 o2 b bJ hb;have bJ:ar (bh st.az f ⟨ty,cB,[]⟩) f2=some o2:=bJ;have hb:(if f2=f then aa8 none 0 0 else e.E f2).ownBlock=some b:=hb;rw [aI] at bJ;by_cases cS:f2=f
   ·rw [if_pos cS] at hb;simp [AS] at hb
   ·rw [if_neg cS] at bJ hb;rcases hi.dV f2 o2 b bJ hb with h0|⟨x,h0⟩
    ·exact .inl h0
    ·exact .inr ⟨x,by simp [h0]⟩
  ·intro f2 g2 hp;show (if f2=f then aa8 none 0 0 else e.E f2)=_/\_;rcases sh.1 hp with EA|EA
   ·simp at EA
   ·by_cases cS:f2=f
    ·subst cS;exact absurd EA (Tq _)
    ·rw [if_neg cS];exact hi.pair f2 g2 EA
  ·intro f2 x hp;show∃o,ar (bh st.az f ⟨ty,cB,[]⟩) f2=some o;rw [aI];by_cases cS:f2=f
   ·rw [if_pos cS];exact ⟨_,rfl⟩
   ·rw [if_neg cS];rcases sh.1 hp with hp|hp
    ·exact absurd (Prod.mk.inj hp).1 cS
    ·exact hi.has f2 x hp
  ·intro f2 uI o2 bJ;have bJ:ar (bh st.az f ⟨ty,cB,[]⟩) f2=some o2:=bJ;rw [aI] at bJ;by_cases cS:f2=f
   ·subst cS;exact ⟨0,by simp⟩
   ·rw [if_neg cS] at bJ;obtain ⟨x,hx⟩:=hi.own f2 uI o2 bJ;exact ⟨x,by simp [hx]⟩
  ·intro t f2 hm;rcases hi.Tp t f2 hm with h0|⟨x,hx⟩
   ·exact .inl h0
   ·exact .inr ⟨x,by simp [hx]⟩
  ·exact ⟨_,rfl,rfl,λo' _=>by simp [Env.Gx]⟩
end
end Dn
/-
  What a piece of code hands on: all of it. Conditions: none.
-/
namespace Dn
open Go
theorem KQ {c:Ctx}{ks:List LK}(h:dE c ks=true): ∀f ty cB,LK.own f ty cB∈ks-> ∃I,c.ti ty=some I/\I.bB=[]:=by
 induction ks with
 |nil=>intro f ty cB hm;simp at hm
 |cons k ks ih=>
  intro f ty cB hm;cases k with
  |k x=>
   simp only [dE] at h;rcases sh.1 hm with hm|hm
   ·cases hm
   ·exact ih h f ty cB hm
  |own f' ty' ae2=>
   simp only [dE] at h;cases hI:c.tv ty' with
   |none=>simp [hI] at h
   |some I=>
    simp only [hI] at h;rcases sh.1 hm with hm|hm
    ·cases hm;exact ⟨I,aD hI⟩
    ·exact ih h f ty cB hm
theorem yO (k:LK)(ks:List LK):aM (k::ks)=aM [k]++aM ks:=by cases k<;>simp [aM]
section
variable {P:Program}{c:Ctx}{Z Zb Zi:aO} {e e' e3:Env}{st bm jm B:St} {a a':Act} {w w':World}{R:Type}{K:St->Option R}{r:R}{Q:Exit->Act->World->Prop}{o:Oper}{hn:eY}
inductive WE (st:St):List (Nat×Nat)->List LK->List ak->List MV->List (Nat×Nat)->Prop
 |nil (ps):WE st ps [] [] [] ps
 |cons {ps ps1 ps2 k l m ks ls ms}:TK st ps k l m ps1->WE st ps1 ks ls ms ps2->WE st ps (k::ks) (l::ls) (m::ms) ps2
theorem pY {ks:List LK}: ∀{ps:List (Nat×Nat)} {ls:List ak} {K':List MV->List (Nat×Nat)->Option R},eZ st ps ks ls K'=some r-> ∃ms eU,WE st ps ks ls ms eU/\K' ms eU=some r:=by
 induction ks with
 |nil=>
  intro ps ls K' h;cases ls with
  |nil=>exact ⟨[],ps,.nil ps,h⟩
  |cons=>simp [eZ] at h
 |cons k ks ih=>
  intro ps ls K' h;cases ls with
  |nil=>simp [eZ] at h
  |cons l ls=>simp only [eZ] at h;obtain ⟨m,ps1,h1,h⟩:=Il h;obtain ⟨ms,ps2,h2,h⟩:=ih h;exact ⟨m::ms,ps2,.cons h1 h2,h⟩
theorem rY {F:List Nat}{ks:List LK}: ∀{ps eU:List (Nat×Nat)} {ls:List ak} {ms rest:List MV} {vs:List Value} {e:Env} {st:St} {K':List ak->List MV->St->Option R},Inv c Zb Zi e3 jm F ps e st a w->bg c Zi e3 jm a w->(∀b,Zi.In b->Zb.In b)-> (∀f∈aM ks,f∈F/\f∉Zb.bF)->dE c ks=true->ai e3 vs ls->WE jm ps ks ls ms eU->bR st ks (ms++rest) K'=some r-> ∃e' bm qL,K' qL rest bm=some r/\Inv c Zb Zi e3 jm F eU e' bm a w/\ai e' vs qL/\bm.fr=st.fr/\Ev (λf=>f∉F\/ ∃x,(f,x)∈ps) e e'/\(∀p∈ps,p∈eU)/\(∀f,ak.own f∈qL-> ∃x,(f,x)∈eU)/\e'.B=e.B/\(∀l∈qL,l≠ .un):=by
 induction ks with
 |nil=>intro ps eU ls ms rest vs e st K' hi h3 eu hF dU hl ht hK;cases ht;exact ⟨e,st,[],hK,hi,hl,rfl,.refl _ _,λp hp=>hp,λf hf=>by simp at hf,rfl,by simp⟩
 |cons k ks ih=>
  intro ps eU ls ms rest vs e st K' hi h3 eu hF dU hl ht hK;cases ht with
  |cons Uv z8=>
   obtain ⟨v,u,rfl,Ge,om⟩:=hl;simp only [bR,aaj,gC] at hK;have rL:=KQ dU;obtain ⟨e1,aT,l',lv,nx,xw,xI,Uw,QQ,uK,hB1,QR⟩:=NJ hi h3 eu (λf hf=>hF f (by rw [yO];exact IT _ hf)) Ge Uv hK (λf ty cB hk=>rL f ty cB (by rw [hk];simp));have QS:dE c ks=true:=by
    cases k with
    |k x=>exact dU
    |own f ty cB=>
     simp only [dE] at dU;cases hI:c.tv ty with
     |none=>simp [hI] at dU
     |some I=>simpa [hI] using dU
   obtain ⟨e2,cK,qL,q8,KA,HS,T3,abx,aby,abz,hB2,afj⟩:=ih nx h3 eu (λf hf=>hF f (by rw [yO];exact aab _ hf)) QS om z8 lv;refine ⟨e2,cK,l'::qL,q8,KA,⟨v,u,rfl,?_,HS⟩,T3.trans xI,Uw.trans (abx.abt ?_),λp hp=>aby p (QQ p hp),?_,hB2.trans hB1,by intro l hl;rcases sh.1 hl with rfl|hl<;>first|exact QR|exact afj l hl⟩
   ·exact xw.ev abx (λf hf=> .inr (uK f hf))
   ·rintro f (hf|⟨x,hx⟩)
    ·exact .inl hf
    ·exact .inr ⟨x,QQ _ hx⟩
   ·intro f hf;rcases sh.1 hf with hf|hf
    ·obtain ⟨x,hx⟩:=uK f hf.symm;exact ⟨x,aby _ hx⟩
    ·exact abz f hf
inductive TO (st:St):List (Nat×Nat)->List (Nat×OK)->List MV->Prop
 |nil (ps):TO st ps [] []
 |sc {ps eU t k l ms r ns}:ah st.fr t= .sc l->WE st ps [k] [l] ms eU->TO st eU r ns->TO st ps ((t,.sc k)::r) (ms++ns)
 |ag {ps eU t ks ls ms r ns}:ah st.fr t= .ag ls->WE st ps ks ls ms eU->TO st eU r ns->TO st ps ((t,.ag ks)::r) (ms++ns)
 |box {ps eU t ks ls ms r ns}:ah st.fr t= .box ls->WE st ps ks ls ms eU->TO st eU r ns->TO st ps ((t,.box ks)::r) (ms++ns)
 |mp {ps t s es r ns}:ah st.fr t= .box [.mp s es]->TO st ps r ns->TO st ps ((t,.mp s)::r) (.list es::ns)
 |pt {ps t root off r ns}:ah st.fr t= .ptr root off->ru root=false->xB (ah st.fr root)=true->TO st ps r ns->TO st ps ((t,.pt root off)::r) ns
theorem kc {os:List (Nat×OK)}: ∀{ps:List (Nat×Nat)} {R:Type} {r:R} {K':List MV->Option R},cC st ps os K'=some r-> ∃ms,TO st ps os ms/\K' ms=some r:=by
 induction os with
 |nil=>intro ps R r K' h;exact ⟨[],.nil ps,h⟩
 |cons p os ih=>
  intro ps R r K' h;obtain ⟨t,k⟩:=p;simp only [cC] at h;split at h
  ·rename_i k l hf;obtain ⟨ms,eU,h1,h⟩:=pY h;obtain ⟨ns,h2,h⟩:=ih h;simp only [pN] at h;exact ⟨_,.sc hf h1 h2,h⟩
  ·rename_i ks ls hf;obtain ⟨ms,eU,h1,h⟩:=pY h;obtain ⟨ns,h2,h⟩:=ih h;simp only [pN] at h;exact ⟨_,.ag hf h1 h2,h⟩
  ·rename_i ks ls hf;obtain ⟨ms,eU,h1,h⟩:=pY h;obtain ⟨ns,h2,h⟩:=ih h;simp only [pN] at h;exact ⟨_,.box hf h1 h2,h⟩
  ·rename_i s s' es hf;cases hm:ZP s s' with
   |false=>simp [hm] at h
   |true=>simp only [hm,cond_true] at h;have:=Qt hm;subst this;obtain ⟨ns,h2,h⟩:=ih h;exact ⟨_,.mp hf h2,h⟩
  ·rename_i root off PD HM hf;cases hc:By root PD&&(By off HM&&(!ru root&&xB (ah st.fr root))) with
   |false=>simp [hc] at h
   |true=>rw [hc] at h;simp only [aQ,aaf] at hc;obtain ⟨k1,k2,k3,k4⟩:=hc;have k1:=AI k1;have k2:=AI k2;subst k1 k2;obtain ⟨ns,h2,h⟩:=ih h;exact ⟨_,.pt hf k3 k4 h2,h⟩
  ·simp at h
theorem QT {os:List (Nat×OK)}: ∀{ps:List (Nat×Nat)} {ms:List MV} {st:St},bg c Zb e st a w->bg c Zi e3 jm a w->TO jm ps os ms->PE os ms st K=some r-> ∃bm,bg c Zb e bm a w/\K bm=some r:=by
 induction os with
 |nil=>intro ps ms st h h3 ht hK;cases ht;exact ⟨st,h,hK⟩
 |cons p os ih=>
  obtain ⟨t,k⟩:=p;intro ps ms st h h3 ht hK;cases k with
  |pt root off=>
   cases ht with
   |pt hf hp hb z8=>
    obtain ⟨pr,q,fr,m⟩:=st;simp only [PE] at hK;cases hc:!ru root&&(xB (ah fr root)&&!bP (ah fr t)) with
    |false=>simp [hc] at hK
    |true=>
     rw [hc] at hK;simp only [aQ,aaf] at hc;obtain ⟨_,np,hn⟩:=hc;simp only [cond_true,gV] at hK;obtain ⟨cs,EF,_⟩:=tt np;have hB:=H6 h3 h hp hb np;have hv:aa e (a.tmps.getD t undef) (.ptr root off):=by have:=h3.slot t;rw [hf] at this;simp only [bk,aa] at this⊢;rw [hB];exact this
     exact ih (h.Qs EF hn hv) h3 z8 hK
  |_=>simp [PE] at hK
theorem NK {F:List Nat}{os:List (Nat×OK)}: ∀{ps:List (Nat×Nat)} {ms:List MV} {e:Env} {st:St},Inv c Zb Zi e3 jm F ps e st a w->bg c Zi e3 jm a w->(∀b,Zi.In b->Zb.In b)-> (∀f∈bp os,f∈F/\f∉Zb.bF)->(∀t∈ch os,t∉Zi.bI)->cJ c os=true->TO jm ps os ms->iJ st os ms K=some r-> ∃e' bm,bg c Zb e' bm a w/\e'.φ=e3.φ/\K bm=some r:=by
 induction os with
 |nil=>intro ps ms e st hi h3 eu hF hk dU ht hK;cases ht;exact ⟨e,st,hi.mg,hi.φ,hK⟩
 |cons p os ih=>
  intro ps ms e st hi h3 eu hF hk dU ht hK;obtain ⟨t,k⟩:=p;have Ts:=h3.slot t;have next: ∀{eU:List (Nat×Nat)} {s:Slot} {e1:Env} {aT:St} {ns:List MV},Inv c Zb Zi e3 jm F eU e1 aT a w->b8 s=false->bP s=false->aa e1 (a.tmps.getD t undef) s->(∀f,ak.own f∈jA s-> ∃x,(f,x)∈eU)-> (∀f∈bp os,f∈F/\f∉Zb.bF)->cJ c os=true->TO jm eU os ns->(HN aT t s λst=>iJ st os ns K)=some r-> ∃e' bm,bg c Zb e' bm a w/\e'.φ=e3.φ/\K bm=some r:=by
   intro eU s e1 aT ns nx hp hb hr Ut hF2 QS z8 hK;simp only [HN,gV] at hK;have hg: ∀t',ah (bu aT.fr t s) t'=if t'=t then s else ah aT.fr t':=λt'=>a8 _ _ _ _
   refine ih ⟨nx.mg.Uu nx.ptr hp hb hr,nx.φ,?_,nx.dV,nx.pair,nx.has,nx.own,?_,?_⟩ h3 eu hF2 (λt' vd=>hk t' (by simp [ch,vd])) QS z8 hK
   ·intro t' cs vX;have vX:ah (bu aT.fr t s) t'= .box cs:=vX;rw [hg] at vX;by_cases nV:t'=t
    ·rw [if_pos nV] at vX;subst vX;simp [bP] at hb
    ·rw [if_neg nV] at vX;exact nx.box t' cs vX
   ·intro t';show b8 (ah (bu aT.fr t s) t')=false;rw [hg];by_cases nV:t'=t
    ·rw [if_pos nV];exact hp
    ·rw [if_neg nV];exact nx.ptr t'
   ·intro t' f hm;have hm:ak.own f∈jA (ah (bu aT.fr t s) t'):=hm;rw [hg] at hm;by_cases nV:t'=t
    ·rw [if_pos nV] at hm;exact .inr (Ut f hm)
    ·rw [if_neg nV] at hm;exact nx.Tp t' f hm
  have QU: ∀{eU:List (Nat×Nat)} {ls qL:List ak} {ob:Obj} {e1:Env} {aT:St} {ns:List MV},Inv c Zb Zi e3 jm F eU e1 aT a w->ah jm.fr t= .box ls->tied Zb t (a.tmps.getD t undef) qL (e3.B t)->w.heap[e3.B t]? =some ob->e9 e1 ob qL-> (∀f,ak.own f∈qL-> ∃x,(f,x)∈eU)->(∀f∈bp os,f∈F/\f∉Zb.bF)->cJ c os=true->TO jm eU os ns->(HN aT t (.box qL) λst=>iJ st os ns K)=some r-> ∃e' bm,bg c Zb e' bm a w/\e'.φ=e3.φ/\K bm=some r:=by
   intro eU ls qL ob e1 aT ns nx hf hv bH xw uK hF2 QS z8 lv;rw [hf] at Ts;have vX:=Ts.2;simp only [HN,gV] at lv;have htp:t∉Zi.bI:=hk t (by simp [ch]);have mb:Zi.In (e3.B t):=Hu vX.bt htp;have hg: ∀t',ah (bu aT.fr t (.box qL)) t'=if t'=t then .box qL else ah aT.fr t':=λt'=>a8 _ _ _ _
   have iy:=nx.mg.Yk (t:=t) (aA:=e3.B t) (cs:=qL) nx.ptr hv ⟨.inr (eu _ mb),⟨ob,bH,xw⟩,λoff=>by rw [nx.φ];exact vX.free off⟩ (by
     intro t' dj zB cg KC;rcases nx.box t' dj zB with h0|⟨h0,rU,h1⟩
     ·exact h0 (by rw [KC];exact mb)
     ·exact h3.bb t' t rU ls h1 hf cg (by rw [<-h0];exact KC))
    (by
     intro f o ho KC;rcases nx.dV f o _ ho KC with h0|⟨g,h0⟩
     ·exact h0 mb
     ·obtain ⟨h5,o5,h6⟩:=nx.pair f g h0;rw [h5] at KC;exact h3.bf t ls g o5 hf h6 KC)
   refine ih (e:=e1.ui t (e3.B t)) ⟨iy,nx.φ,?_,nx.dV,nx.pair,nx.has,nx.own,?_,?_⟩ h3 eu hF2 (λt' vd=>hk t' (by simp [ch,vd])) QS z8 lv
   ·intro t' cs zB;have zB:ah (bu aT.fr t (.box qL)) t'= .box cs:=zB;rw [hg] at zB;show¬Zi.In (if t'=t then e3.B t else e1.B t')\/((if t'=t then e3.B t else e1.B t')=e3.B t'/\_);by_cases nV:t'=t
    ·subst nV;simp only [if_true];exact .inr ⟨trivial,ls,hf⟩
    ·rw [if_neg nV] at zB⊢;exact nx.box t' cs zB
   ·intro t';show b8 (ah (bu aT.fr t (.box qL)) t')=false;rw [hg];by_cases nV:t'=t
    ·rw [if_pos nV];rfl
    ·rw [if_neg nV];exact nx.ptr t'
   ·intro t' f hm;have hm:ak.own f∈jA (ah (bu aT.fr t (.box qL)) t'):=hm;rw [hg] at hm;by_cases nV:t'=t
    ·rw [if_pos nV] at hm;exact .inr (uK f hm)
    ·rw [if_neg nV] at hm;exact nx.Tp t' f hm
  cases ht with
  |sc hf Uv z8=>
   rename_i eU k l ms ns;rw [hf] at Ts;simp only [cJ] at dU;cases Bb:dE c [k] with
   |false=>simp [Bb] at dU
   |true=>
    simp only [Bb,cond_true] at dU;have hF1: ∀f∈aM [k],f∈F/\f∉Zb.bF:=λf hf=>hF f (by simp only [bp];exact IT _ hf);have hF2: ∀f∈bp os,f∈F/\f∉Zb.bF:=λf hf=>hF f (by simp only [bp];exact aab _ hf);simp only [iJ] at hK;have jj: ∃vs,aw e3 vs l/\ ∀(e1:Env) (l':ak),aw e1 vs l'->(∀m,l'= .p m->m.one=true)->l'≠ .un->aa e1 (a.tmps.getD t undef) (.sc l'):=by
     have h3s:aa e3 (a.tmps.getD t undef) (.sc l):=Ts;cases Uv with
     |cons hk1 _=>
      generalize a.tmps.getD t undef=v at h3s;by_cases hh: ∃k n x,l= .hs k n x
      ·obtain ⟨k,n,x,rfl⟩:=hh;obtain ⟨hv,Gg⟩:=h3s;refine ⟨aX k x,⟨rfl,Gg⟩,λe1 l' zx ho hu=> ?_⟩;have hlen:=bC k x;rw [Gg] at hlen;cases l' with
       |un=>exact absurd rfl hu
       |hs k2 n2 y=>obtain ⟨zx,h2⟩:=zx;refine ⟨?_,h2⟩;rw [<-zx];exact hv
       |nil=>have zx:aX k x=[_]:=zx;rw [zx] at hlen;simp at hlen
       |mp s es=>exact zx.elim
       |own f=>obtain ⟨u,hu2,_⟩:=zx;rw [hu2] at hlen;simp at hlen
       |p m=>obtain ⟨u,hu2,_⟩:=zx.2.one (ho m rfl);rw [hu2] at hlen;simp at hlen
      ·have Ux:l≠ .un:=by intro he;subst he;cases hk1
       have cM:aw e3 [v] l:=(aa.XH (λ_ _ x he=>hh ⟨_,_,x,he⟩) Ux).1 h3s;refine ⟨[v],cM,λe1 l' zx ho hu=> ?_⟩;cases l' with
       |un=>exact absurd rfl hu
       |hs k2 n2 y=>obtain ⟨zx,h2⟩:=zx;have:=bC k2 y;rw [<-zx,h2] at this;simp at this
       |nil=>exact zx
       |mp s es=>exact zx
       |own f=>exact zx
       |p m=>exact zx
    obtain ⟨vs,jX,abB⟩:=jj;obtain ⟨e1,aT,qL,lv,nx,xw,xI,Uw,QQ,uK,hB1,QR⟩:=rY (vs:=vs) hi h3 eu hF1 Bb (show ai e3 vs [l] from ⟨vs,[],by simp,jX,rfl⟩) Uv hK;split at lv
    ·rename_i l';obtain ⟨v1,u1,hvu,Ge,hu1⟩:=xw;have hu1:u1=[]:=hu1;subst hu1;have hvu:vs=v1:=by simpa using hvu
     subst hvu;refine next nx rfl rfl ?_ (λf hf=>uK f (by simpa [jA] using hf)) hF2 dU z8 lv
     refine abB e1 l' Ge ?_ ?_
     ·intro m hm;subst hm;exact Ge.1
     ·exact QR l' (by simp)
    ·cases lv
  |ag hf Uv z8=>
   rename_i eU ks ls ms ns;rw [hf] at Ts;simp only [cJ] at dU;cases Bb:dE c ks with
   |false=>simp [Bb] at dU
   |true=>simp only [Bb,cond_true] at dU;simp only [iJ] at hK;have h3s:aa e3 (a.tmps.getD t undef) (.ag ls):=Ts;simp only [aa] at h3s;obtain ⟨arr,hv,jX⟩:=h3s;obtain ⟨e1,aT,qL,lv,nx,xw,xI,Uw,QQ,uK,hB1,QR⟩:=rY hi h3 eu (λf hf=>hF f (by simp only [bp];exact IT _ hf)) Bb jX Uv hK;exact next (s:= .ag qL) nx rfl rfl ⟨arr,hv,xw⟩ uK (λf hf=>hF f (by simp only [bp];exact aab _ hf)) dU z8 lv
  |box hf Uv z8=>
   rename_i eU ks ls ms ns;rw [hf] at Ts;simp only [cJ] at dU;cases Bb:dE c ks with
   |false=>simp [Bb] at dU
   |true=>
    simp only [Bb,cond_true] at dU;simp only [iJ] at hK;have nj:cR ls=false:=by
     cases hm:cR ls with
     |false=>rfl
     |true=>obtain ⟨s,es,rfl⟩:=Ga hm;cases Uv;rename_i h1 _;cases h1
    obtain ⟨hv,vX⟩:=Ts;cases q9:ru t&&!aP st.bI (posOf t) with
    |true=>simp [q9] at hK
    |false=>
    simp only [q9,cond_false] at hK;have fH: ∀qL,cR qL=false->tied Zb t (a.tmps.getD t undef) qL (e3.B t):=λqL Wo=>⟨λhp=>by rw [hv.1 hp,lY nj,lY Wo],λhp=>by
     obtain ⟨k1,k2⟩:=hv.2 hp;rw [hp] at q9;have k3:posOf t∈Zb.bI:=by rw [<-hi.mg.defers.2.1,<-aN];simpa using q9
     exact ⟨k3,by rw [<-hi.mg.defers.2.2.2 _ k3,h3.defers.2.2.2 _ k1,k2]⟩⟩
    obtain ⟨arr,T,bH,jX⟩:=vX.cells nj;obtain ⟨e1,aT,qL,lv,nx,xw,xI,Uw,QQ,uK,hB1,QR⟩:=rY hi h3 eu (λf hf=>hF f (by simp only [bp];exact IT _ hf)) Bb jX Uv hK;exact QU nx hf (fH _ xw.rJ) bH ⟨rfl,xw⟩ uK (λf hf=>hF f (by simp only [bp];exact aab _ hf)) dU z8 lv
  |mp hf z8=>
   rename_i s es ns;rw [hf] at Ts;simp only [cJ] at dU;simp only [iJ] at hK;cases q9:ru t with
   |true=>simp [q9] at hK
   |false=>
   simp only [q9,cond_false,gC,gL] at hK;obtain ⟨L6,vX⟩:=Ts;have hv:tied Zb t (a.tmps.getD t undef) [ak.mp s es] (e3.B t):= .own q9 (L6.1 q9);obtain ⟨ob,bH,NL⟩:=vX.obj;cases ob with
   |cells arr T z=>exact absurd NL.2.rJ (by simp [cR])
   |map arr n=>exact QU hi hf hv bH NL (λf hf=>by simp at hf) (λf hf=>hF f (by simp only [bp];exact hf)) dU z8 hK
   |stringIter x n=>exact QU hi hf hv bH NL (λf hf=>by simp at hf) (λf hf=>hF f (by simp only [bp];exact hf)) dU z8 hK
   |_=>exact NL.elim
  |pt hf hp hb z8=>simp only [iJ] at hK;obtain ⟨bm,g1,g2⟩:=QT hi.mg h3 (.pt hf hp hb z8) hK;exact ⟨e,bm,g1,hi.φ,g2⟩
theorem we {os:List (Nat×OK)}{ms:List MV}(hJ:oQ c Zb Zi e B hn a w)(h3:bg c Zi e3 jm a w) (hφ:e3.φ=e.φ)(Tt:(∀t∈ch os,t∈ch hn.all)/\(∀f∈bp os,f∈bp hn.all))(dU:cJ c os=true)(ht:TO jm [] os ms)(hK:iJ B os ms K=some r): ∃e' bm,bg c Zb e' bm a w/\e'.φ=e.φ/\K bm=some r:=by
 rw [<-hφ];refine NK (F:=bp hn.all) ⟨hJ.mg,hφ.symm,λt cs hb=> .inl (hJ.box t cs hb),λf o b ho hb=> .inl (hJ.dV f o b ho hb),λf g hp=>by simp at hp,λf x hp=>by simp at hp,?_,hJ.ptr,λt f hm=> .inl (hJ.Tp t f hm)⟩ h3 hJ.sub ?_ ?_ dU ht hK
 ·intro f hf o ho;rw [(hJ.Ur f hf).2] at ho;cases ho
 ·intro f hf;exact ⟨Tt.2 f hf,(hJ.Ur f (Tt.2 f hf)).1⟩
 ·intro t vd;exact (hJ.Yh t (Tt.1 t vd)).2
end
end Dn
/-
  Code. Conditions: none.
-/
namespace Dn
open Go
theorem ny {os:List (Nat×OK)}{t:Nat}:t∈ch os↔ ∃k,(t,k)∈os:=by
 induction os with
 |nil=>simp [ch]
 |cons p os ih=>
  obtain ⟨t',k'⟩:=p;simp only [ch,sh,ih,aac];constructor
  ·rintro (rfl|⟨k,h⟩)
   ·exact ⟨k',.inl ⟨rfl,rfl⟩⟩
   ·exact ⟨k,.inr h⟩
  ·rintro ⟨k,⟨rfl,_⟩|h⟩
   ·exact .inl rfl
   ·exact .inr ⟨k,h⟩
def QV:OK->List Nat
 | .sc k=>aM [k]
 | .ag ks=>aM ks
 | .box ks=>aM ks
 | .mp _=>[]
 | .pt _ _=>[]
theorem Gy (t:Nat)(k:OK)(os:List (Nat×OK)):bp ((t,k)::os)=QV k++bp os:=by cases k<;>rfl
theorem nz {os:List (Nat×OK)}{f:Nat}:f∈bp os↔ ∃p∈os,f∈QV p.2:=by
 induction os with
 |nil=>simp [bp]
 |cons p os ih=>obtain ⟨t',k'⟩:=p;rw [Gy];simp [ih]
def Bc (c:Ctx):OK->Bool
 | .sc k=>dE c [k]
 | .ag ks=>dE c ks
 | .box ks=>dE c ks
 | .mp _=>true
 | .pt _ _=>true
theorem Im {c:Ctx}(t:Nat)(k:OK)(os:List (Nat×OK)):cJ c ((t,k)::os)=(Bc c k&&cJ c os):=by
 cases k with
 |sc k=>simp only [cJ,Bc];cases dE c [k]<;>rfl
 |ag k=>simp only [cJ,Bc];cases dE c k<;>rfl
 |box k=>simp only [cJ,Bc];cases dE c k<;>rfl
 |mp s=>simp only [cJ,Bc,abG]
 |pt r o=>simp only [cJ,Bc,abG]
theorem Bd {c:Ctx}{os:List (Nat×OK)}:cJ c os=true↔ ∀p∈os,Bc c p.2=true:=by
 induction os with
 |nil=>simp [cJ]
 |cons p os ih=>obtain ⟨t',k'⟩:=p;rw [Im,aQ,ih,List.forall_mem_cons]
theorem QW {l:List (Nat×List (Nat×OK))}{e:Nat}{p:Nat×OK}(h:p∈Pp l e):p∈LI l:=by
 induction l with
 |nil=>simp [Pp] at h
 |cons q l ih=>
  obtain ⟨k,m⟩:=q;simp only [Pp] at h;simp only [LI,aas];cases hb:By k e with
  |true=>simp [hb] at h;exact .inl h
  |false=>simp [hb] at h;exact .inr (ih h)
theorem Gz {hn:eY}{e:Nat}:(∀t∈ch (hn.ex e),t∈ch hn.all)/\(∀f∈bp (hn.ex e),f∈bp hn.all)/\ ∀{c:Ctx},cJ c hn.all=true->cJ c (hn.ex e)=true:=by
 have hm: ∀p∈hn.ex e,p∈hn.all:=λp hp=>aab _ (QW hp);refine ⟨λt ht=> ?_,λf hf=> ?_,λh=> ?_⟩
 ·obtain ⟨k,hk⟩:=ny.1 ht;exact ny.2 ⟨k,hm _ hk⟩
 ·obtain ⟨p,hp,hf⟩:=nz.1 hf;exact nz.2 ⟨p,hm _ hp,hf⟩
 ·rw [Bd] at h⊢;exact λp hp=>h p (hm p hp)
theorem QX {hn:eY}:(∀t∈ch hn.outs,t∈ch hn.all)/\(∀f∈bp hn.outs,f∈bp hn.all)/\ ∀{c:Ctx},cJ c hn.all=true->cJ c hn.outs=true:=by
 have hm: ∀p∈hn.outs,p∈hn.all:=λp hp=>IT _ hp;refine ⟨λt ht=> ?_,λf hf=> ?_,λh=> ?_⟩
 ·obtain ⟨k,hk⟩:=ny.1 ht;exact ny.2 ⟨k,hm _ hk⟩
 ·obtain ⟨p,hp,hf⟩:=nz.1 hf;exact nz.2 ⟨p,hm _ hp,hf⟩
 ·rw [Bd] at h⊢;exact λp hp=>h p (hm p hp)
theorem Io {R:Type}{r:R}{l:List Nat}{e:Nat}{K:Nat->Option R}(h:O7 l e K=some r):K e=some r:=by
 induction l with
 |nil=>simp [O7] at h
 |cons p l ih=>
  cases l with
  |nil=>
   simp only [O7,cY] at h;by_cases he:e=p
   ·subst he;simpa using h
   ·simp [he] at h
  |cons q l=>
   simp only [O7,cY] at h;by_cases he:e=p
   ·subst he;simpa using h
   ·simp only [he,decide_false,cond_false] at h;exact ih h
theorem NM {σ R:Type}{r:R}{body:σ->Option (Sum σ R)}{k:Nat}{s:σ}(h:lm k body s=some r): ∃n,iter body n s=some r:=by
 unfold lm at h;split at h
 ·rename_i hr;exact ⟨k,by rw [hr,h]⟩
 ·split at h
  ·rename_i hx;obtain ⟨n,hn⟩:=Classical.choose_spec hx;exact ⟨n,by rw [hn];exact h⟩
  ·cases h
def rZ:Nat->Exit
 |0=> .normal
 |1=> .ret
 |n+2=> .exit n
section
variable {P:Program}{c:Ctx}{Z Zb Zi:aO} {e e' e3:Env}{st bm jm B:St} {a a':Act} {w w':World}{R:Type}{r:R}{Q:Exit->Act->World->Prop}{o:Oper}{hn:eY}
def GA (P:Program)(c:Ctx)(id:Nat)(ops:Array Oper)(d:Bool)(l:List Oper):Prop:=∀{Z:aO} {e:Env} {st:St} {a:Act} {w:World} {R:Type} {K:St->Option R} {r:R} {Q:Exit->Act->World->Prop},bg c Z e st a w->ug c ops.toList l st K=some r-> (∀a' w',Out c Z K r e.φ w a' w'->Q .normal a' w')->(abY id ops d).wp P Q a w
theorem NN (hG:Good P c)(id:Nat)(ops:Array Oper):GA P c id ops false ops.toList:=by
 intro Z e st a w R K r Q h hK hQ;refine wp_region (Yg hG (os:=ops.toList) ?_ h hK (.refl _ _ _) hQ);apply acB;intro i;simp only [aal];by_cases hi:i<ops.size
 ·simp [ab0 hi,hi]
 ·have h1:(List.range ops.size)[i]? =none:=by simp;omega
  have h2:ops.toList[i]? =none:=by simp;omega
  rw [h1,h2];rfl
theorem EQ {id:Nat}{ops:Array Oper}{d:Bool}{l:List Oper}{K:St->Option R}(hr:GA P c id ops d l)(h:bg c Z e st a w)(hK:zZ c id ops.toList l st K=some r)(hQ: ∀a' w',Out c Z K r e.φ w a' w'->Q .normal a' w'):(abY id ops d).wp P Q a w:=by
 unfold zZ at hK;cases hg:guarded ops.toList with
 |false=>simp only [hg,cond_false] at hK;obtain ⟨bm,h',hK⟩:=kO h hK;exact hr h' hK hQ
 |true=>
  simp only [hg,cond_true] at hK;obtain ⟨Zi,e1,e2,aT,cK,h1,t1,hφ,hk,j1,j2,eu,dU,hK⟩:=wc h hK;obtain ⟨vs,hv,hK⟩:=fQ hK;obtain ⟨afn,vK,hv⟩:=kO h1 hv;refine hr vK hv ?_;rintro a' w' ⟨e3,jm,h3,t3,TZ⟩;obtain ⟨ms,ht,zH⟩:=kc TZ;cases zH;have t3':Trans Zi.In e2.φ w e3.φ w':=by rw [hφ];exact t3
  have jl:=j1.later t3' h3.fB h3.defers.1 h3.size h3.defers.2.2.2;obtain ⟨s1,s2,s3⟩:=Gz (hn:=c.gQ id) (e:=0);obtain ⟨e5,st5,g1,g2,g3⟩:=we jl h3 rfl ⟨s1,s2⟩ (s3 dU) ht hK;refine hQ a' w' ⟨e5,st5,g1,?_,g3⟩;rw [g2];exact t1.trans ⟨t3.ph,λb hb=>t3.heap b (λhz=>hb (eu b hz)),λb o hb=>t3.free b o (λhz=>hb (eu b hz)),t3.size,t3.rest⟩
theorem Trans.sup {I J:Nat->Prop} {φ φ':Ph}(h:Trans I φ w φ' w')(hs: ∀b,I b->J b):Trans J φ w φ' w':=⟨h.ph,λb hb=>h.heap b (λhz=>hb (hs b hz)),λb o hb=>h.free b o (λhz=>hb (hs b hz)),h.size,h.rest⟩
theorem ER {n:Nat}{next:Act->World->Prop}(hn:n≠0):Exit.then next Q (rZ n)=Q (rZ n):=by
 match n,hn with
 |1,_=>rfl
 |n+2,_=>rfl
def Ip (P:Program)(c:Ctx)(id:Nat)(ops:Array Oper):Prop:=∀{Z:aO} {e:Env} {st:St} {a:Act} {w:World} {R:Type} {K:St->Option R} {r:R} {Q:Exit->Act->World->Prop},bg c Z e st a w->PJ c id ops.toList st K=some r-> (∀a' w',Out c Z K r e.φ w a' w'->Q .normal a' w')->(abY id ops false).wp P Q a w
def Iq (P:Program)(c:Ctx):Prop:=(∀(id:Nat) (ops:Array Oper),Ip P c id ops)/\(∀(id:Nat) (ops:Array Oper) (l:List Oper),lU c ops (c.ord id)=true->kD ops.toList (c.ord id)=some l->GA P c id ops true l)/\ ∀(id:Nat) (ops:Array Oper) (k:Nat) (l:List Nat) {Z:aO} {e:Env} {st:St} {a:Act} {w:World} {R:Type} [vJ R] {K:St->Option R} {r:R} {Q:Exit->Act->World->Prop},bg c Z e st a w->Az c st K k ops l=some r-> (∀a' w',Out c Z K r e.φ w a' w'->Q .normal a' w')->(abY id ops true).wp P Q a w
theorem NO {R:Type} [vJ R]{x y:Option R}{r:R}(h:both x y=some r):x=some r/\y=some r:=by
 rw [TF] at h;split at h
 ·rename_i he;exact ⟨h,by rw [<-he];exact h⟩
 ·cases h
theorem KR {n:Nat}{l o1 o2:List Nat}{A B:Nat}(h:PK n l=some (o1,o2,A,B)):A≠B/\A<n/\B<n:=by
 unfold PK at h;split at h
 ·rename_i m A' B' _;cases hb:By A' B'||(acd n A'||acd n B') with
  |true=>rw [hb] at h;cases h
  |false=>
   rw [hb] at h;simp only [cond_false,AT,aac] at h;obtain ⟨_,_,rfl,rfl⟩:=h;simp only [OF] at hb;obtain ⟨h1,h2,h3⟩:=hb;refine ⟨λhe=> ?_,?_,?_⟩
   ·rw [he] at h1;simp [cY] at h1
   ·by_cases hh:A'<n
    ·exact hh
    ·rw [abW (by omega)] at h2;cases h2
   ·by_cases hh:B'<n
    ·exact hh
    ·rw [abW (by omega)] at h3;cases h3
 ·cases h
theorem Yl {ts:List Nat}{K:St->Option R}(h:bg c Z e st a w)(hK:fzK c ts st K=some r): ∃e' bm,bg c Z e' bm a w/\Trans Z.In e.φ w e'.φ w/\K bm=some r:=by
 unfold fzK at hK;split at hK
 ·exact ⟨e,st,h,.refl _ _ _,hK⟩
 ·obtain ⟨e',bm,ms,h1,h2,_,h3,_⟩:=mc h hK;exact ⟨e',bm,h1,h2.tr,h3⟩
theorem GB (hG:Good P c)(hD:Iq P c): ∀(code:Code) {R:Type} [vJ R] {r:R} {Z:aO} {e:Env} {st:St} {a:Act} {w:World} {K:Nat->St->Option R} {Q:Exit->Act->World->Prop},bg c Z e st a w->jh c code R st K=some r-> (∀n e' bm a' w',bg c Z e' bm a' w'->Trans Z.In e.φ w e'.φ w'->K n bm=some r->Q (rZ n) a' w')->code.wp P Q a w:=by
 intro code;induction code with
 |skip=>intro R _ r Z e st a w K Q h hK hQ;exact wp_skip (hQ 0 e st a w h (.refl _ _ _) hK)
 |exit id=>intro R _ r Z e st a w K Q h hK hQ;exact wp_exit (hQ (id+2) e st a w h (.refl _ _ _) hK)
 |ret=>intro R _ r Z e st a w K Q h hK hQ;exact wp_ret (hQ 1 e st a w h (.refl _ _ _) hK)
 |region id ops d=>
  intro R _ r Z e st a w K Q h hK hQ;have NP: ∀a' w',Out c Z (λst=>K 0 st) r e.φ w a' w'->Q .normal a' w':=by rintro a' w' ⟨e2,cK,h1,h2,h3⟩;exact hQ 0 e2 cK a' w' h1 h2 h3
  simp only [jh,LP] at hK;obtain ⟨e0,tj,h0,t0,hK⟩:=Yl h hK;have NP: ∀a' w',Out c Z (λst=>K 0 st) r e0.φ w a' w'->Q .normal a' w':=by rintro a' w' ⟨e2,cK,h1,h2,h3⟩;exact NP a' w' ⟨e2,cK,h1,t0.trans h2,h3⟩
  replace h:=h0
  cases d with
  |false=>exact hD.1 id ops h hK NP
  |true=>
   simp only [cond_true] at hK;cases h2:!By (c.ord id).length ops.toList.length with
   |true=>
    simp only [h2,cond_true] at hK;unfold aaB at hK;cases hg:guarded ops.toList with
    |true=>
     simp only [hg,cond_true] at hK;obtain ⟨Zi,e1,e2,aT,cK,h1,t1,hφ,hk,j1,j2,eu,dU,hK⟩:=wc h hK;obtain ⟨vs,hv,hK⟩:=fQ hK;obtain ⟨afn,vK,hv⟩:=kO h1 hv;refine hD.2.2 id ops _ _ vK hv ?_;rintro a' w' ⟨e3,jm,h3,t3,TZ⟩;obtain ⟨ms,ht,zH⟩:=kc TZ;cases zH;have t3':Trans Zi.In e2.φ w e3.φ w':=by rw [hφ];exact t3
     have jl:=j1.later t3' h3.fB h3.defers.1 h3.size h3.defers.2.2.2;obtain ⟨s1,s2,s3⟩:=Gz (hn:=c.gQ id) (e:=0);obtain ⟨e5,st5,g1,g2,g3⟩:=we jl h3 rfl ⟨s1,s2⟩ (s3 dU) ht hK;refine NP a' w' ⟨e5,st5,g1,?_,g3⟩;rw [g2];exact t1.trans ⟨t3.ph,λb hb=>t3.heap b (λhz=>hb (eu b hz)),λb o hb=>t3.free b o (λhz=>hb (eu b hz)),t3.size,t3.rest⟩
    |false=>simp only [hg,cond_false] at hK;obtain ⟨bm,h',hK⟩:=kO h hK;exact hD.2.2 id ops _ _ h' hK NP
   |false=>
   simp only [h2,cond_false] at hK;cases hd:lU c ops (c.ord id) with
   |false=>simp [hd] at hK
   |true=>
    simp only [hd,cond_true] at hK;cases hp:kD ops.toList (c.ord id) with
    |none=>simp [hp] at hK
    |some l=>simp only [hp] at hK;exact EQ (hD.2.1 id ops l hd hp) h hK NP
 |seq x y ihx ihy=>
  intro R _ r Z e st a w K Q h hK hQ;refine wp_seq (ihx h hK ?_);intro n e1 aT a1 w1 h1 t1 lv;by_cases hn:n=0
  ·subst hn;exact ihy h1 lv (λn e2 cK a2 w2 h2 t2 q8=>hQ n e2 cK a2 w2 h2 (t1.trans t2) q8)
  ·rw [ER hn];have:By n 0=false:=by rw [cY];simp [hn]
   simp only [this,cond_false] at lv;exact hQ n e1 aT a1 w1 h1 t1 lv
 |cond x y z ihy ihz=>
  intro R _ r Z e st a w K Q h hK hQ;simp only [jh] at hK;obtain ⟨hx,_⟩:=h.eval x;split at hK
  ·rename_i v hv;rw [hv] at hx;have hxv:=yz hx;refine wp_cond hxv ?_;cases hj:aP (gp y) 0&&aP (gp z) 0 with
   |false=>
    simp only [hj,cond_false] at hK;cases v with
    |true=>exact ihy h hK hQ
    |false=>exact ihz h hK hQ
   |true=>
    simp only [hj,cond_true] at hK;generalize hh:c.iF ((c9 (.seq y z)).getD 0)=hn at hK;obtain ⟨Zi,e1,e2,aT,cK,h1,t1,hφ,hk,j1,j2,eu,dU,hK⟩:=wc h hK;obtain ⟨⟨n,vs⟩,hv,hK⟩:=fQ hK;have hK:=Io hK;have fin: ∀n' e3 jm a3 w3,bg c Zi e3 jm a3 w3->Trans Zi.In e1.φ w e3.φ w3->cC jm [] (hn.ex n') (λvs=>some (n',vs))=some (n,vs)->Q (rZ n') a3 w3:=by
     intro n' e3 jm a3 w3 h3 t3 TZ;obtain ⟨ms,ht,zH⟩:=kc TZ;cases zH;have t3':Trans Zi.In e2.φ w e3.φ w3:=by rw [hφ];exact t3
     have jl:=j1.later t3' h3.fB h3.defers.1 h3.size h3.defers.2.2.2;obtain ⟨s1,s2,s3⟩:=Gz (hn:=hn) (e:=n);obtain ⟨e5,st5,g1,g2,g3⟩:=we jl h3 rfl ⟨s1,s2⟩ (s3 dU) ht hK;refine hQ n e5 st5 a3 w3 g1 ?_ g3;rw [g2];exact t1.trans (t3.sup eu)
    cases v with
    |true=>exact ihy h1 hv fin
    |false=>exact ihz h1 hv fin
  ·simp at hK
 |block id b ih=>
  intro R _ r Z e st a w K Q h hK hQ;refine wp_block (ih h hK ?_);intro n e1 aT a1 w1 h1 t1 lv;by_cases hn:n=id+2
  ·subst hn;simp only [cY,decide_true,cond_true] at lv;have:=hQ 0 e1 aT a1 w1 h1 t1 lv;simpa [rZ,Exit.inBlock] using this
  ·simp only [cY,hn,decide_false,cond_false] at lv;have:=hQ n e1 aT a1 w1 h1 t1 lv;match n,hn,this with
   |0,_,this=>exact this
   |1,_,this=>exact this
   |i+2,hn,this=>have hi:i≠id:=λhe=>hn (by rw [he]);simpa [rZ,Exit.inBlock,hi] using this
 |loop b ih=>
  intro R _ r Z e st a w K Q h hK hQ;simp only [jh] at hK;generalize hh:c.il ((c9 b).getD 0)=hn at hK;obtain ⟨Zi,e1,e2,aT,cK,h1,t1,hφ,hk,j1,j2,eu,dU,hK⟩:=wc h hK;obtain ⟨vs,ht,hK⟩:=kc hK;obtain ⟨⟨n,ms⟩,hl,hK⟩:=fQ hK;obtain ⟨k,LY⟩:=NM hl;have hK:=Io hK;refine wp_loop_rounds k ?_;have key: ∀(k:Nat) (vs:List MV) (e2 e3:Env) (jm:St) (a3:Act) (w3:World),bg c Zi e3 jm a3 w3->e3.φ=e2.φ->TO jm [] hn.outs vs->oQ c Z Zi e2 (uV st cK) hn a3 w3->oQ c Zi Zi e2 cK hn a3 w3->Trans Z.In e.φ w e2.φ w3-> iter (λms=>iJ cK hn.outs ms λst=>jh c b (Sum (List MV) (Nat×List MV)) st λe st=>bif By e 0 then cC st [] hn.outs λvs=>some (.inl vs) else cC st [] (hn.ex e) λvs=>some (.inr (e,vs))) k vs=some (n,ms)->Code.rounds P b Q k a3 w3:=by
   intro k;induction k with
   |zero=>intro vs e2 e3 jm a3 w3 _ _ _ _ _ _ hi;simp [iter] at hi
   |succ k ihk=>
    intro vs e2 e3 jm a3 w3 h3 Yc ht3 j1 j2 t3 hi;simp only [iter] at hi;obtain ⟨s1,s2,s3⟩:=QX (hn:=hn);rw [rounds_succ];have go: ∀(res:Sum (List MV) (Nat×List MV)),(iJ cK hn.outs vs λst=>jh c b (Sum (List MV) (Nat×List MV)) st λe st=>
     bif By e 0 then cC st [] hn.outs λvs=>some (.inl vs) else cC st [] (hn.ex e) λvs=>some (.inr (e,vs)))=some res->
     (∀DF,res= .inl DF->iter (λms=>iJ cK hn.outs ms λst=>jh c b (Sum (List MV) (Nat×List MV)) st λe st=>bif By e 0 then cC st [] hn.outs λvs=>some (.inl vs) else cC st [] (hn.ex e) λvs=>some (.inr (e,vs))) k DF=some (n,ms))->
     (∀q,res= .inr q->q=(n,ms))->b.wp P (Exit.then (Code.rounds P b Q k) Q) a3 w3:=by
     intro res jt hl hr;obtain ⟨e5,st5,g1,g2,g3⟩:=we j2 h3 Yc ⟨s1,s2⟩ (s3 dU) ht3 jt;refine ih g1 g3 ?_;intro n' e6 st6 a6 w6 h6 t6 Yd;have t6':Trans Zi.In e2.φ w3 e6.φ w6:=by rw [<-g2];exact t6
     have jl1:=j1.later t6' h6.fB h6.defers.1 h6.size h6.defers.2.2.2;have jl2:=j2.later t6' h6.fB h6.defers.1 h6.size h6.defers.2.2.2;by_cases XL:n'=0
     ·subst XL;obtain ⟨DF,ht6,hv6⟩:=kc Yd;cases hv6;exact ihk DF {e2 with φ:=e6.φ} e6 st6 a6 w6 h6 rfl ht6 jl1 jl2 (t3.trans (t6'.sup eu)) (hl DF rfl)
     ·rw [ER XL];have:By n' 0=false:=by rw [cY];simp [XL]
      simp only [this,cond_false] at Yd;obtain ⟨DF,ht6,hv6⟩:=kc Yd;cases hv6;cases hr _ rfl;obtain ⟨x1,x2,x3⟩:=Gz (hn:=hn) (e:=n);obtain ⟨e7,st7,q1,q2,q3⟩:=we jl1 h6 rfl ⟨x1,x2⟩ (x3 dU) ht6 hK;refine hQ n e7 st7 a6 w6 q1 ?_ q3;rw [q2];exact t3.trans (t6'.sup eu)
    split at hi
    ·rename_i s' hs;exact go _ hs (λDF he=>by cases he;exact hi) (λq he=>by cases he)
    ·rename_i q hs;cases hi;exact go _ hs (λDF he=>by cases he) (λq he=>by cases he;rfl)
    ·cases hi
  refine key k vs e2 e1 aT a w h1 hφ.symm ht j1 j2 ?_ LY;rw [hφ];exact t1
 |_=>intros;rename_i hK _;simp [jh] at hK
end
end Dn
