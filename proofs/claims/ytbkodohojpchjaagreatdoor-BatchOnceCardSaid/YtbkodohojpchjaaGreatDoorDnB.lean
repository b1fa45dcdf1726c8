import Derived.Test.YtbkodohojpchjaaGreatDoorDnA
import Derived.MapKept
import Derived.Carry
import Derived.Laws.StructEq
import Derived.Laws.RangeAny
import Derived.Laws.BytesArg
import Derived.Laws.MakeOwn
import Derived.Laws.IdiomStrings
import Derived.LoopN
import Derived.Laws.Sem
import Derived.ProofKit
import Derived.OpenShut
/- How code runs. Conditions: none. -/
set_option linter.unusedSimpArgs false
set_option linter.unusedVariables false
set_option linter.constructorNameAsVariable false
open List renaming mem_cons→bN,getElem?_eq_getElem→By,mem_append_left→No,mem_append_right→aaG,mem_cons_of_mem→aaW,cons_append→abN,getElem?_eq_some_iff→abO,getElem?_map→abQ,map_cons→abU,mem_map→abW,replicate→abY,mem_append→ab0,getElem?_append_right→ab8,getElem?_append_left→ach,length_cons→acO,eq_nil_of_length_eq_zero→acX,length_map→ac9,mem_filter→ada,getElem?_take→adf,getD_eq_getElem?_getD→adg,getElem?_eq_none_iff→adk,append_assoc→adn,size_toArray→adr,range'→adw,take_of_length_le→aem,mem_range'→ae6,take_append_drop→ae8,length_singleton→afe,mapM_cons→afk,getElem?_range→afq,map_eq_nil_iff→afw,getElem?_drop→afz,range→afA,ext_getElem?→afF,all_eq_true→afX,filter_cons→agb,length_take→agc,range'_succ→agd,append_nil→agn
open Bool renaming and_eq_true→sh,or_eq_false_iff→BY,not_eq_true'→abL,false_eq_true→abP,not_eq_false'→abZ,true_and→afx,not_true→afy
open Nat renaming eq_of_beq_eq_true→AI,beq→IT,zero_add→abR,le_refl→abT,add_right_cancel_iff→aci,le_trans→acu,le_of_ble_eq_true→acv,ble→aec,not_lt_zero→ae5,ble_eq_true_of_le→afc,zero_le→age,add_assoc→agp,succ_mul→agz,add_comm→agF
open Go.Value renaming ownBlock→AS,slice→acY,cells→ac5,okWide→afP,int→ags,string→agE
open Option.some renaming injEq→AT
open Go.Result renaming andThen→IN
open List.cons renaming injEq→OF
open Prod.mk renaming injEq→aa6
open Go.MapKept renaming run_getObj_map→abK,run_setObj_map→abS,heap_set→adG
open Go.Instr renaming sameBits→abM,sameNow→ab2,findNow→acU,findKey→adx,sureAddr→afm,loadAt→afM
open Classical renaming choose_spec→abV,choose→adX
open Array renaming toList_inj→abX,getElem?_modify→ab6,getD_eq_getD_getElem?→ab7,toList_map→acw,toArray_toList→ac3,ext_getElem?→ade,getElem?_append_left→adh,replicate→ae7,length_toList→afr
open Option renaming map_some→ab1
open Go.World renaming block_lt_of_cell?→aco
open Go.Deferred renaming ofValue→acC
open Go.Oper renaming wp_mono→adb,upon_value→ae3,wp→agA
open UInt8 renaming ofNat→adv
open False renaming elim→aeW
open Go.Code renaming region→afj
open Go.Sem renaming run_bind→afB,run→agT
open Go.Utf8 renaming decode→agf
open Go.Op renaming equal→ago
open Go.Region renaming wanted→agr
open Go.Addr renaming add_mid→agN
open Go.Value.pointer renaming injEq→agS
namespace Dn
open Go
section
variable {P:Program}{c:Ctx}{Z:bC} {e e':Env}{st:St}{a:Act} {w w':World}{R:Type}{K:St->Option R}{r:R}{Q:Exit->Act->World->Prop}{o:Oper}
theorem Ns {t:TypeId}{I E:TI}{vs:List Value}{parts:Array (Nat×Value)}(hu:P.underlying t=some (.slice I.elem))(hE:c.ti I.elem=some E)(om:E.ct=[])(eD:0<E.size)(hT:ia P c.ti)(ku:vs.length *E.size<=16777216)(hv: ∀v∈vs,v.cells.size=E.size)(hp:parts.toList=(vs.zipIdx 0).map λx=>(x.2,x.1)): (Instr.buildSlice t vs.length parts).run P w= .ok (.slice (some ⟨w.heap.size,0,none⟩) vs.length vs.length) (w.alloc (.cells (vs.flatMap λv=>v.cells.toList).toArray I.elem)):=by
 obtain ⟨i,z,hi,hs,XB,hz,Kn⟩:=lc (hT _ E hE) om;by_cases h0:vs.length=0
 ·have yt:=acX h0;subst yt;have Nl:parts= #[]:=by rw [<-abX,hp];rfl
  simp [Instr.buildSlice,run_underlying hu,Go.sizeOf,typeInfo,hi,Nl,Instr.fill,newRow,agT];congr 2;apply ade;intro k;simp
 ·have cR: ¬vs.length *i.size=0:=by rw [hs];exact Nat.mul_ne_zero h0 (by omega)
  refine run_buildSlice w t I.elem vs.length parts _ i z hu hi hz (by rw [hs];omega) cR ?_;rw [hp,hs];exact Go.Great.fill_whole eD vs _ hv (by simp)
theorem TD {key:Nat->Nat} {φ:Ph}{size cap a8:Nat}{xs:List MV}{cells:List Value}(h:aX key φ size cells xs)(B4:xs.length<=cap)(hp: ∀off,off<cells.length->φ a8 off=cells[off]?): gY key φ [.slice (some ⟨a8,0,none⟩) xs.length cap] (.list xs):=by
 have hlen:=h.length;have Gd: ∀i (hi:i<xs.length),∃v1,v1.length=size/\gY key φ v1 xs[i]/\(cells.drop (i *size)).take size=v1:=by intro i hi;obtain ⟨p1,v1,p2,he,CE,sv,eK⟩:=h.at (By hi);refine ⟨v1,sv,eK,?_⟩;rw [he,adn,<-CE,List.drop_left,<-sv,List.take_left]
 refine .list (some ⟨a8,0,none⟩) cap xs a8 0 size (λi=>(cells.drop (i *size)).take size) B4 (λ_=>rfl) ?_ ?_ ?_
 ·intro i hi;obtain ⟨v1,h1,_,h3⟩:=Gd i hi;rw [h3,h1]
 ·intro i j hi hj;have zL:i *size+j<cells.length:=by
   rw [hlen];calc i *size+j<i *size+size:=by omega
    _=(i+1) *size:=by rw [agz]
    _<=xs.length *size:=Nat.mul_le_mul_right _ hi
  rw [abR,hp _ zL,adf];simp only [hj,if_true,afz]
 ·intro i hi;obtain ⟨v1,_,h2,h3⟩:=Gd i hi;rw [h3];exact h2
theorem KG {t:TypeId}{n:Nat}{parts:Array (Nat×Operand)}{I E:TI}(ho:o.op= .buildSlice t n parts)(hI:c.tv t=some I)(hL:I.yr=true)(hE:c.tv I.elem=some E)(hT:ia P c.ti)(h:bS c Z e st a w)(ku:aec (n *E.size) 16777216=true)(hK:XM c st parts.toList 0 (λms st=>bif IT ms.length n then cJ (pS E.size ms) (bif bx c.bs (o.dst.getD 0) then bn c st o.dst (.sc (.p (.list ms))) K else iP st (o.dst.getD 0) ⟨I.elem,false,ms⟩ λst=>bn c st o.dst (.sc (.own (o.dst.getD 0))) K) else none)=some r): o.wp P a w (λa' w'=>db w w'/\Out c Z K r e.φ w a' w') Q:=by
 obtain ⟨lQ,hc⟩:=bj hI;obtain ⟨lN,om⟩:=bj hE;obtain ⟨hu,E2,v7,_,eD⟩:=TI.lm (hT t I lQ) hL;rw [lN] at v7;cases v7;obtain ⟨e1,eJ,ms,zn,CF,dL,hK,YB⟩:=Vm h hK;cases hn:IT ms.length n with
 |false=>simp [hn] at hK
 |true=>
  simp only [hn,cond_true] at hK;have hn:=AI hn;obtain ⟨hw,hK⟩:=dE hK;obtain ⟨ib,hlen,uq⟩:=KF dL hw;generalize yt:parts.toList.map (λp=>a.eval p.2)=vs at dL YB ib hlen uq;have ku:=acv ku;have bF:=Ns (P:=P) (c:=c) (w:=w) (t:=t) (I:=I) (vs:=vs) (parts:=parts.map λ(i,x)=>(i,a.eval x)) hu lN om eD hT (by rw [hlen,hn];exact ku) uq (by rw [<-YB];simp);have afb:(execOp a.eval o).run P w= .ok (.value (.slice (some ⟨w.heap.size,0,none⟩) vs.length vs.length)) (w.alloc (.cells (vs.flatMap λv=>v.cells.toList).toArray I.elem)):=by rw [hlen,hn] at bF⊢;simp [execOp,ho] at bF⊢;simp [bF]
  have hg:db w (w.alloc (.cells (vs.flatMap λv=>v.cells.toList).toArray I.elem)):= .alloc w _ _;have Fk: ∀off,e1.φ w.heap.size off=none:=by
   intro off;cases hp:e1.φ w.heap.size off with
   |none=>rfl
   |some u=>have:=aco w _ (zn.kZ _ _ _ hp);simp at this
  have TE:(vs.flatMap λv=>v.cells.toList).length=ms.length *E.size:=ib.length;have B4:ms.length<=16777216:=acu (Nat.le_mul_of_pos_right _ eD) (by rw [hn];exact ku);cases hb:bx c.bs (o.dst.getD 0) with
  |false=>
   simp only [hb,cond_false] at hK;have zJ:=zn.npf hK;have hK:=ot hK;have gd:cu c Z.nc e1 (w.alloc (.cells (vs.flatMap λv=>v.cells.toList).toArray I.elem)) (.slice (some ⟨w.heap.size,0,none⟩) vs.length vs.length) ⟨I.elem,false,ms⟩:=by
    refine ⟨E,_,lN,om,⟨TE,.inr ⟨w.heap.size,vs.length,_,by rw [hlen],age _,iy w _,by rw [hlen];exact abT _,by rw [hlen];unfold Go.maxLen;omega,?_,?_⟩⟩,ib,?_⟩
    ·rw [adr,TE,hlen]
    ·show List.take (ms.length *E.size) _=_;rw [aem (by simp only [List.toList_toArray];omega)]
    ·intro a8 jI;simp [AS] at jI;subst jI;refine ⟨zn.ch _ (abT _),λoff u hu=>(by rw [Fk] at hu;cases hu),λhc=>aeW hc⟩
   have oO:=zn.iP (f:=o.dst.getD 0) zJ gd hg.size (λb GM _=>hg.rK b GM) (λb off u hu=>hg.cell (zn.kZ b off u hu)) (λb jI=>by simp [AS] at jI;exact .inl (by omega));exact Rz (s:= .sc (.own (o.dst.getD 0))) hg afb oO (CF.tr.trans (hg.trans zn.ch _)) (.of (sS rfl) trivial) hK
  |true=>
   simp only [hb,cond_true] at hK;generalize hfl:(vs.flatMap λv=>v.cells.toList)=flat at *;have hle:gZ e1.φ (λb off=>if b=w.heap.size/\off<flat.length then flat[off]? else e1.φ b off):=by
    intro b off u hu;by_cases GN:b=w.heap.size
    ·subst GN;rw [Fk] at hu;cases hu
    ·simp only [GN,false_and,if_false];exact hu
   have iQ: ∀b off u,(λb off=>if b=w.heap.size/\off<flat.length then flat[off]? else e1.φ b off) b off=some u->(w.alloc (.cells flat.toArray I.elem)).cell? ⟨b,off,none⟩=some u:=by
    intro b off u hu;by_cases GN:b=w.heap.size/\off<flat.length
    ·simp only [GN,and_self,if_true] at hu;obtain ⟨rfl,_⟩:=GN;rw [cell_of (iy w _)];simpa using hu
    ·simp only [GN,if_false] at hu;exact hg.cell (zn.kZ b off u hu)
   have oO:=(zn.grow hg).afa hle iQ (by
     intro t2 yT ht off;have Lv:=zn.slot t2;rw [ht] at Lv;obtain ⟨o2,h1,_⟩:=Lv.2.obj;have:=aZ h1;have cR: ¬e1.B t2=w.heap.size:=by omega
     simp [cR])
    (by
     intro f o2 b cB rM off;obtain ⟨J,vu,_,_,h3,_⟩:=(zn.iK f o2 cB).row;rcases h3.2 with ⟨h1,_⟩|⟨g,cap,cY,h1,_,h4,_⟩
     ·rw [h1] at rM;simp [AS] at rM
     ·rw [h1] at rM;simp [AS] at rM;subst rM;have:=aZ h4;have cR: ¬g=w.heap.size:=by omega
      simp [cR])
   refine Rz (s:= .sc (.p (.list ms))) hg afb oO ?_ (.of ?_ trivial) hK
   ·refine CF.tr.trans ⟨hle,λb hz GM=>hg.rK b GM,λb off hz=> ?_,hg.size,hg.rest⟩;have cR: ¬b=w.heap.size:=by intro RO;subst RO;exact hz (zn.ch _ (abT _))
    simp [cR]
   ·simp only [ab,aM];rw [hlen];exact ⟨rfl,TD (ib.mono hle) (abT _) (λoff zL=>by simp [zL])⟩
end
end Dn
/-
  Variables that no one changes any more. Conditions: none.
-/
namespace Dn
open Go
section
variable {P:Program}{c:Ctx}{Z:bC} {e e':Env}{st:St}{a:Act} {w w':World}{R:Type}{K:St->Option R}{r:R}{Q:Exit->Act->World->Prop}{o:Oper}
theorem bS.Vn {root:Nat}{cs fU:List aE}{arr:Array Value}{T:TypeId}(h:bS c Z e st a w)(hf:aq st.fr root= .box cs)(cz:w.heap[e.B root]? =some (.cells arr T (0,0)))(hl:av e arr.toList fU)(hp:iz fU=true)(Hp:root∉Z.cA)(zM:zt root=false): ∃φ',gZ e.φ φ'/\(∀b off,¬Z b->φ' b off=e.φ b off)/\(∀j,j<arr.toList.length->φ' (e.B root) j=arr.toList[j]?)/\ bS c Z {e with φ:=φ'} {st with fr:=cj st.fr root (.zp fU)} a w:=by
 have lr:=h.slot root;rw [hf] at lr;have ou:=lr.2.free;have uJ:eT cs=false:=by obtain ⟨o,h1,h2⟩:=lr.2.obj;rw [cz] at h1;cases h1;exact h2.2.zH
 simp only [bW] at lr;refine ⟨λb off=>if b=e.B root/\off<arr.toList.length then arr.toList[off]? else e.φ b off,?_,?_,?_,?_⟩
 ·intro b off v hv;by_cases hb:b=e.B root
  ·subst hb;rw [ou] at hv;cases hv
  ·simp only [hb,false_and,if_false];exact hv
 ·intro b off hz;have hb: ¬b=e.B root:=by intro hb;subst hb;exact hz (OJ lr.2.ch Hp)
  simp [hb]
 ·intro j hj;have hj':j<arr.size:=by simpa using hj
  simp [hj']
 ·have hle:gZ e.φ (λb off=>if b=e.B root/\off<arr.toList.length then arr.toList[off]? else e.φ b off):=by
   intro b off v hv;by_cases hb:b=e.B root
   ·subst hb;rw [ou] at hv;cases hv
   ·simp only [hb,false_and,if_false];exact hv
  have rS:ki (λ_=>True) (λ_=>True) e {e with φ:=λb off=>if b=e.B root/\off<arr.toList.length then arr.toList[off]? else e.φ b off}:=⟨rfl,hle,λ_ _=>rfl,λf o ho _=>⟨o,ho,rfl,rfl⟩⟩
  have YC: ∀q,cV (aq st.fr q)=true->cV (aq (cj st.fr root (.zp fU)) q)=true:=by
   intro q hq;rw [bL];by_cases hqr:q=root
   ·simp [hqr,cV]
   ·simp only [hqr,if_false];exact hq
  refine ⟨h.defers,h.size,h.m,h.key,ej h.nodup,?_,?_,?_,?_,?_,h.ff,?_,h.ch⟩
  ·intro t;show bW Z _ w t _ (aq (cj st.fr root (.zp fU)) t);rw [bL];by_cases ht:t=root
   ·subst ht;simp only [if_true,bW,ab];refine ⟨e.B t,0,arr.toList,by have:=lr.1.1 zM;rwa [sP uJ] at this,hl.on rS (λl _ f _=>trivial),hp,?_⟩;intro j hj;have hj':j<arr.size:=by simpa using hj
    rw [abR];simp [hj']
   ·simp only [ht,if_false];have hs:=h.slot t;have DY:=h.bb t root;generalize aq st.fr t=s at hs DY;cases s<;>simp only [bW] at hs⊢ <;>try exact hs.on rS (dH _)
    rename_i yT;refine ⟨hs.1,hs.2.ch,?_,?_⟩
    ·obtain ⟨o2,h1,h2⟩:=hs.2.obj;exact ⟨o2,h1,h2.on rS (λl _ f _=>trivial)⟩
    ·intro off;have cR: ¬e.B t=e.B root:=DY yT cs rfl hf ht;show (if e.B t=e.B root/\off<arr.toList.length then arr.toList[off]? else e.φ (e.B t) off)=none;simp only [cR,false_and,if_false];exact hs.2.free off
  ·intro t;show cC (cj st.fr root (.zp fU)) (aq (cj st.fr root (.zp fU)) t);rw [bL];by_cases ht:t=root
   ·simp [ht,cC]
   ·simp only [ht,if_false];have pN:=h.root t;generalize aq st.fr t=s at pN;cases s with
    |ptr q o=>exact YC q pN
    |hp q o i=>exact YC q pN
    |zq q=>exact YC q pN
    |_=>trivial
  ·intro f o ho;obtain ⟨I,cells,h1,h2,h3,h4,h5⟩:=(h.iK f o ho).row;refine ⟨I,cells,h1,h2,h3,h4.mono hle,λa8 hb=>⟨(h5 a8 hb).1,λoff u hu=>(h5 a8 hb).2.1 off u ?_,λg1 g2 j hj=>hle.AH ((h5 a8 hb).2.2 g1 g2 j hj) hj⟩⟩;have cR: ¬a8=e.B root:=by intro RO;exact h.bf root cs f o hf ho (by rw [hb,RO])
   have hu:(if a8=e.B root/\off<arr.toList.length then arr.toList[off]? else e.φ a8 off)=some u:=hu;simpa [cR] using hu
  ·intro t t' c1 c2 h1 h2 cR;have h1:aq (cj st.fr root (.zp fU)) t= .box c1:=h1;have h2:aq (cj st.fr root (.zp fU)) t'= .box c2:=h2;rw [bL] at h1 h2;by_cases ht:t=root
   ·simp [ht] at h1
   ·by_cases B2:t'=root
    ·simp [B2] at h2
    ·simp only [ht,B2,if_false] at h1 h2;exact h.bb t t' c1 c2 h1 h2 cR
  ·intro t c1 f o h1 h2;have h1:aq (cj st.fr root (.zp fU)) t= .box c1:=h1;rw [bL] at h1;by_cases ht:t=root
   ·simp [ht] at h1
   ·simp only [ht,if_false] at h1;exact h.bf t c1 f o h1 h2
  ·intro b off v hv;have hv:(if b=e.B root/\off<arr.toList.length then arr.toList[off]? else e.φ b off)=some v:=hv;by_cases hb:b=e.B root/\off<arr.toList.length
   ·simp only [hb,and_self,if_true] at hv;rw [hb.1,cell_of cz];simpa using hv
   ·simp only [hb,if_false] at hv;exact h.kZ b off v hv
end
end Dn
/-
  Functions with captured variables. Conditions: none.
-/
namespace Dn
open Go
section
variable {P:Program}{c:Ctx}{Z:bC} {e e':Env}{st:St}{a:Act} {w w':World}{R:Type}{K:St->Option R}{r:R}{Q:Exit->Act->World->Prop}{o:Oper}
theorem xp {os:List Operand}: ∀{e:Env} {st:St} {K':List MV->St->Option R},bS c Z e st a w->CH c st os K'=some r-> ∃e' bY ms,bS c Z e' bY a w/\Ext Z e e'/\ga e'.key e'.φ (os.map a.eval) ms/\K' ms bY=some r/\(∀m∈ms,m.one=true):=by
 induction os with
 |nil=>intro e st K' h hK;exact ⟨e,st,[],h,.refl _ _,.nil,hK,by simp⟩
 |cons x xs ih=>
  intro e st K' h hK;simp only [CH] at hK;obtain ⟨hx,_⟩:=h.eval x;generalize aH c st x=s at hx hK;split at hK
  ·rename_i root;simp only [ab] at hx;split at hK
   ·rename_i cs uq;cases hup:wb cs||zt root with
    |true=>simp [hup] at hK
    |false=>
     simp only [hup,cond_false] at hK;obtain ⟨hu,anN⟩:=BY.1 hup;have nn:=h.slot root;rw [uq] at nn;have uJ:eT cs=false:=by
      cases hm:eT cs with
      |false=>rfl
      |true=>obtain ⟨s,ms,rfl⟩:=Ng hm;simp [wb,OX] at hu
     obtain ⟨arr,T,cz,pI⟩:=nn.2.cells uJ;obtain ⟨e1,eJ,ms,zn,CF,Ef,DZ,hK,_,zM⟩:=np h pI hK;cases Q3:rj cs ms with
     |none=>simp [Q3] at hK
     |some fU=>
      simp only [Q3] at hK;obtain ⟨Fe,Nl⟩:=zM fU Q3;have hB:e1.B root=e.B root:=CF.on.B root trivial;unfold wr at hK;cases hn:bx eJ.cA root with
      |true=>simp [hn] at hK
      |false=>
       obtain ⟨φ',g1,g2,g3,g4⟩:=zn.Vn (root:=root) (cs:=cs) (by rw [Ef];exact uq) (by rw [hB];exact cz) Fe Nl (by rw [<-zn.defers.2.1,<-bu,hn];simp) anN;simp only [hn,cond_false,force_eq,mB] at hK;have Lw:Ext Z e1 {e1 with φ:=φ'}:=⟨⟨rfl,g1,λ_ _=>rfl,λf o ho _=>⟨o,ho,rfl,rfl⟩⟩,g2⟩
       obtain ⟨e3,oP,ns,hs3,XC,hr3,hK,jd⟩:=ih g4 hK;refine ⟨e3,oP,.rp ms::ns,hs3,(CF.trans Lw).trans XC,?_,hK,by intro m hm;rcases bN.1 hm with rfl|hm<;>first|rfl|exact jd m hm⟩;have eK:gY e1.key φ' [a.eval x] (.rp ms):=by rw [hx,<-hB];refine .rp (e1.B root) 0 arr.toList ms (DZ.mono g1) ?_;intro j hj;rw [abR];exact g3 j hj
       have eK:=eK.mono XC.on.φ;have hk3:e3.key=e1.key:=XC.on.key;rw [<-hk3] at eK;exact .cons [a.eval x] _ _ _ eK hr3
   ·simp at hK
  ·rename_i cs;simp only [ab] at hx;obtain ⟨a8,q,vs,hv,pI,hp,Ee⟩:=hx;obtain ⟨e1,eJ,ms,zn,CF,Ef,DZ,yV,h6,_⟩:=np h pI hK;clear hK;obtain ⟨rfl,rfl⟩:=h6 hp;obtain ⟨e3,oP,ns,hs3,XC,hr3,Hq,jd⟩:=ih zn yV;refine ⟨e3,oP,.rp ms::ns,hs3,CF.trans XC,?_,Hq,by intro m hm;rcases bN.1 hm with rfl|hm<;>first|rfl|exact jd m hm⟩;have eK:gY e1.key e1.φ [a.eval x] (.rp ms):=by rw [hv];exact .rp a8 (q+0) vs ms DZ (by simpa using Ee)
   have eK:=eK.mono XC.on.φ;rw [<-XC.on.key] at eK;exact .cons [a.eval x] _ _ _ eK hr3
  ·simp at hK
theorem Pj {f:Nat}{bV:Array Operand}(ho:o.op= .makeFunc (.func f) #[] bV)(h:bS c Z e st a w)(hK:CH c st bV.toList (λms st=>bn c st o.dst (.sc (.p (.func (c.key f) ms))) K)=some r):Rd P c Z K r e a w o (λ_=>True):=by
 obtain ⟨e1,eJ,ms,zn,CF,DZ,hK,jd⟩:=xp h hK;refine RB (v:= .func (.func f) #[] (bV.map a.eval)) (s:= .sc (.p (.func (c.key f) ms))) (λw _=> ?_) zn CF.tr (.of ?_ trivial) hK
 ·simp [execOp,ho,Instr.makeFunc]
 ·simp only [ab,aM];exact ⟨rfl,.func f _ _ ms (by rw [zn.key]) (by simpa using DZ) jd⟩
end
end Dn
/-
  Contracts of functions; calls. Conditions: none.
-/
namespace Dn
open Go
def oS (φ:Ph)(w:World):Prop:= ∀b o v,φ b o=some v->w.cell? ⟨b,o,none⟩=some v
def na (key:Nat->Nat) (φ:Ph):Env:=⟨key,φ,λ_=>undef,λ_=>0,[]⟩
def dR (P:Program)(f:FuncId)(args:Array Value)(w:World)(R:Value->World->Prop):Prop:=match (callFunc f args).run P w with
 | .ok (.enter g as) w'=>Calls P g as w' λx AK=> ∃v,x= .returned v/\R v AK
 | .ok (.value v) w'=>R v w'
 |_=>False
def LC (ks:List LK)(ls:List MV):Option (List aE×List (Nat×oM)):=cQ ⟨[],[],[],[]⟩ ks ls λcs rest st=>gN rest (some (cs,st.aP))
def gf (c:Ctx)(Z:Nat->Prop) (φ:Ph)(w:World)(a8:Nat)(ks:List LK)(ls:List MV):Prop:=∃cs m,∃E:Nat->Value,∃arr T,LC ks ls=some (cs,m)/\w.heap[a8]? =some (.cells arr T (0,0))/\Z a8/\(∀o,φ a8 o=none)/\av ⟨c.key,φ,E,λ_=>a8,m⟩ arr.toList cs/\ (∀f o,aI m f=some o->cu c (bC.plain Z) ⟨c.key,φ,E,λ_=>a8,m⟩ w (E f) o/\(E f).ownBlock≠some a8)/\ (∀f f' o o' k,aI m f=some o->aI m f'=some o'->(E f).ownBlock=some k->(E f').ownBlock=some k->f=f')
def afd (c:Ctx)(Z:Nat->Prop) (φ:Ph)(w:World)(k:Nat)(vs:List Value)(ms:List MV):Prop:=∃pos ks off ls a8,c.sig k=some (pos,ks)/\vs[pos]? =some (.pointer (some ⟨a8,off,none⟩))/\ms[pos]? =some (.cell (.func off ls))/\bg c.key φ vs (ms.set pos (.rp []))/\gf c Z φ w a8 ks ls
def dS (c:Ctx)(Z:Nat->Prop) (φ:Ph)(w:World)(k:Nat)(vs:List Value)(ms:List MV):Prop:=if c.dA k then (∃v0 v1 v2 xs m1 ys,vs=[v0,v1,v2]/\ms=[.fresh xs,m1,.fresh ys]/\cu c (bC.plain Z) (na c.key φ) w v0 ⟨c.nU k,false,xs⟩/\di c.key φ v1 m1/\ cu c (bC.plain Z) (na c.key φ) w v2 ⟨c.nU k,false,ys⟩/\ ∀b,v0.ownBlock=some b->v2.ownBlock≠some b)\/ (∃v0 v1 v2 xs m1 m2,vs=[v0,v1,v2]/\ms=[.fresh xs,m1,m2]/\m2.one=true/\cu c (bC.plain Z) (na c.key φ) w v0 ⟨c.nU k,false,xs⟩/\di c.key φ v1 m1/\di c.key φ v2 m2)\/ afd c Z φ w k vs ms
 else bg c.key φ vs ms
def Nt (c:Ctx)(Z:Nat->Prop) (φ:Ph)(w:World)(k:Nat)(v:Value):List MV->Prop
 | .fresh xs::ms=> ∃v0 us,v= .tuple (v0::us).toArray/\cu c (bC.plain Z) (na c.key φ) w v0 ⟨c.nU k,false,xs⟩/\bg c.key φ us ms
 |ms=> ∃arr,v= .tuple arr/\bg c.key φ arr.toList ms
theorem Nt.args {c:Ctx}{Z:Nat->Prop} {φ:Ph}{w:World}{k:Nat}{arr:Array Value}{ms:List MV}(h:bg c.key φ arr.toList ms):Nt c Z φ w k (.tuple arr) ms:=by
 cases ms with
 |nil=>exact ⟨arr,rfl,h⟩
 |cons m r=>
  cases m<;>first|exact ⟨arr,rfl,h⟩|skip
  obtain ⟨_,_,_,h1,_⟩:=h;have h1:(MV.fresh _).one=true/\_:=h1;simp [MV.one] at h1
def jR (c:Ctx)(Z:Nat->Prop) (φ:Ph)(w:World)(k:Nat)(v:Value):MV->Prop
 | .fresh xs=>cu c (bC.plain Z) (na c.key φ) w v ⟨c.nU k,false,xs⟩
 | .b8 ms=>Nt c Z φ w k v ms
 |m=>di c.key φ v m
def BC (c:Ctx)(Z:Nat->Prop) (φ:Ph)(w:World)(k:Nat)(vs:List Value)(v:Value):MV->Prop
 | .ef r outs=>jR c Z φ w k v r/\ ∃pos ks a8 off,c.sig k=some (pos,ks)/\vs[pos]? =some (.pointer (some ⟨a8,off,none⟩))/\gf c Z φ w a8 ks outs
 |r=>jR c Z φ w k v r
def gh (P:Program)(c:Ctx)(f:Nat)(ms:List MV)(r:MV):Prop:=∀(φ:Ph) (w:World) (Z:Nat->Prop) (vs:List Value),(∀b,w.heap.size<=b->Z b)->dS c Z φ w (c.key f) vs ms->oS φ w-> dR P f vs.toArray w λv w'=> ∃φ',Trans Z φ w φ' w'/\oS φ' w'/\BC c Z φ' w' (c.key f) vs v r
def Sound (P:Program)(c:Ctx):Prop:= ∀f ms r,c.g (c.key f) ms=some r->gh P c f ms r
section
variable {P:Program}{c:Ctx}{Z:bC} {Z':Nat->Prop} {e e':Env}{st:St}{a:Act} {w w':World}{R:Type}{K:St->Option R}{r:R}{Q:Exit->Act->World->Prop}{o:Oper}
theorem BC.plain {c:Ctx}{Z:Nat->Prop} {φ:Ph}{w:World}{k:Nat}{vs:List Value}{v:Value}{r:MV}(h:jR c Z φ w k v r):BC c Z φ w k vs v r:=by cases r<;>first|exact h|exact absurd h.1 (by simp [MV.one])
def isW:MV->Bool
 | .ef _ _=>true
 |_=>false
theorem BC.of {c:Ctx}{Z:Nat->Prop} {φ:Ph}{w:World}{k:Nat}{vs:List Value}{v:Value}{r:MV}(h:BC c Z φ w k vs v r)(hr:isW r=false):jR c Z φ w k v r:=by cases r<;>first|exact h|cases hr
theorem bS.called {φ':Ph}(h:bS c Z e st a w)(hz: ∀b,Z' b->Z.In b)(vt: ∀t cs,aq st.fr t= .box cs-> ¬Z' (e.B t))(gd: ∀f o k,aI st.aP f=some o->(e.E f).ownBlock=some k-> ¬Z' k)(ht:Trans Z' e.φ w φ' w')(hi:oS φ' w'):bS c Z {e with φ:=φ'} st a w':=by
 have rS:ki (λ_=>True) (λ_=>True) e {e with φ:=φ'}:=⟨rfl,ht.ph,λ_ _=>rfl,λf o ho _=>⟨o,ho,rfl,rfl⟩⟩
 refine ⟨h.defers,h.size,h.m,h.key,h.nodup,?_,h.root,?_,h.bb,h.bf,h.ff,hi,λb hb=>h.ch b (acu ht.size hb)⟩
 ·intro t;have hs:=h.slot t;have hb:=vt t;generalize aq st.fr t=s at hs hb;cases s<;>simp only [bW] at hs⊢ <;>try exact hs.on rS (dH _)
  rename_i cs;refine ⟨hs.1,hs.2.ch,?_,?_⟩
  ·obtain ⟨o2,h1,h2⟩:=hs.2.obj;exact ⟨o2,by rw [ht.heap _ (hb cs rfl) (aZ h1)];exact h1,h2.on rS (λl _ f _=>trivial)⟩
  ·intro off;show φ' (e.B t) off=none;rw [ht.free _ off (hb cs rfl)];exact hs.2.free off
 ·intro f o ho;obtain ⟨I,cells,h1,h2,h3,h4,h5⟩:=(h.iK f o ho).row;refine ⟨I,cells,h1,h2,?_,h4.mono ht.ph,?_⟩
  ·show w'.ownsRow 0 o.ty I.size (e.E f) o.xs.length cells;refine ⟨h3.1,?_⟩;rcases h3.2 with h6|⟨g,cap,cY,g1,g2,g3,g4⟩
   ·exact .inl h6
   ·refine .inr ⟨g,cap,cY,g1,g2,?_,g4⟩;rw [ht.heap g (gd f o g ho (by rw [g1];rfl)) (aZ g3)];exact g3
  ·intro a8 hb;refine ⟨(h5 a8 hb).1,λoff u hu=>(h5 a8 hb).2.1 off u ?_,λg1 g2 j hj=>ht.ph.AH ((h5 a8 hb).2.2 g1 g2 j hj) hj⟩;have hu:φ' a8 off=some u:=hu;rw [ht.free _ off (gd f o a8 ho hb)] at hu;exact hu
theorem bS.Nu {f:Nat}{fo:oM} {v':Value}(h:bS c Z e st a w)(zJ:f∉Z.cy)(gd:cu c Z.nc e w v' fo)(hb: ∀b,v'.ownBlock=some b->(∀t cs,aq st.fr t= .box cs->e.B t≠b)/\(∀g o,aI st.aP g=some o->(e.E g).ownBlock≠some b)): bS c Z (e.wg f v' fo) (st.wg f fo) a w:=by
 have rS:ki (· ≠f) (λ_=>True) e (e.wg f v' fo):=by refine ⟨rfl,.refl _,λ_ _=>rfl,λf2 o2 cB cR=> ?_⟩;have cB:aI (bR e.m f fo) f2=some o2:=cB;rw [bm] at cB;simp only [cR,if_false] at cB;exact ⟨o2,cB,by simp [Env.wg,cR],rfl⟩
 refine ⟨h.defers,h.size,by show bR e.m f _=bR st.aP f _;rw [h.m],h.key,?_,?_,?_,?_,?_,?_,?_,h.kZ,h.ch⟩
 ·show (aN (lM f st.fr)).Nodup;have:aN (lM f st.fr)=aN st.fr:=by simp [aN,lM]
  rw [this];exact h.nodup
 ·intro t;show bW Z _ _ t _ (aq (lM f st.fr) t);rw [gU];have hs:=h.slot t;generalize aq st.fr t=s at hs;by_cases Eh: ∃cs,s= .box cs
  ·obtain ⟨cs,rfl⟩:=Eh;simp only [bW,AJ] at hs⊢;refine ⟨hs.1.lO (Rx f _),hs.2.ch,?_,hs.2.free⟩;obtain ⟨o2,h1,h2⟩:=hs.2.obj;refine ⟨o2,h1,?_⟩;refine (h2.map (λ_ _=>aM.kill f) (λ_ _=>rfl)).on rS ?_;intro l hl;obtain ⟨x,_,rfl⟩:=abW.1 hl;exact Ec f x
  ·have yu:ab e (a.tmps.getD t undef) s:=by cases s<;>simp only [bW] at hs<;>first|exact hs|exact absurd ⟨_,rfl⟩ Eh
   have h2:=(yu.kill f).on rS (Yc f _ s (dH s));generalize Vi:AJ f s=s2 at h2;cases s2<;>first|exact h2|(exfalso;simp [ab] at h2)
 ·intro t;show cC (lM f st.fr) (aq (lM f st.fr) t);rw [gU];have pN:=h.root t;generalize aq st.fr t=s at pN;have hk: ∀q,cV (aq (lM f st.fr) q)=cV (aq st.fr q):=λq=>by rw [gU,Ei]
  cases s with
  |ptr q o=>show cV (aq (lM f st.fr) q)=true;rw [hk];exact pN
  |hp q o i=>show cV (aq (lM f st.fr) q)=true;rw [hk];exact pN
  |zq q=>show cV (aq (lM f st.fr) q)=true;rw [hk];exact pN
  |ep g' _ _ _ _=>simp only [AJ];cases IT g' f<;>trivial
  |_=>trivial
 ·intro f2 o2 cB;have cB:aI (bR st.aP f fo) f2=some o2:=cB;rw [bm] at cB;show cu c (Z.fz f2) _ w (if f2=f then v' else e.E f2) o2;by_cases eU:f2=f
  ·rw [if_pos eU];rw [if_pos eU] at cB;cases cB;rw [eU];exact (gd.to zJ).env rfl rfl
  ·rw [if_neg eU];simp only [eU,if_false] at cB;exact (h.iK f2 o2 cB).env rfl rfl
 ·intro t t' c1 c2 h1 h2 cR;have h1:aq (lM f st.fr) t= .box c1:=h1;have h2:aq (lM f st.fr) t'= .box c2:=h2;rw [gU] at h1 h2;obtain ⟨d1,g1,_⟩:=uK h1;obtain ⟨d2,g2,_⟩:=uK h2;exact h.bb t t' d1 d2 g1 g2 cR
 ·intro t c1 f2 o2 h1 h2;have h1:aq (lM f st.fr) t= .box c1:=h1;have h2:aI (bR st.aP f fo) f2=some o2:=h2;rw [gU] at h1;rw [bm] at h2;obtain ⟨d1,g1,_⟩:=uK h1;show (if f2=f then v' else e.E f2).ownBlock≠some (e.B t);by_cases eU:f2=f
  ·rw [if_pos eU];intro hh;exact (hb _ hh).1 t d1 g1 rfl
  ·rw [if_neg eU];simp only [eU,if_false] at h2;exact h.bf t d1 f2 o2 g1 h2
 ·intro f1 f2 o1 o2 k h1 h2 h3 h4;have h1:aI (bR st.aP f fo) f1=some o1:=h1;have h2:aI (bR st.aP f fo) f2=some o2:=h2;have h3:(if f1=f then v' else e.E f1).ownBlock=some k:=h3;have h4:(if f2=f then v' else e.E f2).ownBlock=some k:=h4;rw [bm] at h1 h2;by_cases Np:f1=f
  ·by_cases BB:f2=f
   ·rw [Np,BB]
   ·rw [if_pos Np] at h3;rw [if_neg BB] at h4;simp only [BB,if_false] at h2;exact absurd h4 ((hb k h3).2 f2 o2 h2)
  ·rw [if_neg Np] at h3;simp only [Np,if_false] at h1;by_cases BB:f2=f
   ·rw [if_pos BB] at h4;exact absurd h3 ((hb k h4).2 f1 o1 h1)
   ·rw [if_neg BB] at h4;simp only [BB,if_false] at h2;exact h.ff f1 f2 o1 o2 k h1 h2 h3 h4
theorem xq {I:TI}{x:MV}{v:Value} {K':Slot->Option R}(hv:di e.key e.φ v x)(hK:zw I x K'=some r): ∃s,ab e v s/\Bx s=true/\K' s=some r:=by
 unfold zw at hK;cases dK:I.st with
 |true=>
  simp only [dK,cond_true] at hK;unfold gA at hK;split at hK
  ·rename_i ms;obtain ⟨arr,rfl,hr⟩:=hv;obtain ⟨ls,Km,rU⟩:=xm (e:=e) (vs:=arr.toList) hK;exact ⟨.ag ls,⟨arr,rfl,Km.rep hr⟩,Km.Xx,rU⟩
  ·simp at hK
 |false=>
  simp only [dK,cond_false] at hK;split at hK
  ·rename_i k hl;obtain ⟨l,sv,rU⟩:=nW (e:=e) (vs:=[v]) hK;refine ⟨.sc l,?_,sv.Xx,rU⟩;have hp:=sv.Xx;have hm:=sv.mv;cases l<;>simp [sM] at hp<;>simp [bE] at hm
   ·subst hm;have h1:=sv.one _ rfl;rename_i m;have:m.one=true/\gY e.key e.φ [v] m:=by cases m<;>simp [MV.one] at h1<;>exact ⟨rfl,hv.2⟩
    exact this
   ·subst hm;exact hv
  ·simp at hK
theorem Pk {ts:List Nat}: ∀{vs:List Value} {ms:List MV} {K':List Slot->Option R},bg e.key e.φ vs ms->zx c ts ms K'=some r-> ∃ss,kN e vs ss/\K' ss=some r:=by
 induction ts with
 |nil=>
  intro vs ms K' h hK;cases ms with
  |nil=>cases h;exact ⟨[],rfl,hK⟩
  |cons m ms=>simp [zx,gN] at hK
 |cons t ts ih=>
  intro vs ms K' h hK;simp only [zx] at hK;cases hI:c.tv t with
  |none=>simp [hI] at hK
  |some I=>
   simp only [hI] at hK;cases ms with
   |nil=>simp [gC] at hK
   |cons m ms=>simp only [gC] at hK;obtain ⟨v,u,rfl,h1,h2⟩:=h;obtain ⟨s,g1,g2,hK⟩:=xq h1 hK;obtain ⟨ss,g3,hK⟩:=ih h2 hK;exact ⟨s::ss,⟨v,u,rfl,g1,g2,g3⟩,hK⟩
theorem RP {fr:Fr}{s:Slot}(h:Bx s=true):cC fr s:=by cases s<;>simp [Bx] at h<;>trivial
theorem Pl {I:TI}{xs:List MV} {K':Slot->Option R}:zw I (.fresh xs) K'=none:=by
 unfold zw gA;cases I.st<;>simp;split<;>(try rfl)
 unfold jL;rename_i k _;cases k<;>simp [gB,gI,gS,gL,gH,gR]
theorem Nv {ts:List Nat}{xs:List MV}{ms:List MV} {K':List Slot->Option R}:zx c ts (.fresh xs::ms) K'=none:=by
 cases ts with
 |nil=>simp [zx,gN]
 |cons t ts=>simp only [zx,gC,Pl];cases c.tv t<;>rfl
theorem Pm {ts:List Nat}: ∀{vs:List Value} {ms:List MV} {K':List aE->Option R},bg e.key e.φ vs ms->G6 c ts ms K'=some r-> ∃ls,av e vs ls/\iz ls=true/\K' ls=some r:=by
 induction ts with
 |nil=>
  intro vs ms K' h hK;cases ms with
  |nil=>cases h;exact ⟨[],rfl,rfl,hK⟩
  |cons m ms=>simp [G6,gN] at hK
 |cons t ts ih=>
  intro vs ms K' h hK;simp only [G6] at hK;cases hI:c.tv t with
  |none=>simp [hI] at hK
  |some I=>
   simp only [hI] at hK;cases ms with
   |nil=>simp [gC] at hK
   |cons m ms=>
    simp only [gC] at hK;obtain ⟨v,u,rfl,h1,h2⟩:=h;obtain ⟨s,g1,g2,hK⟩:=xq h1 hK;split at hK
    ·rename_i x;obtain ⟨ls,g3,g4,hK⟩:=ih h2 hK;simp only [ab] at g1;exact ⟨.p x::ls,⟨[v],u,rfl,g1,g3⟩,by simp only [iz,sM,afx];exact g4,hK⟩
    ·cases hK
theorem xr {I:TI}{x:MV}{v:Value}{k:Nat} {K':Slot->Option R}(hk:e.key=c.key)(hv:jR c Z' e.φ w k v x)(hK:rQ c I x K'=some r): ∃s,ab e v s/\cC st.fr s/\K' s=some r:=by
 unfold rQ at hK;split at hK
 ·rename_i hc;have Ry:di e.key e.φ v x:=by
   rw [hk];cases x<;>first|exact hv|skip
   ·exfalso;unfold zw gA at hK;cases dK:I.st<;>simp [dK] at hK;split at hK<;>(try (simp at hK;done));unfold jL at hK;rename_i k _;cases k<;>simp [gB,gI,gS,gL,gH,gR] at hK
   ·exfalso;unfold zw gA at hK;cases dK:I.st<;>simp [dK] at hK;split at hK<;>(try (simp at hK;done));unfold jL at hK;rename_i k _;cases k<;>simp [gB,gI,gS,gL,gH,gR] at hK
  obtain ⟨s,h1,h2,hK⟩:=xq Ry hK;exact ⟨s,h1,RP h2,hK⟩
 ·unfold gT at hK;split at hK
  ·rename_i vs;have hv:Nt c Z' e.φ w k v vs:=hv;have hv: ∃arr,v= .tuple arr/\bg c.key e.φ arr.toList vs:=by
    cases vs with
    |nil=>exact hv
    |cons m ms=>cases m<;>first|exact hv|(simp only [Nv] at hK;cases hK)
   obtain ⟨arr,rfl,h1⟩:=hv;obtain ⟨ss,h2,hK⟩:=Pk (by rw [hk];exact h1) hK;exact ⟨.b8 ss,⟨arr,rfl,h2⟩,trivial,hK⟩
  ·simp at hK
end
end Dn
/-
  Calls as operations. Conditions: none.
-/
namespace Dn
open Go
section
variable {P:Program}{c:Ctx}{Z:bC} {Z':Nat->Prop} {e e':Env}{st:St}{a:Act} {w w':World}{R:Type}{K:St->Option R}{r:R}{Q:Exit->Act->World->Prop}{o:Oper}
theorem xt (h:bS c Z e st a w){t:Nat}{cs:List aE}(ht:aq st.fr t= .box cs):e.B t<w.heap.size:=by have hs:=h.slot t;rw [ht] at hs;obtain ⟨o2,h1,_⟩:=hs.2.obj;exact aZ h1
theorem Hr {base:Nat}{ty:TypeId}{size n:Nat}{v:Value}{xs:List Value}(h:w.ownsRow base ty size v n xs){b:Nat}(hb:v.ownBlock=some b):b<w.heap.size:=by
 rcases h.2 with ⟨h1,_⟩|⟨g,cap,cY,h1,_,h2,_⟩
 ·rw [h1] at hb;simp [AS] at hb
 ·rw [h1] at hb;simp only [AS,AT] at hb;subst hb;exact aZ h2
theorem xu (h:bS c Z e st a w){f:Nat}{o:oM}(hf:aI st.aP f=some o){b:Nat}(hb:(e.E f).ownBlock=some b):b<w.heap.size:=by obtain ⟨I,cells,_,_,h3,_⟩:=(h.iK f o hf).row;exact Hr h3 hb
structure Handed (c:Ctx) (Z:bC) (Z':Nat->Prop) (e:Env) (st:St) (a:Act) (w:World) (k:Nat) (vs:List Value) (ms:List MV):Prop where
 sU:bS c Z e st a w
 new: ∀b,w.heap.size<=b->Z' b
 sub: ∀b,Z' b->Z.In b
 box: ∀t cs,aq st.fr t= .box cs-> ¬Z' (e.B t)
 iK: ∀f o b,aI st.aP f=some o->(e.E f).ownBlock=some b-> ¬Z' b
 args:dS c Z' e.φ w k vs ms
 grow:c.dA k=false-> ∀b,Z' b->w.heap.size<=b
structure anP (c:Ctx) (Z:bC) (e e':Env) (st bY:St) (a:Act) (w:World) (k:Nat) (v:Value) (xs:List MV):Prop where
 sU:bS c Z e' bY a w
 φ:e'.φ=e.φ
 row:cu c (bC.plain λb=>v.ownBlock=some b) (na c.key e.φ) w v ⟨c.nU k,false,xs⟩
 In: ∀b,v.ownBlock=some b->Z.In b
 box: ∀t cs,aq bY.fr t= .box cs->v.ownBlock≠some (e'.B t)
 iK: ∀f o b,aI bY.aP f=some o->(e'.E f).ownBlock=some b->v.ownBlock≠some b
 keep: ∀(u:Value) (s:Slot) (g:Nat),s= .sc (.own g)->ab e u s->(∃o,aI bY.aP g=some o/\o.ei=false)->ab e' u s
 boxes: ∀t cs,aq bY.fr t= .box cs-> ∃Ge,aq st.fr t= .box Ge/\e'.B t=e.B t
 aP: ∀f o b,aI bY.aP f=some o->(e'.E f).ownBlock=some b-> ∃o0,aI st.aP f=some o0/\(e.E f).ownBlock=some b
theorem sV {k:Nat}{s:Slot}{v:Value} {K':MV->St->Option R}(h:bS c Z e st a w)(hs:ab e v s)(hK:CJ c k st s K'=some r): ∃e' bY xs,anP c Z e e' st bY a w k v xs/\K' (.fresh xs) bY=some r:=by
 unfold CJ at hK;split at hK
 ·rename_i f;cases hf:aI st.aP f with
  |none=>simp [hf] at hK
  |some o=>
   simp only [hf] at hK;cases hz:o.ei||!IT o.ty (c.nU k) with
   |true=>simp [hz] at hK
   |false=>
    simp only [hz,cond_false] at hK;simp only [BY,abZ] at hz;have iJ:=AI hz.2;have hv:v=e.E f:=(rW h hs hf).1;have gd:=h.iK f o hf;have RN:cu c Z.nc e w (.slice none 0 0) ⟨o.ty,true,[]⟩:=by obtain ⟨I,cells,g1,g2,_⟩:=gd.row;exact ⟨I,[],g1,g2,⟨by simp,.inl ⟨rfl,rfl⟩⟩,rfl,λa8 hb=>by simp [AS] at hb⟩
    have zJ:=h.npf hK;have h5:=h.Nu (f:=f) zJ RN (λb hb=>by simp [AS] at hb);refine ⟨_,_,o.xs,⟨h5,rfl,?_,?_,?_,?_,?_,?_,?_⟩,ot hK⟩
    ·obtain ⟨I,cells,g1,g2,g3,g4,g5⟩:=gd.row;rw [<-iJ];refine ⟨I,cells,g1,g2,by rw [hv];exact g3,by show aX c.key e.φ _ _ _;rw [<-h.key];exact g4,λa8 hb=>⟨hb,λoff u hu=> ?_,λhc=>aeW hc⟩⟩;have:=((g5 a8 (by rw [<-hv];exact hb)).2.1 off u hu).1;rw [hz.1] at this;cases this
    ·intro b hb;obtain ⟨I,cells,_,_,_,_,g5⟩:=gd.row;exact OJ (g5 b (by rw [<-hv];exact hb)).1 zJ
    ·intro t cs ht hb;have ht:aq (lM f st.fr) t= .box cs:=ht;rw [gU] at ht;obtain ⟨d1,g1,_⟩:=uK ht;exact h.bf t d1 f o g1 hf (by rw [<-hv];exact hb)
    ·intro f2 o2 b cB hb hvb;have cB:aI (bR st.aP f ⟨o.ty,true,[]⟩) f2=some o2:=cB;have hb:(if f2=f then acY none 0 0 else e.E f2).ownBlock=some b:=hb;rw [bm] at cB;by_cases eU:f2=f
     ·rw [if_pos eU] at hb;simp [AS] at hb
     ·rw [if_neg eU] at hb cB;exact eU (h.ff f2 f o2 o b cB hf hb (by rw [<-hv];exact hvb))
    ·rintro u s g rfl nn ⟨o2,cB,Yf⟩;have cB:aI (bR st.aP f ⟨o.ty,true,[]⟩) g=some o2:=cB;rw [bm] at cB;by_cases Gf:g=f
     ·rw [if_pos Gf] at cB;cases cB;cases Yf
     ·rw [if_neg Gf] at cB;obtain ⟨x,hx,CF,Lw⟩:=nn;refine ⟨x,hx,CF,λo3 Tv=> ?_⟩;show x=if g=f then acY none 0 0 else e.E g
      rw [if_neg Gf];exact Lw o2 (by rw [h.m];exact cB)
    ·intro t cs ht;have ht:aq (lM f st.fr) t= .box cs:=ht;rw [gU] at ht;obtain ⟨d1,g1,_⟩:=uK ht;exact ⟨d1,g1,rfl⟩
    ·intro f2 o2 b cB hb;have cB:aI (bR st.aP f ⟨o.ty,true,[]⟩) f2=some o2:=cB;have hb:(if f2=f then acY none 0 0 else e.E f2).ownBlock=some b:=hb;rw [bm] at cB;by_cases eU:f2=f
     ·rw [if_pos eU] at hb;simp [AS] at hb
     ·rw [if_neg eU] at hb cB;exact ⟨o2,cB,hb⟩
 ·cases hI:c.tv (c.nU k) with
  |none=>simp [hI] at hK
  |some I=>simp only [hI] at hK;obtain ⟨Lt,OL⟩:=bj hI;simp only [ab,aM,OF,and_true] at hs;subst hs;refine ⟨e,st,[],⟨h,rfl,⟨I,[],Lt,OL,⟨by simp,.inl ⟨rfl,rfl⟩⟩,rfl,λa8 hb=>by simp [AS] at hb⟩,λb hb=>by simp [AS] at hb,λt cs _ hb=>by simp [AS] at hb,λf o b _ _ hb=>by simp [AS] at hb,λu s g _ hs _=>hs,λt cs ht=>⟨cs,ht,rfl⟩,λf o b ho hb=>⟨o,ho,hb⟩⟩,hK⟩
 ·simp at hK
theorem Fl {k:Nat}{s:Slot} {K':MV->St->Option R}(hK:CJ c k st s K'=some r):(∃g o,s= .sc (.own g)/\aI st.aP g=some o/\o.ei=false)\/s= .sc .nil:=by
 unfold CJ at hK;split at hK
 ·rename_i f;cases hf:aI st.aP f with
  |none=>simp [hf] at hK
  |some o=>
   simp only [hf] at hK;cases hz:o.ei with
   |true=>simp [hz] at hK
   |false=>exact .inl ⟨f,o,rfl,hf,hz⟩
 ·exact .inr rfl
 ·simp at hK
theorem RQ {k:Nat}{ss:List Slot}{vs:List Value} {K':List MV->St->Option R}(h:bS c Z e st a w)(hlen:vs.length=ss.length)(eK: ∀(i:Nat)(v:Value)(s:Slot),vs[i]? =some v->ss[i]? =some s->ab e v s)(hK:Tp c k st ss K'=some r): ∃e' bY ms,∃Z':Nat->Prop,Handed c Z Z' e' bY a w k vs ms/\Trans Z e.φ w e'.φ w/\K' ms bY=some r:=by
 unfold Tp at hK;cases hg:c.dA k with
 |false=>
  simp only [hg,cond_false] at hK;obtain ⟨e1,eJ,ms,h1,h2,h3,h4,hK⟩:=rV h ⟨λ_=>vs,rfl,hlen,eK⟩ hK;refine ⟨e1,eJ,ms,λb=>w.heap.size<=b,⟨h1,λb hb=>hb,h1.ch,?_,?_,?_,λ_ b hb=>hb⟩,h2.tr,hK⟩
  ·intro t cs ht hz;have:=xt h1 ht;omega
  ·intro f o b ho hb hz;have:=xu h1 ho hb;omega
  ·simp only [dS,hg,abP,if_false];rw [<-h1.key];exact h4
 |true=>
  simp only [hg,cond_true] at hK;split at hK
  ·rename_i s0 s1 s2;match vs,hlen with
   |[v0,v1,v2],ajn=>
    clear ajn hlen;split at hK
    ·rename_i m2;obtain ⟨e1,eJ,m1,h1,x1,Ef,r1,rU⟩:=ol h (eK 1 v1 s1 rfl rfl) hK;obtain ⟨e2,eg,xs,G1,yV⟩:=sV h1 ((eK 0 v0 s0 rfl rfl).on x1.on (dH s0)) rU;have Lv:m2.one=true/\gY e.key e.φ [v2] m2:=eK 2 v2 (.sc (.p m2)) rfl rfl;have ha2:di e.key e.φ v2 m2:=by obtain ⟨g1,g2⟩:=Lv;cases m2<;>simp [MV.one] at g1<;>exact ⟨rfl,g2⟩
     have anQ:di c.key e1.φ v2 m2:=by rw [<-h.key];exact ha2.mono x1.on.φ
     have wide: ∀{v:Value} {zs:List MV} (Z1:Nat->Prop),(∀b,v.ownBlock=some b->Z1 b)->cu c (bC.plain λb=>v.ownBlock=some b) (na c.key e1.φ) w v ⟨c.nU k,false,zs⟩->cu c (bC.plain Z1) (na c.key e1.φ) w v ⟨c.nU k,false,zs⟩:=by intro v zs Z1 hz hf;obtain ⟨I,cells,g1,g2,g3,g4,g5⟩:=hf.row;exact ⟨I,cells,g1,g2,g3,g4,λa8 hb=>⟨hz a8 hb,(g5 a8 hb).2⟩⟩
     refine ⟨e2,eg,[.fresh xs,m1,m2],λb=>w.heap.size<=b\/v0.ownBlock=some b,⟨G1.sU,λb hb=> .inl hb,?_,?_,?_,?_,λGf=>by rw [hg] at Gf;cases Gf⟩,by rw [G1.φ];exact x1.tr,yV⟩
     ·intro b hb;rcases hb with hb|hb
      ·exact h1.ch b hb
      ·exact G1.In b hb
     ·intro t cs ht hb;rcases hb with hb|hb
      ·have:=xt G1.sU ht;have hb:w.heap.size<=e2.B t:=hb;omega
      ·exact G1.box t cs ht hb
     ·intro f o b ho hb hz;rcases hz with hz|hz
      ·have:=xu G1.sU ho hb;omega
      ·exact G1.iK f o b ho hb hz
     ·simp only [dS,hg,if_true];rw [G1.φ];exact .inr (.inl ⟨v0,v1,v2,xs,m1,m2,rfl,rfl,Lv.1,wide _ (λb hb=> .inr hb) G1.row,by rw [<-h1.key];exact r1,anQ⟩)
    ·obtain ⟨e1,eJ,m1,h1,x1,Ef,r1,rU⟩:=ol h (eK 1 v1 s1 rfl rfl) hK;obtain ⟨e2,eg,xs,G1,yV⟩:=sV h1 ((eK 0 v0 s0 rfl rfl).on x1.on (dH s0)) rU;have Lv:=(eK 2 v2 s2 rfl rfl).on x1.on (dH s2);have Vo:ab e2 v2 s2:=by
      rcases Fl yV with ⟨g,o,h5,h6,h7⟩|h5
      ·exact G1.keep v2 s2 g h5 Lv ⟨o,h6,h7⟩
      ·rw [h5] at Lv⊢;exact Lv
     obtain ⟨e3,oP,ys,G2,Hq⟩:=sV G1.sU Vo yV;have TF:cu c (bC.plain λb=>v2.ownBlock=some b) (na c.key e1.φ) w v2 ⟨c.nU k,false,ys⟩:=by have:=G2.row;rw [G1.φ] at this;exact this
     have wh: ∀b,v0.ownBlock=some b->v2.ownBlock≠some b:=by
      intro b h0 rM;rcases Fl yV with ⟨g,o,h5,h6,h7⟩|h5
      ·rw [h5] at Vo;have Q4:v2=e2.E g:=(rW G1.sU Vo h6).1;exact G1.iK g o b h6 (by rw [<-Q4];exact rM) h0
      ·rw [h5] at Vo;simp only [ab,aM,OF,and_true] at Vo;rw [Vo] at rM;simp [AS] at rM
     have wide: ∀{v:Value} {zs:List MV} (Z1:Nat->Prop),(∀b,v.ownBlock=some b->Z1 b)->cu c (bC.plain λb=>v.ownBlock=some b) (na c.key e1.φ) w v ⟨c.nU k,false,zs⟩->cu c (bC.plain Z1) (na c.key e1.φ) w v ⟨c.nU k,false,zs⟩:=by intro v zs Z1 hz hf;obtain ⟨I,cells,g1,g2,g3,g4,g5⟩:=hf.row;exact ⟨I,cells,g1,g2,g3,g4,λa8 hb=>⟨hz a8 hb,(g5 a8 hb).2⟩⟩
     have h3φ:e3.φ=e1.φ:=G2.φ.trans G1.φ;refine ⟨e3,oP,[.fresh xs,m1,.fresh ys],λb=>w.heap.size<=b\/v0.ownBlock=some b\/v2.ownBlock=some b,⟨G2.sU,λb hb=> .inl hb,?_,?_,?_,?_,λGf=>by rw [hg] at Gf;cases Gf⟩,by rw [h3φ];exact x1.tr,Hq⟩
     ·intro b hb;rcases hb with hb|hb|hb
      ·exact h1.ch b hb
      ·exact G1.In b hb
      ·exact G2.In b hb
     ·intro t cs ht hb;rcases hb with hb|hb|hb
      ·have:=xt G2.sU ht;have hb:w.heap.size<=e3.B t:=hb;omega
      ·obtain ⟨Ge,k1,k2⟩:=G2.boxes t cs ht;rw [k2] at hb;exact G1.box t Ge k1 hb
      ·exact G2.box t cs ht hb
     ·intro f o b ho hb hz;rcases hz with hz|hz|hz
      ·have:=xu G2.sU ho hb;omega
      ·obtain ⟨o0,k1,k2⟩:=G2.aP f o b ho hb;exact G1.iK f o0 b k1 k2 hz
      ·exact G2.iK f o b ho hb hz
     ·simp only [dS,hg,if_true];rw [h3φ];exact .inl ⟨v0,v1,v2,xs,m1,ys,rfl,rfl,wide _ (λb hb=> .inr (.inl hb)) G1.row,by rw [<-h1.key];exact r1,wide _ (λb hb=> .inr (.inr hb)) TF,wh⟩
  ·simp at hK
theorem bg.map {os:List Operand}(h:bS c Z e st a w): ∀(i:Nat) (v:Value) (s:Slot),(os.map a.eval)[i]? =some v->(jM c st os)[i]? =some s->ab e v s:=by
 intro i v s h1 h2;rw [jD,abQ] at h2;rw [abQ] at h1;cases ho:os[i]? with
 |none=>simp [ho] at h1
 |some x=>simp [ho] at h1 h2;rw [<-h1,<-h2];exact (h.eval x).1
theorem wi {f:Nat}{args:Array Value}{Rp:Value->World->Prop}(bF:(execOp a.eval o).run P w=(callFunc f args).run P w)(hc:dR P f args w Rp){Nx:Act->World->Prop}(LD: ∀v w',Rp v w'->Nx (a.put o.dst v) w'):o.wp P a w Nx Q:=by
 unfold agA;rw [bF];unfold dR at hc;generalize (callFunc f args).run P w=res at hc;cases res with
 |halt=>exact hc.elim
 |ok n w1=>
  cases n<;>simp only at hc<;>try exact hc.elim
  ·exact LD _ _ hc
  ·rw [Oper.upon_enter];refine hc.mono ?_;rintro x AK ⟨v,rfl,hv⟩;exact LD _ _ hv
theorem YD {R':Type}{d k:Nat}{ts:List Nat}{x:MV}{outs:List MV} {K':Slot->St->Option R'}:G7 c d st k (.ef x outs) ts K'=none:=by
 cases ts with
 |nil=>rfl
 |cons t ts=>
  simp only [G7];cases c.tv t with
  |none=>rfl
  |some I=>cases hq:IT I.elem (c.nU k)<;>simp [hq,gT]
theorem YE {Z':Nat->Prop}{k d:Nat}{ms:List MV}{x:MV}{v:Value} {φ':Ph}{I:TI}{vs:List Value}(hh:Handed c Z Z' e st a w k vs ms)(hd:o.dst.getD 0=d)(ht:Trans Z' e.φ w φ' w')(hi:oS φ' w')(hr:jR c Z' φ' w' k v x)(hK:(bif c.fresh k then bif IT (c.nU k) 0 then gCl x λxs=>bn c st o.dst (.sc (.p (.clip xs))) K else bif ab3 I.ct then G7 c d st k x I.ct λs st=>bn c st o.dst s K else gF x λxs=>bif !IT I.elem (c.nU k) then none else iP st d ⟨I.elem,false,xs⟩ λst=>(bif bx c.bs d then nT st (.own d) λm st=>bn c st o.dst (.sc (.p m)) K else bn c st o.dst (.sc (.own d)) K) else rQ c I x λs=>bn c st o.dst s K)=some r): Out c Z K r e.φ w (a.put o.dst v) w':=by
 have hs:=hh.sU.called hh.sub hh.box hh.iK ht hi;have wj:Trans Z e.φ w φ' w':=⟨ht.ph,λb hb=>ht.heap b (λhz=>hb (hh.sub b hz)),λb o hb=>ht.free b o (λhz=>hb (hh.sub b hz)),ht.size,ht.rest⟩
 cases hf:c.fresh k with
 |true=>
  simp only [hf,cond_true] at hK;cases h0:IT (c.nU k) 0 with
  |true=>
   simp only [h0,cond_true] at hK;unfold gCl at hK;split at hK
   ·rename_i xs;have O6:ab {e with φ:=φ'} v (.sc (.p (.clip xs))):=by have hr:(MV.clip xs).one=true/\gY c.key φ' [v] (.clip xs):=hr;simp only [ab,aM];rw [hh.sU.key];exact hr
    obtain ⟨e2,eg,q1,q2,q3⟩:=cW hs (.of O6 trivial) hK;exact ⟨e2,eg,q1,by rw [q3];exact wj,q2⟩
   ·simp at hK
  |false=>
  simp only [h0,cond_false] at hK;cases hC:ab3 I.ct with
  |true=>
   simp only [hC,cond_true] at hK;unfold G7 at hK;split at hK
   ·cases hK
   ·rename_i t0 ts _;cases XD:c.tv t0 with
    |none=>simp [XD] at hK
    |some I0=>
     simp only [XD] at hK;cases iJ:IT I0.elem (c.nU k) with
     |false=>simp [iJ] at hK
     |true=>
      simp only [iJ,afy,cond_false] at hK;have iJ:=AI iJ;rw [iJ] at hK;unfold gT at hK;split at hK
      ·rename_i vs;cases vs with
       |nil=>simp [gC] at hK
       |cons m ms=>
        simp only [gC] at hK;unfold gF at hK;split at hK
        ·rename_i xs;obtain ⟨v0,us,rfl,hr,dL⟩: ∃v0 us,v= .tuple (v0::us).toArray/\cu c (bC.plain Z') (na c.key φ') w' v0 ⟨c.nU k,false,xs⟩/\bg c.key φ' us ms:=hr;obtain ⟨ls,Km,anR,hK⟩:=Pm (e:={e with φ:=φ'}) (by show bg e.key φ' us ms;rw [hh.sU.key];exact dL) hK;have O6:cu c Z.nc {e with φ:=φ'} w' v0 ⟨c.nU k,false,xs⟩:=by obtain ⟨I,cells,g1,g2,g3,g4,g5⟩:=hr.row;exact ⟨I,cells,g1,g2,g3,by show aX e.key φ' _ _ _;rw [hh.sU.key];exact g4,λa8 hb=>⟨hh.sub _ (g5 a8 hb).1,(g5 a8 hb).2.1,λhc=>aeW hc⟩⟩
         have h6:=hs.Nu (f:=d) (hh.sU.npf hK) O6 (by intro b hb;obtain ⟨I,cells,g1,g2,g3,g4,g5⟩:=hr.row;have hz:=(g5 b hb).1;exact ⟨λt cs h1 h2=>hh.box t cs h1 (by rw [h2];exact hz),λg o h1 h2=>hh.iK g o b h1 h2 hz⟩);have h1:v0.oneCell'=true:=by obtain ⟨I,cells,g1,g2,g3,_⟩:=hr.row;exact zP g3
         have rS:ki (λ_=>False) (λ_=>True) {e with φ:=φ'} (Env.wg {e with φ:=φ'} d v0 ⟨c.nU k,false,xs⟩):=⟨rfl,.refl _,λ_ _=>rfl,λ_ _ _ hf=>hf.elim⟩
         have Km:=Km.on rS (xj anR);have dn:aM (Env.wg {e with φ:=φ'} d v0 ⟨c.nU k,false,xs⟩) [v0] (.own d):=⟨v0,rfl,h1,λo ho=>by simp [Env.wg]⟩
         have hK:=ot hK;cases GN:bx c.bs d with
         |true=>simp only [GN,cond_true] at hK;obtain ⟨e3,oP,m,k1,k2,_,k4,hK,_,k7,k8⟩:=lS (l:= .own d) h6 (vs:=[v0]) dn hK;have hm:m.one=true:=k8 (λx he=>by cases he);obtain ⟨e2,eg,q1,q2,q3⟩:=cW k1 (.of (s:= .tg (.p m::ls)) (by simp only [ab];exact ⟨_,rfl,[v0],us,rfl,⟨hm,k4⟩,Km.on k2.on (λl hl f hf=>trivial)⟩) trivial) hK;exact ⟨e2,eg,q1,by rw [q3];exact wj.trans k2.tr,q2⟩
         |false=>simp only [GN,cond_false] at hK;obtain ⟨e2,eg,q1,q2,q3⟩:=cW h6 (.of (s:= .tg (.own d::ls)) (by simp only [ab];exact ⟨_,rfl,[v0],us,rfl,dn,Km⟩) trivial) hK;exact ⟨e2,eg,q1,by rw [q3];exact wj,q2⟩
        ·simp at hK
      ·simp at hK
  |false=>
  simp only [hC,cond_false] at hK;unfold gF at hK;split at hK
  ·rename_i xs;cases iJ:IT I.elem (c.nU k) with
   |false=>simp [iJ] at hK
   |true=>
    simp only [iJ,afy,cond_false] at hK;have iJ:=AI iJ;rw [iJ] at hK;have hr:cu c (bC.plain Z') (na c.key φ') w' v ⟨c.nU k,false,xs⟩:=hr;have O6:cu c Z.nc {e with φ:=φ'} w' v ⟨c.nU k,false,xs⟩:=by obtain ⟨I,cells,g1,g2,g3,g4,g5⟩:=hr.row;exact ⟨I,cells,g1,g2,g3,by show aX e.key φ' _ _ _;rw [hh.sU.key];exact g4,λa8 hb=>⟨hh.sub _ (g5 a8 hb).1,(g5 a8 hb).2.1,λhc=>aeW hc⟩⟩
    have h6:=hs.Nu (f:=d) (hh.sU.npf hK) O6 (by intro b hb;obtain ⟨I,cells,g1,g2,g3,g4,g5⟩:=hr.row;have hz:=(g5 b hb).1;exact ⟨λt cs h1 h2=>hh.box t cs h1 (by rw [h2];exact hz),λg o h1 h2=>hh.iK g o b h1 h2 hz⟩);have h1:v.oneCell'=true:=by obtain ⟨I,cells,g1,g2,g3,_⟩:=hr.row;exact zP g3
    have hK:=ot hK;cases GN:bx c.bs d with
    |true=>simp only [GN,cond_true] at hK;obtain ⟨e3,oP,m,k1,k2,_,k4,hK,_,k7,k8⟩:=lS (l:= .own d) h6 (vs:=[v]) ⟨v,rfl,h1,λo ho=>by simp [Env.wg]⟩ hK;have hm:m.one=true:=k8 (λx he=>by cases he);obtain ⟨e2,eg,q1,q2,q3⟩:=cW k1 (.of (s:= .sc (.p m)) (by exact ⟨hm,k4⟩) trivial) hK;exact ⟨e2,eg,q1,by rw [q3];exact wj.trans k2.tr,q2⟩
    |false=>simp only [GN,cond_false] at hK;obtain ⟨e2,eg,q1,q2,q3⟩:=cW h6 (.of (sS h1) trivial) hK;exact ⟨e2,eg,q1,by rw [q3];exact wj,q2⟩
  ·simp at hK
 |false=>simp only [hf,cond_false] at hK;obtain ⟨s,g1,g2,hK⟩:=xr (e:={e with φ:=φ'}) (st:=st) hh.sU.key hr hK;obtain ⟨e2,eg,q1,q2,q3⟩:=cW hs (.of g1 g2) hK;exact ⟨e2,eg,q1,by rw [q3];exact wj,q2⟩
theorem Out.trans {φ0:Ph}{w0:World} {a':Act}(h:Trans Z φ0 w0 e.φ w) (h':Out c Z K r e.φ w a' w'):Out c Z K r φ0 w0 a' w':=by obtain ⟨e2,eg,h1,h2,h3⟩:=h';exact ⟨e2,eg,h1,h.trans h2,h3⟩
theorem Vp {R':Type}{I:TI}{x:MV}{outs:List MV} {K':Slot->Option R'}:rQ c I (.ef x outs) K'=none:=by
 unfold rQ;split
 ·unfold zw;cases I.st
  ·simp only [cond_false];split
   ·rename_i k _;cases k<;>rfl
   ·rfl
  ·rfl
 ·rfl
theorem Fm {R':Type} {r':R'}{I:TI}{x:MV} {K':Slot->Option R'}(h:rQ c I x K'=some r'):isW x=false:=by cases x<;>first|rfl|(rw [Vp] at h;cases h)
theorem acx {cl:Call}{f:Nat}{I:TI}(hS:Sound P c)(ho:o.op= .call cl)(oq:cl.callee= .value (.func f))(h:bS c Z e st a w)(hK:Tp c (c.key f) st (jM c st cl.args.toList) (λms st=>XO c (o.dst.getD 0) st (c.key f) ms I λs st=>bn c st o.dst s K)=some r): o.wp P a w (λa' w'=>(c.dA (c.key f)=false->db w w')/\Out c Z K r e.φ w a' w') Q:=by
 obtain ⟨e1,eJ,ms,Z',hh,ht,hK⟩:=RQ (vs:=cl.args.toList.map a.eval) h (by simp [jD]) (bg.map h) hK;unfold XO at hK;obtain ⟨x,hx,hK⟩:=oW hK;have yv:=hS f ms x hx e1.φ w Z' _ hh.new hh.args hh.sU.kZ;refine wi ?_ yv ?_
 ·have Gg:(cl.args.toList.map a.eval).toArray=cl.args.map a.eval:=by rw [<-acw,ac3]
  rw [Gg];simp [execOp,ho,resolve,oq,Act.eval,acC,invoke]
 ·rintro v w' ⟨φ',t1,t2,t3⟩;have hw:isW x=false:=by
   cases zo:c.fresh (c.key f) with
   |true=>rw [zo] at hK;cases h0:IT (c.nU (c.key f)) 0<;>cases hC:ab3 I.ct<;>rw [h0] at hK<;>(try rw [hC] at hK)<;>cases x<;>first|rfl|(simp [gF,gCl] at hK;done)|(simp [YD] at hK;done)
   |false=>rw [zo] at hK;exact Fm hK
  exact ⟨λGf=>⟨t1.size,λb hb=>t1.heap b (λhz=>by have:=hh.grow Gf b hz;omega) hb,t1.rest⟩,(YE hh rfl t1 t2 (t3.of hw) hK).trans ht⟩
theorem ga.one {ms:List MV}: ∀{vs:List Value},ga e.key e.φ vs ms->(∀m∈ms,m.one=true)->bg e.key e.φ vs ms:=by
 induction ms with
 |nil=>intro vs h _;cases h;rfl
 |cons m ms ih=>
  intro vs h h1;cases h with
  |cons v _ vs _ g1 g2=>obtain ⟨u,rfl,_⟩:=g1.one (h1 m (by simp));have hm:=h1 m (by simp);exact ⟨u,vs,rfl,by cases m<;>simp [MV.one] at hm<;>exact ⟨rfl,g1⟩,ih g2 (λm hm=>h1 m (by simp [hm]))⟩
theorem agv {cl:Call}{x:Operand}{I:TI}(hS:Sound P c)(ho:o.op= .call cl)(oq:cl.callee= .value x)(h:bS c Z e st a w)(hK:M8 c st I (aH c st x) (jM c st cl.args.toList) (λs st=>bn c st o.dst s K)=some r): o.wp P a w (λa' w'=>db w w'/\Out c Z K r e.φ w a' w') Q:=by
 obtain ⟨hx,_⟩:=h.eval x;generalize aH c st x=s at hx hK;unfold M8 at hK;split at hK
 ·rename_i m;simp only [ab,aM] at hx;unfold OT at hK;split at hK
  ·rename_i f bV;obtain ⟨hg,hK⟩:=dE hK;obtain ⟨f',cap,hv,B6,B4,jd⟩: ∃(f':Nat) (cap:Array Value),a.eval x= .func (.func f') #[] cap/\e.key f'=f/\ga e.key e.φ cap.toList bV/\ ∀m∈bV,m.one=true:=by obtain ⟨_,hx⟩:=hx;generalize yt:[a.eval x]=vs at hx;cases hx;rename_i f' cap h1 h2 h3;exact ⟨f',cap,by simpa using yt,h1,h2,h3⟩
   obtain ⟨e1,eJ,ms,h1,h2,h3,h4,yV⟩:=rV h ⟨λ_=>cl.args.toList.map a.eval,rfl,by simp [jD],bg.map h⟩ hK;obtain ⟨x',Vc,Hq⟩:=oW yV;have LF:c.key f'=f:=by rw [<-h.key];exact B6
   have ajo:bg e1.key e1.φ cap.toList bV:=by have:=(ga.one B4 jd).mono h2.on.φ;rw [<-h2.on.key] at this;exact this
   have dL:dS c (λb=>w.heap.size<=b) e1.φ w (c.key f') (cl.args.toList.map a.eval++cap.toList) (ms++bV):=by
    have hg':c.dA (c.key f')=false:=by rw [LF];simpa using hg
    simp only [dS,hg',abP,if_false];rw [<-h1.key];exact h4.append ajo
   have yv:=hS f' (ms++bV) x' (by rw [LF];exact Vc) e1.φ w (λb=>w.heap.size<=b) _ (λb hb=>hb) dL h1.kZ;refine wi ?_ yv ?_
   ·have Gg:(cl.args.toList.map a.eval++cap.toList).toArray=cl.args.map a.eval++cap:=by rw [<-acw,<-Array.toList_append,ac3]
    rw [Gg];simp [execOp,ho,resolve,oq,hv,acC,invoke]
   ·rintro v w' ⟨φ',t1,t2,t3⟩;have hh:Handed c Z (λb=>w.heap.size<=b) e1 eJ a w (c.key f') (cl.args.toList.map a.eval++cap.toList) (ms++bV):=by
     refine ⟨h1,λb hb=>hb,h1.ch,?_,?_,dL,λ_ b hb=>hb⟩
     ·intro t cs ht hz;have:=xt h1 ht;omega
     ·intro f o b ho hb hz;have:=xu h1 ho hb;omega
    have hs:=hh.sU.called hh.sub hh.box hh.iK t1 t2;have wj:Trans Z e1.φ w φ' w':=⟨t1.ph,λb hb=>t1.heap b (λhz=>hb (hh.sub b hz)),λb o hb=>t1.free b o (λhz=>hb (hh.sub b hz)),t1.size,t1.rest⟩
    obtain ⟨s,g1,g2,hK4⟩:=xr (e:={e1 with φ:=φ'}) (st:=eJ) h1.key (t3.of (Fm Hq)) Hq;obtain ⟨e2,eg,q1,q2,q3⟩:=cW hs (.of g1 g2) hK4;exact ⟨⟨t1.size,λb hb=>t1.heap b (λhz=>by have hz:w.heap.size<=b:=hz;omega) hb,t1.rest⟩,e2,eg,q1,by rw [q3];exact h2.tr.trans wj,q2⟩
  ·simp at hK
 ·simp at hK
end
end Dn
/-
  Parts of a state. Conditions: none.
-/
namespace Dn
open Go
section
variable {P:Program}{c:Ctx}{Z Zi:bC} {e e':Env}{st bY:St}{a:Act} {w w':World}{R:Type}{K:St->Option R}{r:R}{Q:Exit->Act->World->Prop}{o:Oper}
theorem bS.sub (h:bS c Z e st a w)(hpp: ∀t∈Z.cA,t∈Zi.cA)(hm:bY.cA=Zi.cA/\bY.cy=Zi.cy/\ ∀t∈Zi.cA,a.tmps.getD t undef=Zi.T t)(hn:(aN bY.fr).Nodup)(hs: ∀t,aq bY.fr t= .sc .un\/(dq (aq st.fr t)=false/\(aq bY.fr t=aq st.fr t\/ ∃qs,aq bY.fr t=GJ qs (aq st.fr t))))(hf: ∀f o,aI bY.aP f=some o-> ∃o0,aI st.aP f=some o0/\o0.ty=o.ty/\o0.xs=o.xs/\(o0.ei=true->o.ei=true))(hbz: ∀t cs,aq bY.fr t= .box cs->(t∈Zi.cA/\Zi.Pr (e.B t))\/Zi.In (e.B t))(hfz: ∀f o b,aI bY.aP f=some o->(e.E f).ownBlock=some b->(f∈Zi.cy/\Zi.Pr b)\/Zi.In b)(acy: ∀f o I cells b,aI bY.aP f=some o->f∈Zi.cy->o.ei=true->c.ti o.ty=some I->w.ownsRow 0 o.ty I.size (e.E f) o.xs.length cells->(e.E f).ownBlock=some b-> ∀j,j<cells.length->e.φ b j=cells[j]?)(hz: ∀b,w.heap.size<=b->Zi.In b):bS c Zi {e with m:=bY.aP} bY a w:=by
 have rS:ki (λ_=>True) (λ_=>True) e {e with m:=bY.aP}:=by refine ⟨rfl,.refl _,λ_ _=>rfl,λf o ho _=> ?_⟩;obtain ⟨o0,h1,h2,h3,h4⟩:=hf f o ho;exact ⟨o0,by rw [h.m];exact h1,rfl,h3.symm⟩
 have tie: ∀{t:Nat} {v:Value} {cs:List aE} {b:Nat},tied Z t v cs b->tied Zi t v cs b:=λht=>⟨ht.1,λhp=>by obtain ⟨k1,k2⟩:=ht.2 hp;have k3:=hpp _ k1;exact ⟨k3,by rw [<-hm.2.2 _ k3,h.defers.2.2.2 _ k1,k2]⟩⟩
 have YF: ∀t cs,aq bY.fr t= .box cs-> ∃Ge,aq st.fr t= .box Ge/\(cs=Ge\/ ∃qs,cs=Ge.map (Q2 qs)):=by
  intro t cs ht;rcases hs t with h1|⟨_,h1|⟨qs,h1⟩⟩
  ·rw [h1] at ht;cases ht
  ·rw [h1] at ht;exact ⟨cs,ht,.inl rfl⟩
  ·rw [h1] at ht;generalize aq st.fr t=s at ht;cases s<;>simp only [GJ] at ht<;>first|(cases ht;done)|skip
   simp at ht;exact ⟨_,rfl,.inr ⟨qs,ht.symm⟩⟩
 refine ⟨⟨h.defers.1,hm⟩,h.size,rfl,h.key,hn,?_,?_,?_,?_,?_,?_,h.kZ,hz⟩
 ·intro t;have nn:=h.slot t;have dK:=hs t;have hb0:=hbz t;generalize aq bY.fr t=s' at dK hb0;generalize aq st.fr t=s at nn dK;rcases dK with rfl|⟨_,rfl|⟨qs,rfl⟩⟩
  ·simp [bW,ab]
  ·cases s'<;>simp only [bW] at nn⊢ <;>try exact nn.on rS (dH _)
   obtain ⟨o2,h1,h2⟩:=nn.2.obj;exact ⟨tie nn.1,hb0 _ rfl,⟨o2,h1,h2.on rS (λl _ f _=>trivial)⟩,nn.2.free⟩
  ·by_cases Eh: ∃cs,s= .box cs
   ·obtain ⟨cs,rfl⟩:=Eh;simp only [bW,GJ] at nn⊢;obtain ⟨o2,h1,h2⟩:=nn.2.obj;exact ⟨(tie nn.1).lO (aga qs _),hb0 _ rfl,⟨o2,h1,(h2.map (λ_ _=>aM.O4 qs) (λ_ _=>rfl)).on rS (λl _ f _=>trivial)⟩,nn.2.free⟩
   ·have yu:ab e (a.tmps.getD t undef) s:=by cases s<;>simp only [bW] at nn<;>first|exact nn|exact absurd ⟨_,rfl⟩ Eh
    have h2:=(yu.O4 qs).on rS (dH _);generalize Vi:GJ qs s=s2 at h2;cases s2<;>first|exact h2|(exfalso;simp [ab] at h2)
 ·intro t;have dK:=hs t;generalize aq bY.fr t=s' at dK;generalize aq st.fr t=s at dK;rcases dK with rfl|⟨hp,rfl|⟨qs,rfl⟩⟩
  ·trivial
  ·cases s'<;>simp [dq] at hp<;>trivial
  ·cases s<;>simp [dq] at hp<;>trivial
 ·intro f o ho;obtain ⟨o0,h1,h2,h3,h4⟩:=hf f o ho;obtain ⟨I,cells,g1,g2,g3,g4,g5⟩:=(h.iK f o0 h1).row;rw [h2] at g1 g3;rw [h3] at g3 g4 g5;refine ⟨I,cells,g1,g2,g3,g4,λa8 hb=>⟨hfz f o a8 ho hb,λoff u hu=> ?_,λk1 k2 j hj=>acy f o I cells a8 ho k1 k2 g1 g3 hb j hj⟩⟩;obtain ⟨k1,k2⟩:=(g5 a8 hb).2.1 off u hu;exact ⟨h4 k1,k2⟩
 ·intro t t' c1 c2 h1 h2 cR;obtain ⟨d1,g1,_⟩:=YF t c1 h1;obtain ⟨d2,g2,_⟩:=YF t' c2 h2;exact h.bb t t' d1 d2 g1 g2 cR
 ·intro t c1 f o h1 h2;obtain ⟨d1,g1,_⟩:=YF t c1 h1;obtain ⟨o0,g2,_⟩:=hf f o h2;exact h.bf t d1 f o0 g1 g2
 ·intro f f' o1 o2 k h1 h2 h3 h4;obtain ⟨p1,g1,_⟩:=hf f o1 h1;obtain ⟨p2,g2,_⟩:=hf f' o2 h2;exact h.ff f f' p1 p2 k g1 g2 h3 h4
theorem bS.drop {ds:List Nat}(h:bS c Z e st a w):bS c Z e {st with fr:=dv ds st.fr} a w:=by
 have hg:=Hf ds st.fr h.nodup;have:=h.sub (Zi:=Z) (bY:={st with fr:=dv ds st.fr}) (λ_ h=>h) ⟨h.defers.2.1,h.defers.2.2.1,h.defers.2.2.2⟩ ((CO ds st.fr).nodup h.nodup) (by
   intro t;show aq (dv ds st.fr) t=_\/(_/\(aq (dv ds st.fr) t=_\/ ∃qs,aq (dv ds st.fr) t=_));rw [hg];cases hb:dq (aq st.fr t)||bx ds t with
   |true=>exact .inl (by simp)
   |false=>simp only [BY] at hb;exact .inr ⟨hb.1,.inl (by simp)⟩)
  (λf o ho=>⟨o,ho,rfl,rfl,id⟩)
  (by
   intro t cs ht;have ht:aq (dv ds st.fr) t= .box cs:=ht;rw [hg] at ht;split at ht
   ·cases ht
   ·have hs:=h.slot t;rw [ht] at hs;exact hs.2.ch)
  (by intro f o b ho hb;obtain ⟨I,cells,_,_,_,_,g5⟩:=(h.iK f o ho).row;exact (g5 b hb).1)
  (by intro f o I cells b ho hp hz hI dn hb j hj;obtain ⟨I',Ym,g1,_,g3,_,g5⟩:=(h.iK f o ho).row;rw [hI] at g1;cases g1;rw [Fg dn g3 hb] at hj⊢;exact (g5 b hb).2.2 hp hz j hj)
  h.ch
 have hm:e.m=st.aP:=h.m;have he:{e with m:=({st with fr:=dv ds st.fr}:St).aP}=e:=by cases e;simp at hm⊢;exact hm.symm
 rw [he] at this;exact this
theorem bS.YG {t root off:Nat}{cs:List aE}(h:bS c Z e st a w)(hb:aq st.fr root= .box cs)(hn:cV (aq st.fr t)=false)(hv:ab e (a.tmps.getD t undef) (.ptr root off)): bS c Z e {st with fr:=cj st.fr t (.ptr root off)} a w:=by
 have hg: ∀t',aq (cj st.fr t (.ptr root off)) t'=if t'=t then .ptr root off else aq st.fr t':=λt'=>bL _ _ _ _
 have cR: ∀r,cV (aq st.fr r)=true->r≠t:=λr hr he=>by subst he;rw [hn] at hr;cases hr
 have vt: ∀t' cs,aq (cj st.fr t (.ptr root off)) t'= .box cs->aq st.fr t'= .box cs:=by
  intro t' cs ht;rw [hg] at ht;by_cases vv:t'=t
  ·rw [if_pos vv] at ht;cases ht
  ·rw [if_neg vv] at ht;exact ht
 have hk: ∀r,cV (aq st.fr r)=true->cV (aq (cj st.fr t (.ptr root off)) r)=true:=λr hr=>by rw [hg,if_neg (cR r hr)];exact hr
 refine ⟨h.defers,h.size,h.m,h.key,ej h.nodup,?_,?_,h.iK,?_,?_,h.ff,h.kZ,h.ch⟩
 ·intro t';show bW Z e w t' _ (aq (cj st.fr t (.ptr root off)) t');rw [hg];by_cases vv:t'=t
  ·subst vv;simp only [if_true];exact hv
  ·simp only [vv,if_false];exact h.slot t'
 ·intro t';show cC (cj st.fr t (.ptr root off)) (aq (cj st.fr t (.ptr root off)) t');have hr:=h.root t';rw [hg t'];by_cases vv:t'=t
  ·simp only [vv,if_true];exact hk root (by rw [hb];rfl)
  ·simp only [vv,if_false];generalize aq st.fr t'=s at hr;cases s<;>first|trivial|exact hk _ hr
 ·intro t1 t2 c1 c2 h1 h2 cR;exact h.bb t1 t2 c1 c2 (vt t1 c1 h1) (vt t2 c2 h2) cR
 ·intro t1 c1 f o h1 h2;exact h.bf t1 c1 f o (vt t1 c1 h1) h2
theorem AM {s:Slot}(h:D5 s=true): ∃cs,s= .box cs/\eT cs=false:=by cases s<;>simp [D5] at h;exact ⟨_,rfl,h⟩
theorem Pn {Z1:bC}{e1:Env}{eJ:St}{root:Nat}(h:bS c Z e st a w)(h1:bS c Z1 e1 eJ a w)(hp:zt root=false)(hb:D5 (aq st.fr root)=true)(sw:D5 (aq eJ.fr root)=true):e1.B root=e.B root:=by obtain ⟨cs,hf,hm⟩:=AM hb;obtain ⟨ja,Np,hm1⟩:=AM sw;have s1:=h.slot root;have s2:=h1.slot root;rw [hf] at s1;rw [Np] at s2;have g1:=s1.1.1 hp;have g2:=s2.1.1 hp;rw [sP hm] at g1;rw [sP hm1,g1] at g2;simp at g2;exact g2.symm
theorem Hs {Z0:bC}{e0:Env}{AG:St}{ok:Nat->Bool}(h0:bS c Z0 e0 AG a w): ∀{l:Fr} {st:St} {R:Type} {r:R} {K:Fr->Option R},(∀t s,(t,s)∈l->aq AG.fr t=s)->bS c Z e st a w->G4 ok AG.fr l st.fr K=some r-> ∃fr,bS c Z e {st with fr:=fr} a w/\K fr=some r:=by
 intro l;induction l with
 |nil=>intro st R r K _ h hK;exact ⟨st.fr,h,hK⟩
 |cons p l ih=>
  obtain ⟨t,s⟩:=p;intro st R r K hl h hK;have sv: ∀t s,(t,s)∈l->aq AG.fr t=s:=λt s hm=>hl t s (aaW _ hm);have hs:=hl t s (by simp);cases s with
  |ptr root off=>
   simp only [G4] at hK;cases hc:ok t&&(!zt root&&(D5 (aq AG.fr root)&&(D5 (aq st.fr root)&&!cV (aq st.fr t)))) with
   |false=>rw [hc] at hK;exact ih sv h hK
   |true=>
    rw [hc] at hK;simp only [sh,abL] at hc;obtain ⟨_,hp,hb0,sw,hn⟩:=hc;simp only [cond_true,mB] at hK;obtain ⟨cs,hf,_⟩:=AM sw;have hB:=Pn h0 h hp hb0 sw;have hv:ab e (a.tmps.getD t undef) (.ptr root off):=by have:=h0.slot t;rw [hs] at this;simp only [bW,ab] at this⊢;rw [hB];exact this
    have h2:=h.YG hf hn hv;obtain ⟨fr,g1,g2⟩:=ih (st:={st with fr:=cj st.fr t (.ptr root off)}) sv h2 hK;exact ⟨fr,g1,g2⟩
  |_=>exact ih sv h hK
theorem Po {l:Fr}(hn:(aN l).Nodup): ∀t s,(t,s)∈l->aq l t=s:=by
 induction l with
 |nil=>intro t s hm;simp at hm
 |cons p l ih=>
  obtain ⟨k,x⟩:=p;have hn:(k::aN l).Nodup:=hn;rw [List.nodup_cons] at hn;intro t s hm;rcases bN.1 hm with hm|hm
  ·cases hm;simp [aq]
  ·have hk:t∈aN l:=by unfold aN;exact abW.2 ⟨(t,s),hm,rfl⟩
   have cR:k≠t:=λhe=>hn.1 (he▸hk);simp only [aq,fm];simp only [cR,decide_false,cond_false];exact ih hn.2 t s hm
theorem qL {ds:List Nat}{R:Type}{r:R}{K:St->Option R}(h:bS c Z e st a w)(hK:BW ds st K=some r): ∃bY,bS c Z e bY a w/\K bY=some r:=by obtain ⟨p,q,fr,m⟩:=st;simp only [BW,Fc] at hK;obtain ⟨pT,g1,g2⟩:=Hs (st:={cA:=p,cy:=q,fr:=dv ds fr,aP:=m}) h (Po h.nodup) h.drop hK;exact ⟨_,g1,g2⟩
end
end Dn
/-
  Maps of the function's own: their operations. Conditions: none.
-/
namespace Dn
open Go
theorem TG (b:ByteArray):(b==b)=true:=by rw [beq_toListBytes];exact beq_self_eq_true _
theorem agw {a b:Kd}(h:kdB a b=true):a=b:=by cases a<;>cases b<;>simp [kdB,kB] at h<;>first|rfl|(subst h;rfl)
theorem acz {l m:List Kd}(h:F9 l m=true):l=m:=by
 induction l generalizing m with
 |nil=>cases m<;>simp [F9] at h;rfl
 |cons a l ih=>
  cases m with
  |nil=>simp [F9] at h
  |cons b m=>simp only [F9,sh] at h;rw [agw h.1,ih h.2]
theorem YH {s t:MS}(h:msB s t=true):s=t:=by unfold msB at h;simp only [sh,beq_iff_eq] at h;cases s;cases t;simp only at h;obtain ⟨h1,h2,h3⟩:=h;rw [h1,acz h2,h3]
theorem acA {a b:MV}(h:Kt a b=true):a=b:=by
 unfold Kt at h;split at h
 ·rw [of_decide_eq_true h]
 ·simp only [sh] at h;rw [of_decide_eq_true h.1,of_decide_eq_true h.2]
 ·rw [of_decide_eq_true h]
 ·rw [of_decide_eq_true h]
 ·cases h
theorem YI {a b:List MV}(h:jG a b=true):a=b:=by
 induction a generalizing b with
 |nil=>cases b with|nil=>rfl|cons=>simp [jG] at h
 |cons x xs ih=>
  cases b with
  |nil=>simp [jG] at h
  |cons y ys=>simp only [jG,sh] at h;rw [acA h.1,ih h.2]
structure TH (P:Program) (t:TypeId) (s:MS):Prop where
 row: ∃kt el,P.underlying t=some (.map kt el)/\(∀w:World,(zeroValue el).run P w= .ok (Bg s.b (jH s.b)) w)/\ (∀(em:Bool) (ks:List MV) (w:World),dt s.lay ks=true->(Instr.checkKey em 10000 kt (fS s.st ks)).run P w= .ok () w)/\ ∃d,P.underlying kt=some d/\((∀a b,dt s.lay a=true->dt s.lay b=true->ab2 d (fS s.st a) (fS s.st b)=some (jG b a))\/ (∀a b,dt s.lay a=true->dt s.lay b=true->ab2 d (fS s.st a) (fS s.st b)=none/\ ∀w:World,(ago kt (fS s.st a) (fS s.st b)).run P w= .ok (jG b a) w))
def Ek (P:Program)(c:Ctx):Prop:= ∀t s,xe c t=some s->TH P t s
theorem YJ {k:Kd}{e:Env}{l:aE}{vs:List Value}{m:MV}(h:aM e vs l)(hf:nV k l=true)(hm:bE [l]=some [m]):vs=DX m/\Ed k m=true:=by
 have bytes: ∀b:ByteArray,agE b=agE ⟨b.data.toList.toArray⟩:=by intro b;cases b;simp
 cases k<;>cases l<;>simp only [nV] at hf<;>try (cases hf;done)
 ·rename_i x;cases x<;>simp only [nV] at hf<;>try (cases hf;done)
  simp [bE] at hm;subst hm;obtain ⟨_,h⟩:=h;cases h;exact ⟨rfl,rfl⟩
 ·rename_i k x;cases x<;>simp only [nV] at hf<;>try (cases hf;done)
  simp [bE] at hm;subst hm;obtain ⟨_,h⟩:=h;cases h;exact ⟨rfl,hf⟩
 ·rename_i x;cases x<;>simp only [nV] at hf<;>try (cases hf;done)
  simp [bE] at hm;subst hm;obtain ⟨_,h⟩:=h;cases h;exact ⟨by simp [DX],rfl⟩
 ·simp [bE] at hm;subst hm;exact ⟨h,rfl⟩
theorem yw {l:aE}{ls:List aE}{ms:List MV}(h:bE (l::ls)=some ms): ∃m q,bE [l]=some [m]/\bE ls=some q/\ms=m::q:=by
 cases l<;>cases hq:bE ls<;>simp [bE,hq] at h⊢
 ·exact h.symm
 ·exact h.symm
theorem acB {e:Env}{lay:List Kd}: ∀{ls:List aE} {vs:List Value} {ms:List MV},av e vs ls->eY lay ls=true->bE ls=some ms->vs=ms.flatMap DX/\dt lay ms=true:=by
 induction lay with
 |nil=>
  intro ls vs ms h hf hm;cases ls with
  |nil=>cases h;simp [bE] at hm;subst hm;exact ⟨rfl,rfl⟩
  |cons=>simp [eY] at hf
 |cons k lay ih=>
  intro ls vs ms h hf hm;cases ls with
  |nil=>simp [eY] at hf
  |cons l ls=>
   simp only [eY] at hf;cases h1:nV k l with
   |false=>simp [h1] at hf
   |true=>simp only [h1,cond_true] at hf;obtain ⟨m,q,g1,g2,rfl⟩:=yw hm;obtain ⟨v,u,rfl,g3,g4⟩:=h;obtain ⟨k1,k2⟩:=YJ g3 h1 g1;obtain ⟨k3,k4⟩:=ih g4 hf g2;exact ⟨by rw [k1,k3];rfl,by simp [dt,k2,k4]⟩
theorem agx {e:Env}{s:MS}{v:Value}{sl:Slot}{ks:List MV}(h:ab e v sl)(hf:eY s.lay (aJ sl)=true)(Yh:mX s.st sl=true)(hm:bE (aJ sl)=some ks):v=fS s.st ks/\dt s.lay ks=true:=by
 cases sl with
 |sc l=>
  simp only [mX,abL] at Yh;simp only [aJ] at hf hm;cases hl:s.lay with
  |nil=>rw [hl] at hf;simp [eY] at hf
  |cons k r=>
   cases r with
   |cons=>rw [hl] at hf;simp [eY] at hf
   |nil=>
    rw [hl] at hf;have Np:nV k l=true:=by cases hq:nV k l<;>simp_all [eY]
    obtain ⟨m,q,g1,g2,rfl⟩:=yw hm;simp [bE] at g2;subst g2;by_cases hh: ∃x,l= .hs x
    ·obtain ⟨x,rfl⟩:=hh;simp [bE] at g1;subst g1;simp only [ab] at h;cases k<;>simp [nV] at Np;exact ⟨by rw [Yh,h];rfl,by simp [dt,Ed]⟩
    ·have hlr:aM e [v] l:=by cases l<;>simp only [ab] at h<;>first|exact h|(cases k<;>simp [nV] at Np;done)|exact absurd ⟨_,rfl⟩ hh
     obtain ⟨k1,k2⟩:=YJ hlr Np g1;refine ⟨?_,by simp [dt,k2]⟩;rw [Yh];cases m<;>simp [DX] at k1<;>first|(rw [k1];rfl)|skip
     rename_i x;have:=cX x;rw [<-k1] at this;simp at this
 |ag cs=>simp only [mX] at Yh;simp only [aJ] at hf hm;simp only [ab] at h;obtain ⟨arr,rfl,hl⟩:=h;obtain ⟨k1,k2⟩:=acB hl hf hm;refine ⟨?_,k2⟩;rw [Yh];simp only [fS];rw [<-k1]
 |_=>simp [mX] at Yh
theorem Nw {n:Nat}{m:MV}: ∀x∈DX m,abM n x x=true:=by
 intro x hx;cases m<;>simp [DX,bq] at hx
 ·subst hx;cases n<;>simp [abM]
 ·subst hx;cases n<;>simp [abM]
 ·subst hx;cases n<;>(simp only [abM];exact TG _)
 ·obtain ⟨b,_,rfl⟩:=hx;cases n<;>simp [abM]
theorem CW {n:Nat}{ms:List MV}:abM (n+1) (.agg (ms.flatMap DX).toArray) (.agg (ms.flatMap DX).toArray)=true:=by
 simp only [abM,sh,beq_self_eq_true,true_and];rw [afX];rintro ⟨x,y⟩ Q7;have Q7:(x,y)∈(ms.flatMap DX).zip (ms.flatMap DX):=by simpa using Q7
 obtain ⟨i,hi,he⟩:=List.mem_iff_getElem.1 Q7;rw [List.getElem_zip] at he;simp only [aa6] at he;obtain ⟨h1,h2⟩:=he;rw [h1] at h2;subst h2;have hm:x∈ms.flatMap DX:=by rw [<-h1];exact List.getElem_mem _
 obtain ⟨m,_,hm⟩:=List.mem_flatMap.1 hm;exact Nw _ hm
theorem Ny {n:Nat}{st:Bool}{lay:List Kd}{ks:List MV}(hf:dt lay ks=true):abM (n+1) (fS st ks) (fS st ks)=true:=by
 unfold fS;split
 ·rename_i x;have:=CW (n:=n) (ms:=[.h x]);simpa [DX] using this
 ·simp [abM]
 ·simp [abM]
 ·simp only [abM];exact TG _
 ·exact CW
theorem LG {P:Program}{w:World}{st:Bool}{lay:List Kd}{ks:List MV}(hf:dt lay ks=true):(Instr.keyThatStays (fS st ks) (fS st ks)).run P w= .ok (fS st ks) w:=by unfold Instr.keyThatStays;rw [Ny (n:=9999) hf];rfl
def kO:List (List MV)->List MV->Nat
 |[],_=>0
 |q::r,ks=>bif jG q ks then 0 else kO r ks+1
theorem TJ (nb:List (List MV))(ks:List MV):kO nb ks<=nb.length:=by
 induction nb with
 |nil=>simp [kO]
 |cons q r ih=>simp only [kO];cases jG q ks<;>simp [ih]
theorem YK {nb:List (List MV)}{ks:List MV}{q:List MV}(h:nb[kO nb ks]? =some q):q=ks:=by
 induction nb with
 |nil=>simp at h
 |cons p r ih=>
  simp only [kO] at h;cases hm:jG p ks with
  |true=>simp [hm] at h;rw [<-h];exact YI hm
  |false=>simp [hm] at h;exact ih h
theorem wk (es:List MV)(ks:List MV):iZ es ks=kO (es.map sJ) ks:=by
 induction es with
 |nil=>rfl
 |cons e r ih=>simp only [iZ,abU,kO,ih]
def qM (s:MS):List MapEntry->List (List MV)->Prop
 |[],nb=>nb=[]
 |x::es,nb=> ∃q r,nb=q::r/\dt s.lay q=true/\x.key=fS s.st q/\qM s es r
theorem qM.length {s:MS}: ∀{es:List MapEntry} {nb:List (List MV)},qM s es nb->nb.length=es.length
 |[],_,h=>by cases h;rfl
 |_::es,_,⟨q,r,rfl,_,_,h⟩=>by simp [h.length]
theorem qM.append {s:MS}: ∀{es XE:List MapEntry} {nb ajq:List (List MV)},qM s es nb->qM s XE ajq->qM s (es++XE) (nb++ajq)
 |[],_,_,_,h,h'=>by cases h;exact h'
 |x::es,_,_,_,⟨q,r,rfl,h1,h2,h⟩,h'=>⟨q,_,rfl,h1,h2,h.append h'⟩
theorem qM.at {s:MS}: ∀{es:List MapEntry} {nb:List (List MV)} {i:Nat} {x:MapEntry},qM s es nb->es[i]? =some x-> ∃q,nb[i]? =some q/\dt s.lay q=true/\x.key=fS s.st q
 |[],_,_,_,_,h=>by simp at h
 |y::es,_,i,x,⟨q,r,rfl,h1,h2,h⟩,hx=>by
  cases i with
  |zero=>simp at hx;subst hx;exact ⟨q,rfl,h1,h2⟩
  |succ i=>simpa using h.at (i:=i) (by simpa using hx)
theorem RR {s:MS}{d:TypeDesc}{ks:List MV}(hf:dt s.lay ks=true)(hd: ∀a b,dt s.lay a=true->dt s.lay b=true->ab2 d (fS s.st a) (fS s.st b)=some (jG b a)): ∀(es:List MapEntry) (nb:List (List MV)) (n:Nat),qM s es nb->acU d (fS s.st ks) es n=some ((es[kO nb ks]?).map λx=>(n+kO nb ks,x.val)):=by
 intro es;induction es with
 |nil=>intro nb n h;rfl
 |cons x es ih=>
  rintro nb n ⟨q,r,rfl,h1,h2,h⟩;simp only [acU,h2,hd ks q hf h1,kO];cases hm:jG q ks with
  |true=>simp
  |false=>simp only [cond_false];rw [ih r (n+1) h];simp [agp,agF 1]
theorem KH {P:Program}{s:MS}{kt:TypeId}{ks:List MV}{w:World}(hf:dt s.lay ks=true)(hd: ∀a b,dt s.lay a=true->dt s.lay b=true-> ∀w:World,(ago kt (fS s.st a) (fS s.st b)).run P w= .ok (jG b a) w): ∀(es:List MapEntry) (nb:List (List MV)) (n:Nat),qM s es nb->(Instr.findAsking kt (fS s.st ks) es n).run P w= .ok ((es[kO nb ks]?).map λx=>(n+kO nb ks,x.val)) w:=by
 intro es;induction es with
 |nil=>intro nb n h;rfl
 |cons x es ih=>
  rintro nb n ⟨q,r,rfl,h1,h2,h⟩;simp only [Instr.findAsking,h2,afB,hd ks q hf h1 w,IN,kO];cases hm:jG q ks with
  |true=>simp
  |false=>simp only [cond_false,abP,if_false];rw [ih r (n+1) h];simp [agp,agF 1]
theorem Ht {P:Program}{s:MS}{kt:TypeId}{d:TypeDesc}{ks:List MV}{w:World}{es:List MapEntry}{nb:List (List MV)}(hf:dt s.lay ks=true)(hu:P.underlying kt=some d)(hd:(∀a b,dt s.lay a=true->dt s.lay b=true->ab2 d (fS s.st a) (fS s.st b)=some (jG b a))\/ (∀a b,dt s.lay a=true->dt s.lay b=true->ab2 d (fS s.st a) (fS s.st b)=none/\ ∀w:World,(ago kt (fS s.st a) (fS s.st b)).run P w= .ok (jG b a) w))(h:qM s es nb):(adx kt (fS s.st ks) es).run P w= .ok ((es[kO nb ks]?).map λx=>(kO nb ks,x.val)) w:=by
 rcases hd with hd|hd
 ·have:=RR hf hd es nb 0 h;rw [abR] at this;exact MapKept.run_findKey hu this
 ·cases es with
  |nil=>simp [adx,run_underlying hu,IN,acU]
  |cons x es=>
   have h0:=KH (P:=P) (kt:=kt) (w:=w) hf (λa b ha hb=>(hd a b ha hb).2) (x::es) nb 0 h;obtain ⟨q,r,rfl,h1,h2,h3⟩:=h;have hn:acU d (fS s.st ks) (x::es) 0=none:=by simp [acU,h2,(hd ks q hf h1).1]
   rw [abR] at h0;simp only [adx,afB,run_underlying hu,IN,hn];exact h0
theorem sO.ks {s:MS}: ∀{es:List MapEntry} {ms:List MV} {n:Nat},es.length=ms.length->(∀(i:Nat) x m,es[i]? =some x->ms[i]? =some m->ae2 s x m (n+i))->qM s es (ms.map sJ)
 |[],[],_,_,_=>rfl
 |x::es,m::ms,n,hl,h=>by obtain ⟨h1,ks,v,rfl,h2,h3,_⟩:=h 0 x m rfl rfl;refine ⟨ks,ms.map sJ,rfl,h2,h3,sO.ks (n:=n+1) (by simpa using hl) λi y q hy hq=> ?_⟩;have:=h (i+1) y q (by simpa using hy) (by simpa using hq);rwa [show n+1+i=n+(i+1) by omega]
 |[],_::_,_,hl,_=>by simp at hl
 |_::_,[],_,hl,_=>by simp at hl
theorem sO.nb {s:MS}{es:Array MapEntry}{n:Nat}{ms:List MV}(h:sO s es n ms):qM s es.toList (ms.map sJ):=sO.ks (n:=0) (by simpa using h.size) (λi x m hx hm=>by rw [abR];exact h.ent i x m (by simpa using hx) hm)
structure yx (s:MS) (w w':World):Prop where
 size:w.heap.size<=w'.heap.size
 rK: ∀(b:Nat) (o:Obj),w.heap[b]? =some o->w'.heap[b]? =some o\/ ∃es n XE n' new nb,o=Obj.map es n/\w'.heap[b]? =some (Obj.map XE n')/\XE.toList=es.toList++new/\qM s new nb/\ ∀x∈new,x.val=Bg s.b (jH s.b)
 rest:Rest w w'
theorem db.m {w w':World}(s:MS)(h:db w w'):yx s w w':=⟨h.size,λb o ho=> .inl (by rw [h.rK b (aZ ho)];exact ho),h.rest⟩
theorem yx.trans {s:MS} {w w' AK:World}(h:yx s w w') (h':yx s w' AK):yx s w AK:=by
 refine ⟨acu h.size h'.size,λb o ho=> ?_,h.rest.trans h'.rest⟩;rcases h.rK b o ho with h1|⟨es,n,es1,n1,new,nb,rfl,h1,h2,h3,h4⟩
 ·exact h'.rK b o h1
 ·rcases h'.rK b _ h1 with g1|⟨XE,n',es2,n2,anU,anV,g0,g1,g2,g3,g4⟩
  ·exact .inr ⟨es,n,es1,n1,new,nb,rfl,g1,h2,h3,h4⟩
  ·simp only [Obj.map.injEq] at g0;obtain ⟨rfl,rfl⟩:=g0;refine .inr ⟨es,n,es2,n2,new++anU,nb++anV,rfl,g1,by rw [g2,h2,adn],h3.append g3,λx hx=> ?_⟩;rcases ab0.1 hx with hx|hx
   ·exact h4 x hx
   ·exact g4 x hx
section
variable {P:Program}{c:Ctx}{Z:bC}{e:Env}{st:St}{a:Act} {w w':World}{R:Type}{K:St->Option R}{r:R}{Q:Exit->Act->World->Prop}{o:Oper}
theorem AN {s:MS}{sl:Slot}{v:Value} {K':Nat->List MV->Option R}(h:bS c Z e st a w)(hv:ab e v sl)(hK:Kv st s sl K'=some r): ∃root es arr n,aq st.fr root= .box [.mp s es]/\v= .map (some (e.B root))/\w.heap[e.B root]? =some (.map arr n)/\sO s arr n es/\(Z.bz root).In (e.B root)/\K' root es=some r:=by
 unfold Kv at hK;split at hK
 ·rename_i root;split at hK
  ·rename_i s' es uq;cases hm:msB s s'&&!F8 s' with
   |false=>simp [hm] at hK
   |true=>
    simp only [hm,cond_true] at hK;simp only [sh,abL] at hm;obtain ⟨hm,hit⟩:=hm;have:=YH hm;subst this;have nn:=h.slot root;rw [uq] at nn;obtain ⟨ob,h1,h2⟩:=nn.2.obj;cases ob with
    |cells arr T z=>exact absurd h2.2.zH (by simp [eT])
    |map arr n=>obtain ⟨s2,ms2,h3,_,h4⟩:=h2;simp only [OF,aE.mp.injEq,and_true] at h3;obtain ⟨rfl,rfl⟩:=h3;exact ⟨root,es,arr,n,uq,by simpa [ab] using hv,h1,h4,nn.2.ch,hK⟩
    |stringIter x n=>have h3:_=[aE.mp MS.it _]:=h2;simp only [OF,aE.mp.injEq,and_true] at h3;rw [h3.1] at hit;cases hit
    |_=>exact h2.elim
  ·cases hK
 ·cases hK
theorem El {s:MS}{sl:Slot}{v:Value} {K':List MV->Option R}(hv:ab e v sl)(hK:OY s sl K'=some r): ∃ks,v=fS s.st ks/\dt s.lay ks=true/\K' ks=some r:=by
 unfold OY at hK;cases hf:eY s.lay (aJ sl)&&mX s.st sl with
 |false=>simp [hf] at hK
 |true=>
  simp only [hf,cond_true] at hK;simp only [sh] at hf;cases hm:bE (aJ sl) with
  |none=>simp [hm] at hK
  |some ks=>simp only [hm] at hK;obtain ⟨h1,h2⟩:=agx hv hf.1 hf.2 hm;exact ⟨ks,h1,h2,hK⟩
theorem Pp {s:MS}{es:List MV}{arr:Array MapEntry}{n:Nat}{ks:List MV}(hm:sO s arr n es): ab e ((((arr.toList[kO (es.map sJ) ks]?).map λx=>x.val)).getD (Bg s.b (jH s.b))) (Ea s es ks):=by
 have Nz: ∀v:MV,Rv s.b v=true->(s.b=true/\v= .b (asB v))\/(s.b=false/\v= .i .i64 (asI v)):=by
  intro v hv;cases hb:s.b<;>rw [hb] at hv<;>cases v<;>simp [Rv] at hv
  ·rename_i k x;cases k<;>simp [Rv] at hv;exact .inr ⟨rfl,rfl⟩
  ·exact .inl ⟨rfl,rfl⟩
 unfold Ea aeY aeX;rw [wk];cases ha:arr.toList[kO (es.map sJ) ks]? with
 |none=>
  have:es[kO (es.map sJ) ks]? =none:=by rw [adk] at ha⊢;have:=hm.size;simp at ha;omega
  rw [this];cases hb:s.b<;>simp [Bg,jH,hb]
  ·exact sQ _ _
  ·exact Bi _
 |some x=>
  have cI:kO (es.map sJ) ks<es.length:=by have h1:=(abO.1 ha).1;have:=hm.size;simp at h1;omega
  obtain ⟨m,hmm⟩: ∃m,es[kO (es.map sJ) ks]? =some m:=⟨_,By cI⟩
  obtain ⟨_,q,v,rfl,_,_,h5,h6⟩:=hm.ent _ x m (by simpa using ha) hmm;rw [hmm];simp only [ab1,Option.getD_some,h6,af4];rcases Nz v h5 with ⟨h7,h8⟩|⟨h7,h8⟩
  ·rw [h7,h8];exact Bi _
  ·rw [h7,h8];exact sQ _ _
theorem RS {t:TypeId}{s:MS}(ho:o.op= .makeMap t none)(hit:F8 s=false)(h:bS c Z e st a w)(hK:bn c st o.dst (.box [.mp s []]) K=some r):o.wp P a w (Out c Z K r e.φ w) Q:=by
 have bF:(execOp a.eval o).run P w= .ok (.value (.map (some w.heap.size))) (w.alloc (.map #[] 0)):=by simp [execOp,ho,RowKit.run_makeMap,IN]
 have hg:db w (w.alloc (.map #[] 0)):=by exact ⟨by simp,λb hb=>rR w _ b hb,⟨rfl,rfl,rfl⟩⟩
 refine fin bF (h.grow hg) (hg.trans h.ch _) ?_ hK;exact ⟨w.heap.size,by rw [Yd (by simp [lO,hit])],⟨h.ch _ (abT _),⟨_,iy w _,s,[],rfl,hit,⟨rfl,rfl,λi x m hx=>by simp at hx⟩⟩,Hk h⟩,(AL h).1,(AL h).2⟩
theorem Vq {t:TypeId}{s:MS}{m k:Operand}(ho:o.op= .lookup t m k false)(iJ:TH P t s)(h:bS c Z e st a w)(hK:Kv st s (aH c st m) (λ_ es=>OY s (aH c st k) λks=>bn c st o.dst (Ea s es ks) K)=some r):Rd P c Z K r e a w o (yx s w):=by
 obtain ⟨hm,_⟩:=h.eval m;obtain ⟨hk,_⟩:=h.eval k;obtain ⟨root,es,arr,n,h1,h2,h3,h4,_,hK⟩:=AN h hm hK;obtain ⟨ks,h5,h6,hK⟩:=El hk hK;obtain ⟨kt,el,t1,t2,t3,d,t4,t5⟩:=iJ.row;have Vi:=h4.nb;refine RB (v:=(((arr.toList[kO (es.map sJ) ks]?).map λx=>x.val)).getD (Bg s.b (jH s.b))) (s:=Ea s es ks) (λw' hg=> ?_) h (.refl _ _ _) (.of (Pp h4) ?_) hK
 ·have run: ∀(KD:Array MapEntry) (n':Nat) (nb:List (List MV)),w'.heap[e.B root]? =some (.map KD n')->qM s KD.toList nb-> (execOp a.eval o).run P w'= .ok (.value ((((KD.toList[kO nb ks]?).map λx=>x.val)).getD (Bg s.b (jH s.b)))) w':=by
   intro KD n' nb g1 g2;have Nj:=Ht (P:=P) (w:=w') h6 t4 t5 g2;cases hx:KD.toList[kO nb ks]? with
   |none=>rw [hx] at Nj;simp [execOp,ho,h2,h5,Instr.lookup,run_underlying t1,IN,abK g1,t3 _ ks _ h6,Nj,t2]
   |some x=>rw [hx] at Nj;simp [execOp,ho,h2,h5,Instr.lookup,run_underlying t1,IN,abK g1,t3 _ ks _ h6,Nj]
  rcases hg.rK _ _ h3 with g1|⟨es1,n1,XE,n',new,nb,g0,g1,g2,g3,g4⟩
  ·exact run arr n _ g1 Vi
  ·simp only [Obj.map.injEq] at g0;obtain ⟨rfl,rfl⟩:=g0;have anW:qM s XE.toList (es.map sJ++nb):=by rw [g2];exact Vi.append g3
   rw [run XE n' _ g1 anW];have hl:=Vi.length;have key:((XE.toList[kO (es.map sJ++nb) ks]?).map λx=>x.val).getD (Bg s.b (jH s.b))=((arr.toList[kO (es.map sJ) ks]?).map λx=>x.val).getD (Bg s.b (jH s.b)):=by
    have hfa: ∀l:List (List MV),(kO l ks<l.length->kO (l++nb) ks=kO l ks)/\(kO l ks=l.length->kO (l++nb) ks=l.length+kO nb ks):=by
     intro l;induction l with
     |nil=>simp [kO]
     |cons q l ih=>
      simp only [abN,kO,acO];cases jG q ks with
      |true=>simp
      |false=>simp only [cond_false];exact ⟨λhh=>by rw [ih.1 (by omega)],λhh=>by rw [ih.2 (by omega)];omega⟩
    rw [g2];rcases Nat.lt_or_ge (kO (es.map sJ) ks) (es.map sJ).length with cI|TA
    ·rw [(hfa _).1 cI,ach (by omega)]
    ·have jK:=Nat.le_antisymm (TJ (es.map sJ) ks) TA;rw [(hfa _).2 jK,jK,hl,ab8 (by omega),show arr.toList.length+kO nb ks-arr.toList.length=kO nb ks by omega,List.getElem?_eq_none (l:=arr.toList) (by omega)];cases hx:new[kO nb ks]? with
     |none=>rfl
     |some x=>simp [g4 x (List.mem_of_getElem? hx)]
   rw [key]
 ·unfold Ea;cases s.b<;>trivial
theorem qN {es:List MV}{i:Nat}{v:MV}:Ku es i v=match es[i]? with|some e=>es.set i (.b8 [.agg (sJ e),v])|none=>es:=rfl
theorem LH {b:Bool}{sl:Slot}{v:Value} {K':MV->Option R}(hv:ab e v sl)(hK:U3 b sl K'=some r): ∃m,Rv b m=true/\v=Bg b m/\K' m=some r:=by
 unfold U3 at hK;split at hK
 ·rename_i x;exact ⟨.b x,rfl,by rw [Ff hv];rfl,hK⟩
 ·rename_i n;exact ⟨.i .i64 n,rfl,by rw [lu hv];rfl,hK⟩
 ·cases hK
theorem Xw.map {es:Array MapEntry}{n g:Nat}(hh:w.heap[g]? =some (.map es n))(XE:Array MapEntry) (n':Nat):Xw g w {w with heap:=w.heap.setIfInBounds g (.map XE n')}:=by exact ⟨by simp,λb hb=>by simp [Ne.symm hb],⟨rfl,rfl,rfl⟩⟩
theorem CX {s:MS}{root:Nat}{es es2:List MV}{arr agy:Array MapEntry}{n n2:Nat} {K':St->Option R}(h:bS c Z e st a w)(h1:aq st.fr root= .box [.mp s es])(h3:w.heap[e.B root]? =some (.map arr n))(hz:(Z.bz root).In (e.B root))(h4:sO s agy n2 es2)(hK:Fa st root s es2 K'=some r): ∃w' bY,w'={w with heap:=w.heap.setIfInBounds (e.B root) (.map agy n2)}/\bS c Z e bY a w'/\Trans Z e.φ w e.φ w'/\K' bY=some r:=by
 unfold Fa wr at hK;cases hn:bx st.cA root with
 |true=>simp [hn] at hK
 |false=>
  simp only [hn,cond_false,force_eq,mB] at hK;have OM:=Xw.map h3 agy n2;have hit:F8 s=false:=by have nn:=h.slot root;rw [h1] at nn;obtain ⟨ob,k1,k2⟩:=nn.2.obj;rw [h3] at k1;cases k1;obtain ⟨s2,ms2,k3,k4,_⟩:=k2;simp only [OF,aE.mp.injEq,and_true] at k3;rw [k3.1];exact k4
  refine ⟨_,_,rfl,?_,.chg _ OM (OJ hz (by rw [<-h.defers.2.1,<-bu,hn];simp)),hK⟩;exact h.setObj h1 OM (adG h3).1 ⟨s,es2,rfl,hit,h4⟩ rfl (λt=>by rw [bL]) (ej h.nodup)
theorem Pq {s:MS}{arr:Array MapEntry}{n:Nat}{es:List MV}{ks:List MV}(hm:sO s arr n es)(hf:dt s.lay ks=true){v:Value}{m:MV}(hv:Rv s.b m=true)(Q4:v=Bg s.b m): (∀x,arr[iZ es ks]? =some x->x.key=fS s.st ks/\D9 es ks (jH s.b)=es/\ sO s (arr.modify (iZ es ks) λe=>{e with key:=fS s.st ks,val:=v}) n (Ku es (iZ es ks) m)/\ sO s (arr.modify (iZ es ks) λe=>{e with key:=fS s.st ks}) n es/\x.born=iZ es ks)/\ (arr[iZ es ks]? =none->iZ es ks=es.length/\D9 es ks (jH s.b)=es++[.b8 [.agg ks,jH s.b]]/\ sO s (arr.push {key:=fS s.st ks,val:=v,born:=n}) (n+1) (Ku (D9 es ks (jH s.b)) (iZ es ks) m)):=by
 have pJ:=hm.size;have hle:iZ es ks<=es.length:=by rw [wk];have:=TJ (es.map sJ) ks;simpa using this
 constructor
 ·intro x hx;have cI:iZ es ks<es.length:=by have h1:=(Array.getElem?_eq_some_iff.1 hx).1;omega
  obtain ⟨m0,uJ⟩: ∃m0,es[iZ es ks]? =some m0:=⟨_,By cI⟩
  obtain ⟨h1,q,v0,rfl,h2,h3,h4,h5⟩:=hm.ent _ x m0 hx uJ;have hq:q=ks:=by refine YK (nb:=es.map sJ) ?_;rw [<-wk,abQ,uJ];rfl
  subst hq;have hb:IT (iZ es q) es.length=false:=by
   cases hb:IT (iZ es q) es.length with
   |false=>rfl
   |true=>have:=AI hb;omega
  refine ⟨h3,by simp [D9,hb],⟨by simp [qN,uJ,pJ],by simp [qN,uJ,hm.clock],λi y p hy hp=> ?_⟩,⟨by simp [pJ],hm.clock,λi y p hy hp=> ?_⟩,h1⟩
  ·rw [qN,uJ] at hp;simp only [ab6] at hy;simp only [List.getElem?_set] at hp;by_cases hi:iZ es q=i
   ·subst hi;simp [hx] at hy;simp [cI] at hp;subst hy;subst hp;exact ⟨h1,q,m,rfl,h2,rfl,hv,Q4⟩
   ·simp only [hi,if_false] at hy hp;exact hm.ent i y p hy hp
  ·simp only [ab6] at hy;by_cases hi:iZ es q=i
   ·subst hi;simp [hx] at hy;rw [uJ] at hp;cases hp;subst hy;exact ⟨h1,q,v0,rfl,h2,rfl,h4,h5⟩
   ·simp only [hi,if_false] at hy;exact hm.ent i y p hy hp
 ·intro hx;have TA:iZ es ks=es.length:=by
   have h1:arr.size<=iZ es ks:=by simpa using hx
   omega
  have hb:IT (iZ es ks) es.length=true:=by rw [TA];simp
  have hme:D9 es ks (jH s.b)=es++[.b8 [.agg ks,jH s.b]]:=by simp [D9,hb]
  have NA:Ku (D9 es ks (jH s.b)) (iZ es ks) m=es++[.b8 [.agg ks,m]]:=by rw [hme,qN,TA];simp [sJ]
  refine ⟨TA,hme,?_⟩;rw [NA];refine ⟨by simp [pJ],by simp [hm.clock],λi y p hy hp=> ?_⟩;rcases Nat.lt_trichotomy i arr.size with hi|hi|hi
  ·rw [Array.getElem?_push_lt hi] at hy;rw [ach (by omega)] at hp;exact hm.ent i y p (by rw [<-hy];simp [hi]) hp
  ·subst hi;simp at hy;rw [pJ] at hp;simp at hp;subst hy;subst hp;exact ⟨by show n=_;rw [hm.clock,pJ],ks,m,rfl,hf,rfl,hv,Q4⟩
  ·have:(arr.push {key:=fS s.st ks,val:=v,born:=n}).size<=i:=by simp;omega
   rw [Array.getElem?_eq_none this] at hy;cases hy
theorem TL {s:MS}{arr:Array MapEntry}{n:Nat}{es:List MV}{ks:List MV}{kt:TypeId}{d:TypeDesc}(hm:sO s arr n es)(hf:dt s.lay ks=true)(t4:P.underlying kt=some d)(t5:(∀a b,dt s.lay a=true->dt s.lay b=true->ab2 d (fS s.st a) (fS s.st b)=some (jG b a))\/ (∀a b,dt s.lay a=true->dt s.lay b=true->ab2 d (fS s.st a) (fS s.st b)=none/\ ∀w:World,(ago kt (fS s.st a) (fS s.st b)).run P w= .ok (jG b a) w)): (adx kt (fS s.st ks) arr.toList).run P w= .ok ((arr[iZ es ks]?).map λx=>(iZ es ks,x.val)) w:=by have:=Ht (P:=P) (w:=w) hf t4 t5 hm.nb;rw [<-wk] at this;simpa using this
theorem NB {t:TypeId}{s:MS}{m k v:Operand}(ho:o.op= .mapUpdate t m k v)(iJ:TH P t s)(h:bS c Z e st a w)(hK:Kv st s (aH c st m) (λr es=>OY s (aH c st k) λks=>U3 s.b (aH c st v) λv=>Fa st r s (Ku (D9 es ks (jH s.b)) (iZ es ks) v) λst=>bn c st o.dst (.sc .un) K)=some r): o.wp P a w (Out c Z K r e.φ w) Q:=by
 obtain ⟨hm,_⟩:=h.eval m;obtain ⟨hk,_⟩:=h.eval k;obtain ⟨hv,_⟩:=h.eval v;obtain ⟨root,es,arr,n,h1,h2,h3,h4,hz,hK⟩:=AN h hm hK;obtain ⟨ks,h5,h6,hK⟩:=El hk hK;obtain ⟨mv,h7,h8,hK⟩:=LH hv hK;obtain ⟨kt,el,t1,t2,t3,d,t4,t5⟩:=iJ.row;have Nj:=TL (P:=P) (w:=w) h4 h6 t4 t5;obtain ⟨g1,g2⟩:=Pq h4 h6 h7 h8;cases hx:arr[iZ es ks]? with
 |some x=>obtain ⟨k1,k2,k3,_,_⟩:=g1 x hx;rw [k2] at hK;obtain ⟨w',bY,rfl,hs,ht,hK⟩:=CX h h1 h3 hz k3 hK;refine CP ?_ hs ht hK;simp [execOp,ho,h2,h5,Instr.mapUpdate,run_underlying t1,abK h3,t3 _ ks _ h6,Nj,hx,k1,LG h6,abS _ h3,IN]
 |none=>obtain ⟨k1,k2,k3⟩:=g2 hx;obtain ⟨w',bY,rfl,hs,ht,hK⟩:=CX h h1 h3 hz k3 hK;refine CP ?_ hs ht hK;simp [execOp,ho,h2,h5,Instr.mapUpdate,run_underlying t1,abK h3,t3 _ ks _ h6,Nj,hx,abS _ h3,IN]
theorem Fo {t:TypeId}{s:MS}{m k:Operand}(ho:o.op= .mapEntry t m k)(iJ:TH P t s)(h:bS c Z e st a w)(hK:Kv st s (aH c st m) (λr es=>OY s (aH c st k) λks=>Fa st r s (D9 es ks (jH s.b)) λst=>bn c st o.dst (.b8 [Ea s es ks,.sc (.p (.i .i64 (iZ es ks)))]) K)=some r): o.wp P a w (λa' w'=>yx s w w'/\Out c Z K r e.φ w a' w') Q:=by
 obtain ⟨hm,_⟩:=h.eval m;obtain ⟨hk,_⟩:=h.eval k;obtain ⟨root,es,arr,n,h1,h2,h3,h4,hz,hK⟩:=AN h hm hK;obtain ⟨ks,h5,h6,hK⟩:=El hk hK;obtain ⟨kt,el,t1,t2,t3,d,t4,t5⟩:=iJ.row;have Nj:=TL (P:=P) (w:=w) h4 h6 t4 t5;have TM:Rv s.b (jH s.b)=true:=by cases s.b<;>rfl
 obtain ⟨g1,g2⟩:=Pq h4 h6 TM rfl;have hgl:=Pp (e:=e) (ks:=ks) h4;rw [<-wk] at hgl;have YL:Bx (Ea s es ks)=true:=by unfold Ea;cases s.b<;>rfl
 have ajs: ∀(w':World) (bY:St) (u:Value),yx s w w'->(execOp a.eval o).run P w= .ok (.value (.tuple #[u,goInt (iZ es ks)])) w'->bS c Z e bY a w'->Trans Z e.φ w e.φ w'-> ab e u (Ea s es ks)->bn c bY o.dst (.b8 [Ea s es ks,.sc (.p (.i .i64 (iZ es ks)))]) K=some r->o.wp P a w (λa' w'=>yx s w w'/\Out c Z K r e.φ w a' w') Q:=by
  intro w' bY u hg bF hs ht hu hK;unfold agA;rw [bF,ae3];have jC:rk Z e w' bY (.tuple #[u,goInt (iZ es ks)]) (.b8 [Ea s es ks,.sc (.p (.i .i64 (iZ es ks)))]):=by refine ⟨?_,trivial⟩;simp only [ab];exact ⟨_,rfl,u,[goInt (iZ es ks)],rfl,hu,YL,goInt (iZ es ks),[],rfl,sQ _ _,rfl,rfl⟩
  obtain ⟨e2,eg,k1,k2,k3⟩:=cW hs jC hK;exact ⟨hg,e2,eg,k1,by rw [k3];exact ht,k2⟩
 cases hx:arr[iZ es ks]? with
 |some x=>
  obtain ⟨k1,k2,_,k4,k5⟩:=g1 x hx;rw [k2] at hK;obtain ⟨w',bY,rfl,hs,ht,hK⟩:=CX h h1 h3 hz k4 hK;have iM:arr.modify (iZ es ks) (λe=>{e with key:=fS s.st ks})=arr:=by
   apply ade;intro i;rw [ab6];by_cases hi:iZ es ks=i
   ·subst hi;simp only [if_true,hx,ab1];rw [<-k1]
   ·simp [hi]
  refine ajs _ _ x.val ?_ ?_ hs ht ?_ hK
  ·rw [iM];have:w.heap.setIfInBounds (e.B root) (.map arr n)=w.heap:=by
    apply ade;intro i;rw [Array.getElem?_setIfInBounds];by_cases hi:e.B root=i
    ·subst hi;rw [h3];simp [aZ h3]
    ·simp [hi]
   rw [this];exact (db.refl w).m s
  ·simp [execOp,ho,h2,h5,Instr.mapEntry,run_underlying t1,abK h3,t3 _ ks _ h6,Nj,hx,k1,LG h6,abS _ h3,IN,k5]
  ·have:arr.toList[iZ es ks]? =some x:=by simpa using hx
   rw [this] at hgl;exact hgl
 |none=>
  obtain ⟨k1,k2,k3⟩:=g2 hx;have NA:Ku (D9 es ks (jH s.b)) (iZ es ks) (jH s.b)=D9 es ks (jH s.b):=by rw [k2,qN,k1];simp [sJ]
  rw [NA] at k3;obtain ⟨w',bY,rfl,hs,ht,hK⟩:=CX h h1 h3 hz k3 hK;refine ajs _ _ (Bg s.b (jH s.b)) ?_ ?_ hs ht ?_ hK
  ·have OM:=Xw.map h3 (arr.push {key:=fS s.st ks,val:=Bg s.b (jH s.b),born:=n}) (n+1);refine ⟨by rw [OM.size];exact abT _,λb ob hb=> ?_,OM.rest⟩;by_cases RO:b=e.B root
   ·subst RO;rw [h3] at hb;cases hb;exact .inr ⟨arr,n,_,_,[{key:=fS s.st ks,val:=Bg s.b (jH s.b),born:=n}],[ks],rfl,(adG h3).1,by simp,⟨ks,[],rfl,h6,rfl,rfl⟩,by simp⟩
   ·exact .inl (by rw [OM.other b RO];exact hb)
  ·rw [hx] at Nj;simp [execOp,ho,h2,h5,Instr.mapEntry,run_underlying t1,abK h3,t3 _ ks _ h6,Nj,abS _ h3,IN,t2,k1];rw [h4.clock]
  ·have:arr.toList[iZ es ks]? =none:=by simpa using hx
   rw [this] at hgl;exact hgl
theorem KI {t:TypeId}{s:MS}{m i v:Operand}(ho:o.op= .entryStore t m i v)(h:bS c Z e st a w)(hK:Kv st s (aH c st m) (λr es=>match aH c st i with
  | .sc (.p (.i .i64 n))=>cJ (decide (0<=n/\n.toNat<es.length)) (U3 s.b (aH c st v) λv=>Fa st r s (Ku es n.toNat v) λst=>bn c st o.dst (.sc .un) K)
  |_=>none)=some r):
 o.wp P a w (Out c Z K r e.φ w) Q:=by
 obtain ⟨hm,_⟩:=h.eval m;obtain ⟨hi,_⟩:=h.eval i;obtain ⟨hv,_⟩:=h.eval v;obtain ⟨root,es,arr,n,h1,h2,h3,h4,hz,hK⟩:=AN h hm hK;split at hK
 ·rename_i q hq;rw [hq] at hi;obtain ⟨hc,hK⟩:=dE hK;obtain ⟨Fi,hc2⟩:=of_decide_eq_true hc;obtain ⟨mv,h7,h8,hK⟩:=LH hv hK;have pJ:=h4.size;obtain ⟨m0,uJ⟩: ∃m0,es[q.toNat]? =some m0:=⟨_,By hc2⟩
  have cI:q.toNat<arr.size:=by omega
  have hx:arr[q.toNat]? =some arr[q.toNat]:=by simp [cI]
  obtain ⟨j1,ks,v0,rfl,j2,j3,j4,j5⟩:=h4.ent _ _ _ hx uJ;have oT:sO s (arr.modify q.toNat λe=>{e with val:=a.eval v}) n (Ku es q.toNat mv):=by
   refine ⟨by simp [qN,uJ,pJ],by simp [qN,uJ,h4.clock],λk y p hy hp=> ?_⟩;rw [qN,uJ] at hp;simp only [ab6] at hy;simp only [List.getElem?_set] at hp;by_cases hi:q.toNat=k
   ·subst hi;rw [hx] at hy;simp only [if_true,ab1,AT] at hy;simp [hc2] at hp;subst hy;subst hp;exact ⟨j1,ks,mv,rfl,j2,j3,h7,h8⟩
   ·simp only [hi,if_false] at hy hp;exact h4.ent k y p hy hp
  have YM:arr.findIdx? (λe=>(e.born:Int)==q)=some q.toNat:=by
   rw [Array.findIdx?_eq_some_iff_findIdx_eq];refine ⟨cI,?_⟩;rw [Array.findIdx_eq cI];refine ⟨by simp [j1];omega,λk hk=> ?_⟩;have hk':k<arr.size:=by omega
   obtain ⟨m1,hm1⟩: ∃m1,es[k]? =some m1:=⟨_,By (by omega)⟩
   obtain ⟨b1,_⟩:=h4.ent k arr[k] m1 (by simp [hk']) hm1;simp [b1];omega
  obtain ⟨w',bY,rfl,hs,ht,hK⟩:=CX h h1 h3 hz oT hK;refine CP ?_ hs ht hK;have hiv:=lu hi;simp only [execOp,ho,h2,hiv,Instr.entryStore,afB,abK h3,asInt,asIntOf,Sem.run_pure,IN];rw [YM];simp [abS _ h3,IN]
 ·cases hK
theorem acD {x:Operand}(ho:o.op= .assign x)(h:bS c Z e st a w)(hK:GH c o st x (λs st=>bn c st o.dst s K)=some r):o.wp P a w (λa' w'=>db w w'/\Out c Z K r e.φ w a' w') Q:=by
 have plain:bn c st o.dst (aH c st x) K=some r->o.wp P a w (λa' w'=>db w w'/\Out c Z K r e.φ w a' w') Q:=by intro hK;obtain ⟨v,h1,h2⟩:=Ni (P:=P) (.inr ho) h hK;unfold agA;rw [h1 w trivial,ae3];exact ⟨.refl w,h2⟩
 unfold GH at hK;split at hK
 ·rename_i t _ _;split at hK
  ·rename_i cs uq;cases hm:eT cs with
   |false=>simp only [hm,cond_false] at hK;exact plain hK
   |true=>
    simp only [hm,cond_true] at hK;cases hnp:bx st.cA t||zt t with
    |true=>simp [hnp] at hK
    |false=>
     obtain ⟨hn,hpt⟩:=BY.1 hnp;simp only [hnp,cond_false,Fc] at hK;have nn:=h.slot t;rw [uq] at nn;have h1:=h.drop (ds:=[t]);have hg:=Hf [t] st.fr h.nodup;have vt: ∀t' fU,aq (dv [t] st.fr) t'= .box fU->t'≠t/\aq st.fr t'= .box fU:=by
      intro t' fU ht;rw [hg] at ht;split at ht
      ·cases ht
      ·rename_i cR;refine ⟨λhe=>cR ?_,ht⟩;subst he;simp [bx]
     have jC:rk Z e w {st with fr:=dv [t] st.fr} (a.eval (.tmp t)) (.box cs):=by refine ⟨e.B t,nn.1.1 hpt,⟨OJ nn.2.ch (by rw [<-h.defers.2.1,<-bu,hn];simp),nn.2.obj,nn.2.free⟩,λt' fU ht=> ?_,λf o ho=>h.bf t cs f o uq ho⟩;obtain ⟨g1,g2⟩:=vt t' fU ht;exact h.bb t' t fU cs g2 uq g1
     exact Rz (w':=w) (.refl w) (by simp [execOp,ho]) h1 (.refl _ _ _) jC hK
  ·exact plain hK
 ·exact plain hK
end
end Dn
/-
  What goes through a string; a text of a row of bytes. Conditions: none.
-/
namespace Dn
open Go
section
variable {P:Program}{c:Ctx}{Z:bC}{e:Env}{st:St}{a:Act} {w w':World}{R:Type}{K:St->Option R}{r:R}{Q:Exit->Act->World->Prop}{o:Oper}
theorem acE {t:Nat}{s:MS}(h:xe c t=some s):F8 s=false:=by
 unfold xe at h;split at h
 ·split at h
  ·rename_i I _;cases hi:F8 ⟨I.st,I.lay,_⟩ with
   |true=>rw [hi] at h;cases h
   |false=>rw [hi] at h;cases h;exact hi
  ·cases h
 ·cases h
theorem YN {t:TypeId}{x:Operand}{I:TI}(ho:o.op= .range t x)(hI:c.tv t=some I)(hT:ia P c.ti)(h:bS c Z e st a w)(hK:Rl I (aH c st x) (λs=>bn c st o.dst s K)=some r):o.wp P a w (Out c Z K r e.φ w) Q:=by
 obtain ⟨lQ,hc⟩:=bj hI;obtain ⟨hx,_⟩:=h.eval x;generalize aH c st x=s' at hx hK;unfold Rl at hK;split at hK
 ·rename_i l;cases hS:I.Rf with
  |false=>simp [hS] at hK
  |true=>
   simp only [hS,cond_true] at hK;have hu:=TI.Eg (hT t I lQ) hS;obtain ⟨b,hb,rfl⟩:=CQ hx;have bF:(execOp a.eval o).run P w= .ok (.value (.pointer (some ⟨w.heap.size,0,none⟩))) (w.alloc (.stringIter b 0)):=by simp [execOp,ho,hb,run_range_string w t b hu,World.iter,IN]
   have hg:db w (w.alloc (.stringIter b 0)):=by exact ⟨by simp,λk hk=>rR w _ k hk,⟨rfl,rfl,rfl⟩⟩
   refine fin bF (h.grow hg) (hg.trans h.ch _) ?_ hK;exact ⟨w.heap.size,by rw [Rw rfl],⟨h.ch _ (abT _),⟨_,iy w _,rfl⟩,Hk h⟩,(AL h).1,(AL h).2⟩
 ·cases hK
theorem Xw.iter {s:ByteArray}{n g:Nat}(hh:w.heap[g]? =some (.stringIter s n)) (n':Nat):Xw g w {w with heap:=w.heap.setIfInBounds g (.stringIter s n')}:=by exact ⟨by simp,λb hb=>by simp [Ne.symm hb],⟨rfl,rfl,rfl⟩⟩
theorem acF {x:Operand}(ho:o.op= .next x true)(h:bS c Z e st a w)(hK:itK st (aH c st x) (λs st=>bn c st o.dst s K)=some r):o.wp P a w (Out c Z K r e.φ w) Q:=by
 obtain ⟨hx,_⟩:=h.eval x;generalize aH c st x=s' at hx hK;unfold itK at hK;split at hK
 ·rename_i t;split at hK
  ·rename_i s es uq;cases hit:F8 s with
   |false=>simp [hit] at hK
   |true=>
    simp only [hit,cond_true] at hK;have nn:=h.slot t;rw [uq] at nn;obtain ⟨ob,h1,h2⟩:=nn.2.obj;cases ob with
    |cells arr T z=>exact absurd h2.2.zH (by simp [eT])
    |map arr n=>obtain ⟨s2,ms2,h3,h4,_⟩:=h2;simp only [OF,aE.mp.injEq,and_true] at h3;rw [h3.1,h4] at hit;cases hit
    |stringIter b pos=>
     have h3:_=[aE.mp MS.it _]:=h2;simp only [OF,aE.mp.injEq,and_true] at h3;obtain ⟨rfl,rfl⟩:=h3;simp only [ab] at hx;cases oT:Kw [.s b.data.toList,.i .i64 (pos:Int)] with
     |true=>
      rw [oT] at hK;simp only [bB] at hK;have cI:pos<b.size:=by simpa [Kw,rJ,Xu] using oT
      unfold wr at hK;cases hn:bx st.cA t with
      |true=>simp [hn] at hK
      |false=>
       simp only [hn,cond_false,force_eq,mB] at hK;have hb:(⟨b.data.toList.toArray⟩:ByteArray)=b:=by cases b;simp
       have OM:=Xw.iter h1 (pos+(agf b pos).2);have hs:=h.setObj (fU:=[.mp MS.it (BU [.s b.data.toList,.i .i64 (pos:Int)])]) uq OM (adG h1).1 (by show _=_;simp [BU,Xu,rJ,hb]) rfl (λt=>by rw [bL]) (ej h.nodup);have bF:(execOp a.eval o).run P w= .ok (.value (.tuple #[.bool true,.int .i64 pos,.int .i32 (agf b pos).1])) {w with heap:=w.heap.setIfInBounds (e.B t) (.stringIter b (pos+(agf b pos).2))}:=by simp [execOp,ho,hx,Instr.next,getObj,setObj,agT,h1,cI,IN,goInt]
       refine fin (s:= .b8 [.sc (.p (.b true)),.sc (.p (.i .i64 (rJ [.s b.data.toList,.i .i64 (pos:Int)]))),.sc (.p (.i .i32 (zA [.s b.data.toList,.i .i64 (pos:Int)])))]) bF hs (.chg _ OM (OJ nn.2.ch (by rw [<-h.defers.2.1,<-bu,hn];simp))) ⟨?_,trivial⟩ hK;simp only [ab,rJ,zA,Xu,hb,Int.toNat_natCast];exact ⟨_,rfl,.bool true,_,rfl,Bi _,rfl,goInt pos,_,rfl,sQ _ _,rfl,_,[],rfl,sQ _ _,rfl,rfl⟩
     |false=>
      rw [oT] at hK;simp only [bB] at hK;have cI: ¬pos<b.size:=by simpa [Kw,rJ,Xu] using oT
      have bF:(execOp a.eval o).run P w= .ok (.value (.tuple #[.bool false])) w:=by simp [execOp,ho,hx,Instr.next,getObj,setObj,agT,h1,cI,IN,goInt]
      refine fin (s:= .b8 [.sc (.p (.b false))]) bF h (.refl _ _ _) ⟨?_,trivial⟩ hK;simp only [ab];exact ⟨_,rfl,.bool false,_,rfl,Bi _,rfl,rfl⟩
    |_=>exact h2.elim
  ·cases hK
 ·cases hK
theorem LI {R:Type}{r:R}: ∀{xs:List MV} {K:List UInt8->Option R},Kx xs K=some r-> ∃ns:List Int,xs=ns.map (MV.i .u8)/\K (ns.map λn=>adv n.toNat)=some r:=by
 intro xs;induction xs with
 |nil=>intro K h;exact ⟨[],rfl,h⟩
 |cons m xs ih=>
  intro K h;simp only [Kx,byK] at h;cases m with
  |i k n=>
   simp only [gI] at h;by_cases hk:k= .u8
   ·subst hk;simp only [decide_true,cond_true] at h;obtain ⟨_,h1⟩:=dE h;obtain ⟨ns,hx,h2⟩:=ih h1;exact ⟨n::ns,by rw [hx];rfl,h2⟩
   ·simp [hk] at h
  |_=>simp [gI] at h
theorem YO {y t:TypeId}{x:Operand}{Y I:TI}(ho:o.op= .convert y t x)(hY:c.tv y=some Y)(hI:c.tv t=some I)(hL:Y.yr=true)(hT:ia P c.ti)(h:bS c Z e st a w)(hK:XV c st Y I (aH c st x) (λs=>bn c st o.dst s K)=some r):Rd P c Z K r e a w o (db w):=by
 obtain ⟨hyi,_⟩:=bj hY;obtain ⟨lQ,_⟩:=bj hI;obtain ⟨hx,_⟩:=h.eval x;generalize aH c st x=s' at hx hK;obtain ⟨hu,_⟩:=TI.lm (hT y Y hyi) hL;unfold XV at hK;cases hE:c.tv Y.elem with
 |none=>simp [hE] at hK
 |some E=>
  obtain ⟨lN,_⟩:=bj hE;simp only [hE] at hK;cases YA:I.Rf&&Rg E with
  |false=>simp [YA] at hK
  |true=>
   simp only [YA,cond_true] at hK;simp only [sh] at YA;have hd:=TI.Eg (hT t I lQ) YA.1;obtain ⟨he,pJ⟩:=Nq (hT _ E lN) YA.2;have go: ∀(ns:List Int),(∀w':World,db w w'->(convert y t (a.eval x)).run P w'= .ok (.string (strOfNums ns)) w')->bn c st o.dst (.sc (.p (.s (ns.map λn=>adv n.toNat)))) K=some r-> Rd P c Z K r e a w o (db w):=by intro ns bF hK;refine RB (s:= .sc (.p (.s (ns.map λn=>adv n.toNat)))) (v:= .string (strOfNums ns)) (λw' hg=>by simp [execOp,ho,bF w' hg,IN]) h (.refl _ _ _) (.of ?_ trivial) hK;rw [<-strOfNums_data];exact ab9 _
   have anX:a.eval x= .slice none 0 0->bn c st o.dst (.sc (.p (.s []))) K=some r->Rd P c Z K r e a w o (db w):=by intro hv hK;refine go [] (λw' hg=> ?_) hK;rw [hv,run_convert_bytes_nil w' y _ hu he 0 0 t hd];rfl
   split at hK
   ·rename_i xs;obtain ⟨ns,YP,yV⟩:=LI hK;refine go ns (λw' hg=> ?_) yV;clear hK;subst YP;simp only [ab,aM] at hx;obtain ⟨_,hx⟩:=hx;generalize hv:[a.eval x]=vs at hx;cases hx;rename_i ad cap a8 off Fb f h1 h2 h3 h4 h5;simp only [OF,and_true] at hv;rw [hv];have hlen:(ns.map (MV.i .u8)).length=ns.length:=ac9 ..;have h5: ∀(i:Nat) (hi:i<ns.length),gY e.key e.φ (f i) (.i .u8 ns[i]):=λi hi=>by have:=h5 i (by rw [hlen];exact hi);rwa [List.getElem_map] at this
    rw [hlen] at h1 h2 h3 h4⊢;cases ns with
    |nil=>rw [run_convert_bytes_string w' y t _ _ _ _ hu he hd];cases ad<;>simp [Conv.bytesToString,loadCells,loadCellsFrom,IN,strOfNums]<;>rfl
    |cons n ns=>
     have h5': ∀(i:Nat) (hi:i<(n::ns).length),f i=[.int .u8 (n::ns)[i]]:=by intro i hi;have:=h5 i hi;generalize f i=q at this;cases this;rfl
     have anY:Fb=1:=by rw [<-h3 0 (by simp),h5' 0 (by simp)];rfl
     subst anY;rw [h2 (by simp)];refine run_convert_bytes_arg w' y _ hu he a8 off _ cap (n::ns) rfl (λi hi=> ?_) t hd;have h6:=h4 i 0 hi (by omega);rw [h5' i hi] at h6;simp only [Nat.mul_one,Nat.add_zero,acO,Nat.zero_lt_succ,List.getElem?_cons_zero] at h6;rw [hg.cell (h.kZ _ _ _ h6),adg,By hi];rfl
   ·refine anX ?_ hK;simpa [ab,aM] using hx
   ·rename_i f;cases hf:aI st.aP f with
    |none=>simp [hf] at hK
    |some ow=>
     simp only [hf] at hK;cases iJ:IT ow.ty Y.elem with
     |false=>simp [iJ] at hK
     |true=>
      simp only [iJ,cond_true] at hK;have iJ:=AI iJ;obtain ⟨ns,YP,yV⟩:=LI hK;clear hK;obtain ⟨hv,_⟩:=rW h hx hf;refine go ns (λw' hg=> ?_) yV;obtain ⟨J,cells,k1,k2,k3,k4,k5⟩:=(h.iK f ow hf).row;rw [iJ,lN] at k1;cases k1;rw [pJ] at k3 k4;rw [YP] at k3 k4;have bq: ∀(ns:List Int) (cells:List Value),aX e.key e.φ 1 cells (ns.map (MV.i .u8))->cells=ns.map (ags .u8):=by
       intro ns;induction ns with
       |nil=>intro cells hc;exact hc
       |cons n ns ih=>intro cells hc;obtain ⟨v,q,rfl,_,hr,hc⟩:=hc;cases hr;rw [ih _ hc];rfl
      have hce:=bq _ _ k4;subst hce;rw [hv];rw [ac9] at k3;rcases k3.2 with ⟨q1,q2⟩|⟨g,cap,cY,q1,_,q2,q3,q4,q5,q6⟩
      ·have:ns=[]:=acX q2;subst this;rw [q1,run_convert_bytes_nil w' y _ hu he 0 0 t hd];rfl
      ·rw [q1];refine run_convert_bytes_arg w' y _ hu he g 0 _ cap ns rfl (λi hi=> ?_) t hd;refine hg.cell ?_;rw [abR,cell_of q2];have XA:(cY.toList.take (ns.length *1))[i]? =some (.int .u8 (ns.getD i 0)):=by rw [q6,abQ,adg,By hi];rfl
       rw [adf] at XA;split at XA
       ·simpa using XA
       ·cases XA
   ·cases hK
end
end Dn
/-
  Slices of new elements. Conditions: none.
-/
namespace Dn
open Go
section
variable {P:Program}{c:Ctx}{Z:bC} {e e':Env}{st:St}{a:Act} {w w':World}{R:Type}{K:St->Option R}{r:R}{Q:Exit->Act->World->Prop}{o:Oper}
theorem YQ {t:TypeId}{I:TI}(hI:c.tv t=some I)(hT:ia P c.ti): ∃i z,P.info? t=some i/\i.zero=some z/\av e z.cells.toList I.zero:=by
 obtain ⟨lQ,hc⟩:=bj hI;obtain ⟨d,i,h1,h2,h3,h4⟩:=hT t I lQ;suffices hz: ∃z,i.zero=some z/\av e z.cells.toList I.zero by obtain ⟨z,h5,h6⟩:=hz;exact ⟨i,z,h2,h5,h6⟩
 cases d<;>simp only [rT] at h4;case struct fs=>obtain ⟨_,_,_,_,_,_,cs,hz,hl,_⟩:=h4;exact ⟨_,hz,by simpa [ac5] using lR hl⟩
 case tuple ts=>exact absurd hc h4.2.1
 case slice el=>obtain ⟨_,_,_,_,_,hz,hl,_⟩:=h4;exact ⟨_,hz,by rw [hl];exact ⟨[.slice none 0 0],[],rfl,rfl,rfl⟩⟩
 case array n el=>obtain ⟨_,_,_,_,_,_,_,hl,hz⟩:=h4;exact ⟨_,hz,by rw [hl];exact ⟨bq kM.zero,[],by simp [ac5],rfl,rfl⟩⟩
 case bool=>obtain ⟨_,_,_,_,hl,hz⟩:=h4;exact ⟨_,hz,by rw [hl];exact ⟨[.bool false],[],rfl,⟨rfl,.b _⟩,rfl⟩⟩
 case int k=>obtain ⟨_,_,_,_,hl,hz⟩:=h4;exact ⟨_,hz,by rw [hl];exact ⟨[.int k 0],[],rfl,⟨rfl,.i _ _⟩,rfl⟩⟩
 case string=>obtain ⟨_,_,_,_,hl,b,hz,hb⟩:=h4;refine ⟨_,hz,by rw [hl];refine ⟨[.string b],[],rfl,⟨rfl,?_⟩,rfl⟩;rw [<-hb];exact .s b⟩
 all_goals
  obtain ⟨_,_,_,_,v,hz,hv,hl⟩:=h4;refine ⟨v,hz,?_⟩;have:v.cells.toList=[v]:=by cases v<;>simp_all [ac5,Value.oneCell']
  rw [this];exact lR hl
theorem av.ajt {cs:List aE}: ∀{vs:List Value} {ms:List MV},av e vs cs->zy cs=some ms->ga e.key e.φ vs ms:=by
 induction cs with
 |nil=>intro vs ms h hm;cases h;simp [zy] at hm;subst hm;exact .nil
 |cons l r ih=>
  intro vs ms h hm;obtain ⟨v,u,rfl,h1,h2⟩:=h;cases hr:zy r with
  |none=>cases l<;>simp [zy,hr] at hm
  |some q=>
   cases l<;>simp [zy,hr] at hm
   ·subst hm;exact .cons v _ u q h1.2 (ih h2 hr)
   ·subst hm;have h1:v=bq _:=h1;subst h1;exact .cons _ _ u q (.h _) (ih h2 hr)
   ·subst hm;have h1:v=[.slice none 0 0]:=h1;subst h1;exact .cons _ _ u q (.list none 0 [] 0 0 0 (λ_=>[]) (abT _) (λh=>absurd h (Nat.lt_irrefl _)) (λ_ h=>absurd h (ae5 _)) (λ_ _ h=>absurd h (ae5 _)) (λ_ h=>absurd h (ae5 _))) (ih h2 hr)
theorem Vr {b:Bool}{ms:List MV}{x:MV}{vs:List Value}(h:ga e.key e.φ vs ms)(hx:vr b ms=some x):gY e.key e.φ vs x:=by
 cases b with
 |true=>cases ms<;>simp [vr] at hx<;>subst hx<;>exact .agg _ _ h
 |false=>
  cases ms with
  |nil=>simp [vr] at hx
  |cons m ms=>
   cases ms with
   |cons y ys=>simp [vr] at hx
   |nil=>
    simp [vr] at hx;subst hx;generalize yt:vs=KC at h;cases h with
    |cons v _ u _ h1 h2=>cases h2;simpa using h1
theorem LJ (z:Array Value)(hz:0<z.size): ∀n:Nat,(madeCells z (n *z.size)).toList=(abY n z.toList).flatten
 |0=>by simp [madeCells]
 |n+1=>by
  have ih:=LJ z hz n;unfold madeCells at ih⊢;rw [acw,Array.toList_range] at ih⊢;rw [agz,List.range_add,List.map_append,ih,List.replicate_succ',List.flatten_append];congr 1;simp only [List.flatten_cons,List.flatten_nil,agn,List.map_map];apply afF;intro k;rw [abQ];by_cases hk:k<z.size
  ·rw [afq hk];simp only [ab1,Function.comp];rw [show (n *z.size+k)%z.size=k by rw [Nat.mul_comm,Nat.mul_add_mod,Nat.mod_eq_of_lt hk]];simp [hk]
  ·simp [hk,show z.size<=k by omega]
theorem BD {key:Nat->Nat} {φ:Ph}{size:Nat}{vs:List Value}{x:MV}(hl:vs.length=size)(h:gY key φ vs x): ∀n,aX key φ size (abY n vs).flatten (abY n x)
 |0=>rfl
 |n+1=>⟨vs,(abY n vs).flatten,by simp [List.replicate_succ],hl,h,BD hl h n⟩
theorem NC {t:TypeId}{x y:Operand}{I E:TI}(ho:o.op= .makeSlice t x y)(hI:c.tv t=some I)(hL:I.yr=true)(hE:c.tv I.elem=some E)(hT:ia P c.ti)(h:bS c Z e st a w)(hK:XL (o.dst.getD 0) st I E (aH c st x) (aH c st y) (λs st=>bn c st o.dst s K)=some r): o.wp P a w (λa' w'=>db w w'/\Out c Z K r e.φ w a' w') Q:=by
 obtain ⟨lQ,hc⟩:=bj hI;obtain ⟨lN,om⟩:=bj hE;obtain ⟨hu,E2,v7,_,eD⟩:=TI.lm (hT t I lQ) hL;rw [lN] at v7;cases v7;obtain ⟨hx,_⟩:=h.eval x;obtain ⟨hy,_⟩:=h.eval y;generalize aH c st x=sx at hx hK;generalize aH c st y=sy at hy hK;unfold XL at hK;split at hK;rotate_left
 ·cases hK
 rename_i k1 n k2 m;cases hb:aec 1 E.bytes with
 |false=>simp [hb] at hK
 |true=>
 simp only [hb,cond_true] at hK;have hb:=acv hb;obtain ⟨hn,hK'⟩:=dE hK;clear hK;have hK:=hK';clear hK';have hn:=of_decide_eq_true hn;obtain ⟨h0,hnm,ku⟩:=hn;subst hnm;cases Kn:zy E.zero with
 |none=>simp [Kn] at hK
 |some zs=>
 simp only [Kn] at hK;cases hre:vr E.st zs with
 |none=>simp [hre] at hK
 |some z0=>
 simp only [hre] at hK;obtain ⟨i,z,hi,hz,hlr⟩:=YQ (e:=e) hE hT;obtain ⟨i',z',hi',hs,XB,hz',YR⟩:=lc (hT _ E lN) om;rw [hi] at hi';cases hi';rw [hz] at hz';cases hz';have eK:gY e.key e.φ z.cells.toList z0:=Vr (hlr.ajt Kn) hre;have ev1:a.eval x= .int k1 n:=lu hx;have ev2:a.eval y= .int k2 n:=lu hy;have hnb:n<=n *(E.bytes:Int):=by have:n *1<=n *(E.bytes:Int):=Int.mul_le_mul_of_nonneg_left (by omega) h0;omega
 have aju:=run_make (P:=P) w t I.elem i z hu hi hz k1 k2 n n h0 (Int.le_refl _) (by rw [XB,Int.mul_comm];omega) (by omega);have bF:(execOp a.eval o).run P w= .ok (.value (.slice (some ⟨w.heap.size,0,none⟩) n.toNat n.toNat)) (w.alloc (.cells (madeCells z.cells (n.toNat *i.size)) I.elem)):=by simp [execOp,ho,ev1,ev2,aju]
 rw [hs,<-YR] at bF;have hg:db w (w.alloc (.cells (madeCells z.cells (n.toNat *z.cells.size)) I.elem)):= .alloc w _ _;have TE:(madeCells z.cells (n.toNat *z.cells.size)).toList=(abY n.toNat z.cells.toList).flatten:=LJ _ (by rw [YR];exact eD) _;have ib:=BD (size:=E.size) (by rw [afr];exact YR) eK n.toNat;rw [<-TE] at ib;have hlen:(abY n.toNat z0).length=n.toNat:=List.length_replicate;have pJ:(madeCells z.cells (n.toNat *z.cells.size)).toList.length=n.toNat *E.size:=by rw [afr,size_madeCells,YR]
 have Fk: ∀off,e.φ w.heap.size off=none:=by
  intro off;cases hp:e.φ w.heap.size off with
  |none=>rfl
  |some u=>have:=aco w _ (h.kZ _ _ _ hp);simp at this
 have zJ:=h.npf hK;have hK:=ot hK;have gd:cu c Z.nc e (w.alloc (.cells (madeCells z.cells (n.toNat *z.cells.size)) I.elem)) (.slice (some ⟨w.heap.size,0,none⟩) n.toNat n.toNat) ⟨I.elem,false,abY n.toNat z0⟩:=by
  refine ⟨E,_,lN,om,⟨?_,.inr ⟨w.heap.size,n.toNat,_,?_,age _,iy w _,?_,?_,?_,?_⟩⟩,ib,?_⟩
  ·simp [pJ,hlen]
  ·simp [hlen]
  ·simp [hlen]
  ·simp [hlen,Go.maxLen];omega
  ·simp [size_madeCells,YR,hlen]
  ·show List.take _ _=_;rw [aem (by simp [pJ,hlen])]
  ·intro a8 jI;simp [AS] at jI;subst jI;refine ⟨h.ch _ (abT _),λoff u hu=>(by rw [Fk] at hu;cases hu),λhc=>aeW hc⟩
 have oO:=h.iP (f:=o.dst.getD 0) zJ gd hg.size (λb GM _=>hg.rK b GM) (λb off u hu=>hg.cell (h.kZ b off u hu)) (λb jI=>by simp [AS] at jI;exact .inl (by omega));exact Rz (s:= .sc (.own (o.dst.getD 0))) hg bF oO (hg.trans h.ch _) (.of (sS rfl) trivial) hK
end
end Dn
/-
  Variables that are handed to functions. Conditions: none.
-/
namespace Dn
open Go
def TN:List (Nat×Nat)->Nat->Nat
 |[],_=>0
 |(f,x)::r,g=>if f=g then x else TN r g
def ND (E:Nat->Value)(ps:List (Nat×Nat))(f:Nat):Value:=match TN ps f with
 |0=> .slice none 0 0
 |g+1=>E g
structure NE (ps:List (Nat×Nat)):Prop where
 fn: ∀f x y,(f,x)∈ps->(f,y)∈ps->x=y
 inj: ∀f f' g,(f,g+1)∈ps->(f',g+1)∈ps->f=f'
theorem NE.nil:NE []:=⟨λ_ _ _ h=>by simp at h,λ_ _ _ h=>by simp at h⟩
theorem AO {ps:List (Nat×Nat)}(h:NE ps){f x:Nat}(hm:(f,x)∈ps):TN ps f=x:=by
 have hfn:=h.fn;clear h;induction ps with
 |nil=>simp at hm
 |cons p ps ih=>
  obtain ⟨a,b⟩:=p;unfold TN;by_cases ha:a=f
  ·subst ha;rw [if_pos rfl];exact hfn a b x (by simp) hm
  ·rw [if_neg ha];rcases bN.1 hm with h1|h1
   ·simp only [aa6] at h1;exact absurd h1.1.symm ha
   ·exact ih h1 (λf x y h1 h2=>hfn f x y (by simp [h1]) (by simp [h2]))
theorem RT {ps:List (Nat×Nat)}{f g:Nat}(h:mY ps f g=true):(∀b,(f,b)∈ps->b=g/\g≠0)/\(∀x,(x,g)∈ps->x≠f->g=0):=by
 induction ps with
 |nil=>simp
 |cons p ps ih=>
  obtain ⟨x,y⟩:=p;simp only [mY,sh,fm] at h;obtain ⟨h1,h2⟩:=h;obtain ⟨i1,i2⟩:=ih h2;refine ⟨?_,?_⟩
  ·intro b hb;rcases bN.1 hb with hb|hb
   ·cases hb;simp at h1;exact ⟨h1.1,h1.2⟩
   ·exact i1 b hb
  ·intro z hz cR;rcases bN.1 hz with hz|hz
   ·cases hz;simp [cR] at h1;exact h1
   ·exact i2 z hz cR
theorem NE.add {ps:List (Nat×Nat)}{f g:Nat}(h:NE ps)(hp:mY ps f g=true):NE ((f,g)::ps):=by
 obtain ⟨p1,p2⟩:=RT hp;refine ⟨λa x y hx hy=> ?_,λa b k hx hy=> ?_⟩
 ·rcases bN.1 hx with hx|hx<;>rcases bN.1 hy with hy|hy
  ·cases hx;cases hy;rfl
  ·cases hx;exact (p1 y hy).1.symm
  ·cases hy;exact (p1 x hx).1
  ·exact h.fn a x y hx hy
 ·rcases bN.1 hx with CF|CF<;>rcases bN.1 hy with hy1|hy1
  ·cases CF;cases hy1;rfl
  ·cases CF;by_cases hb:b=f
   ·exact hb.symm
   ·have:=p2 b hy1 hb;omega
  ·cases hy1;by_cases hb:a=f
   ·exact hb
   ·have:=p2 a CF hb;omega
  ·exact h.inj a b k CF hy1
inductive TC (st:St):List (Nat×Nat)->List LK->List aE->List MV->List (Nat×Nat)->Prop
 |nil (ps):TC st ps [] [] [] ps
 |NF {ps ks ls ms kl}:TC st ps ks ls ms kl->TC st ps (.k .l::ks) (.nil::ls) (.list []::ms) kl
 |hs {ps ks ls ms kl} (x:kM):TC st ps ks ls ms kl->TC st ps (.k .h::ks) (.hs x::ls) (.h x::ms) kl
 |p {ps ks ls ms kl} (x:Kd) (m:MV) (l':aE):jL x m some=some l'->TC st ps ks ls ms kl->TC st ps (.k x::ks) (.p m::ls) (m::ms) kl
 |own {ps ks ls ms kl} (f ty:Nat) (ei:Bool) (g:Nat) (o:oM):aI st.aP g=some o->o.ty=ty->(o.ei=true->ei=true)->g∉st.cy->mY ps f (g+1)=true-> TC st ((f,g+1)::ps) ks ls ms kl->TC st ps (.own f ty ei::ks) (.own g::ls) (.list o.xs::ms) kl
 |xv {ps ks ls ms kl} (f ty:Nat) (ei:Bool):mY ps f 0=true->TC st ((f,0)::ps) ks ls ms kl->TC st ps (.own f ty ei::ks) (.nil::ls) (.list []::ms) kl
theorem Hu {R:Type}{k:Kd}{m:MV}{l:aE}{K:aE->Option R}(h:jL k m some=some l):jL k m K=K l:=by
 unfold jL gB gI gS gL gH gR at h⊢;cases k<;>cases m<;>simp at h⊢ <;>try (subst h;rfl)
 ·rename_i k k' n;by_cases hk:k'=k
  ·simp [hk] at h⊢;subst h;rfl
  ·simp [hk] at h
theorem AP {R:Type}{r:R}{k:Kd}{m:MV}{K:aE->Option R}(h:jL k m K=some r): ∃l,jL k m some=some l/\K l=some r:=by
 unfold jL gB gI gS gL gH gR at h⊢;cases k<;>cases m<;>simp at h⊢ <;>try exact h
 ·rename_i k k' n;by_cases hk:k'=k
  ·simp [hk] at h⊢;exact h
  ·simp [hk] at h
theorem B7 {st:St}{ks:List LK}: ∀{R:Type} {r:R} {ps:List (Nat×Nat)} {ls:List aE} {K':List MV->List (Nat×Nat)->Option R},kq st ps ks ls K'=some r-> ∃ms kl,TC st ps ks ls ms kl/\K' ms kl=some r:=by
 induction ks with
 |nil=>
  intro R r ps ls K' h;cases ls with
  |nil=>exact ⟨[],ps,.nil ps,h⟩
  |cons=>simp [kq] at h
 |cons k ks ih=>
  intro R r ps ls K' h;cases ls with
  |nil=>simp [kq] at h
  |cons l ls=>
   simp only [kq] at h;unfold M9 at h;split at h
   ·obtain ⟨ms,kl,h1,h⟩:=ih h;exact ⟨_,_,.NF h1,h⟩
   ·obtain ⟨ms,kl,h1,h⟩:=ih h;exact ⟨_,_,.hs _ h1,h⟩
   ·obtain ⟨l',h0,h⟩:=AP h;obtain ⟨ms,kl,h1,h⟩:=ih h;exact ⟨_,_,.p _ _ l' h0 h1,h⟩
   ·rename_i f ty ei g;cases ho:aI st.aP g with
    |none=>simp [ho] at h
    |some o=>
     simp only [ho] at h;cases hc:!IT o.ty ty||(o.ei&&!ei)||bx st.cy g||!mY ps f (g+1) with
     |true=>simp [hc] at h
     |false=>
      simp only [hc,cond_false] at h;simp only [BY,abZ] at hc;obtain ⟨⟨⟨h1,h2⟩,h3⟩,h4⟩:=hc;obtain ⟨ms,kl,h5,h⟩:=ih h;refine ⟨_,_,.own f ty ei g o ho (AI h1) ?_ ?_ h4 h5,h⟩
      ·intro hz;rw [hz] at h2;simpa using h2
      ·rw [<-bu,h3];simp
   ·rename_i f ty ei;cases hc:mY ps f 0 with
    |false=>simp [hc] at h
    |true=>simp only [hc,cond_true] at h;obtain ⟨ms,kl,h5,h⟩:=ih h;exact ⟨_,_,.xv f ty ei hc h5,h⟩
   ·simp at h
theorem TC.ps {st:St}{ps kl:List (Nat×Nat)}{ks:List LK}{ls:List aE}{ms:List MV}(h:TC st ps ks ls ms kl):NE ps->NE kl/\ ∀p∈ps,p∈kl:=by
 induction h with
 |nil=>exact λh=>⟨h,λ_ h=>h⟩
 |NF _ ih=>exact ih
 |hs _ _ ih=>exact ih
 |p _ _ _ _ _ ih=>exact ih
 |own f ty ei g o _ _ _ _ hp _ ih=>intro h;obtain ⟨h1,h2⟩:=ih (h.add hp);exact ⟨h1,λp hm=>h2 p (by simp [hm])⟩
 |xv f ty ei hp _ ih=>intro h;obtain ⟨h1,h2⟩:=ih (h.add hp);exact ⟨h1,λp hm=>h2 p (by simp [hm])⟩
def ajw (st:St)(ps:List (Nat×Nat))(ks:List LK)(f:Nat)(o:oM):Prop:=LK.own f o.ty o.ei∈ks/\((∃g o3,(f,g+1)∈ps/\aI st.aP g=some o3/\o3.ty=o.ty/\o3.xs=o.xs/\(o3.ei=true->o.ei=true)/\g∉st.cy)\/((f,0)∈ps/\o.xs=[]))
theorem acG {e:Env}{st:St}{psF:List (Nat×Nat)}(zM:NE psF){ps kl:List (Nat×Nat)}{ks:List LK}{ls:List aE}{ms:List MV}(h:TC st ps ks ls ms kl)(he:e.m=st.aP):(∀p∈kl,p∈psF)-> ∀{vs:List Value},av e vs ls-> ∀(m0:List (Nat×oM)),∃cs m1,(∀{R:Type} (K:List aE->List MV->St->Option R) (rest:List MV),cQ ⟨[],[],[],m0⟩ ks (ms++rest) K=K cs rest ⟨[],[],[],m1⟩)/\ (∀e2:Env,e2.key=e.key->e2.φ=e.φ->(∀f,e2.E f=ND e.E psF f)->av e2 vs cs)/\(∀f o,aI m1 f=some o->aI m0 f=some o\/ajw st psF ks f o):=by
 induction h with
 |nil=>intro _ vs hl m0;cases hl;exact ⟨[],m0,λK rest=>rfl,λe2 _ _ _=>rfl,λf o h=> .inl h⟩
 |NF _ ih=>
  intro eZ vs hl m0;obtain ⟨v,u,rfl,h1,h2⟩:=hl;obtain ⟨cs,m1,g1,g2,g3⟩:=ih eZ h2 m0;have h1:v=[.slice none 0 0]:=h1;subst h1;refine ⟨.p (.list [])::cs,m1,λK rest=> ?_,λe2 q1 q2 q3=>⟨_,u,rfl,⟨rfl,.list none 0 [] 0 0 0 (λ_=>[]) (by simp) (by simp) (by simp) (by simp) (by simp)⟩,g2 e2 q1 q2 q3⟩,λf o h=> ?_⟩
  ·show cQ _ _ _ _=_;simp only [cQ,gC,abN,ll,jL,gL];exact g1 _ rest
  ·rcases g3 f o h with h|⟨h,h'⟩
   ·exact .inl h
   ·exact .inr ⟨aaW _ h,h'⟩
 |hs x _ ih=>
  intro eZ vs hl m0;obtain ⟨v,u,rfl,h1,h2⟩:=hl;obtain ⟨cs,m1,g1,g2,g3⟩:=ih eZ h2 m0;refine ⟨.hs x::cs,m1,λK rest=> ?_,λe2 q1 q2 q3=>⟨v,u,rfl,h1,g2 e2 q1 q2 q3⟩,λf o h=> ?_⟩
  ·simp only [cQ,gC,abN,ll,jL,gH];exact g1 _ rest
  ·rcases g3 f o h with h|⟨h,h'⟩
   ·exact .inl h
   ·exact .inr ⟨aaW _ h,h'⟩
 |p x m l' h0 _ ih=>
  intro eZ vs hl m0;obtain ⟨v,u,rfl,h1,h2⟩:=hl;obtain ⟨cs,m1,g1,g2,g3⟩:=ih eZ h2 m0;refine ⟨l'::cs,m1,λK rest=> ?_,λe2 q1 q2 q3=>⟨v,u,rfl,?_,g2 e2 q1 q2 q3⟩,λf o h=> ?_⟩
  ·simp only [cQ,gC,abN,ll,Hu h0];exact g1 _ rest
  ·obtain ⟨l2,hs,hk⟩:=nW (e:=e2) (vs:=v) h0;cases hk;exact hs.rep (by rw [q1,q2];exact h1.2)
  ·rcases g3 f o h with h|⟨h,h'⟩
   ·exact .inl h
   ·exact .inr ⟨aaW _ h,h'⟩
 |own f ty ei g o ho iJ hfz hg hp ht ih=>
  intro eZ vs hl m0;obtain ⟨v,u,rfl,h1,h2⟩:=hl;obtain ⟨cs,m1,g1,g2,g3⟩:=ih eZ h2 (bR m0 f ⟨ty,ei,o.xs⟩);have rX:(f,g+1)∈psF:=eZ _ (by
   have:=(ht.ps)
   clear this;exact (show∀{ps kl:List (Nat×Nat)} {ks:List LK} {ls:List aE} {ms:List MV},TC st ps ks ls ms kl-> ∀p∈ps,p∈kl from by
    intro ps kl ks ls ms h;induction h with
    |nil=>exact λ_ h=>h
    |NF _ ih=>exact ih
    |hs _ _ ih=>exact ih
    |p _ _ _ _ _ ih=>exact ih
    |own _ _ _ _ _ _ _ _ _ _ _ ih=>exact λp hm=>ih p (by simp [hm])
    |xv _ _ _ _ _ ih=>exact λp hm=>ih p (by simp [hm])) ht _ (by simp))
  obtain ⟨x,rfl,hx,hE⟩:=h1;have hE:=hE o (by rw [he];exact ho);refine ⟨.own f::cs,m1,λK rest=> ?_,λe2 q1 q2 q3=>⟨[x],u,rfl,⟨x,rfl,hx,λo2 _=> ?_⟩,g2 e2 q1 q2 q3⟩,λf2 o2 h=> ?_⟩
  ·simp only [cQ,gC,abN,ll,gL,oV];exact g1 _ rest
  ·rw [q3 f,ND,AO zM rX,hE]
  ·rcases g3 f2 o2 h with h|⟨h,h'⟩
   ·rw [bm] at h;by_cases eU:f2=f
    ·subst eU;simp only [if_true,AT] at h;subst h;exact .inr ⟨by simp,.inl ⟨g,o,rX,ho,iJ,rfl,hfz,hg⟩⟩
    ·rw [if_neg eU] at h;exact .inl h
   ·exact .inr ⟨aaW _ h,h'⟩
 |xv f ty ei hp ht ih=>
  intro eZ vs hl m0;obtain ⟨v,u,rfl,h1,h2⟩:=hl;obtain ⟨cs,m1,g1,g2,g3⟩:=ih eZ h2 (bR m0 f ⟨ty,ei,[]⟩);have rX:(f,0)∈psF:=eZ _ ((show∀{ps kl:List (Nat×Nat)} {ks:List LK} {ls:List aE} {ms:List MV},TC st ps ks ls ms kl-> ∀p∈ps,p∈kl from by
   intro ps kl ks ls ms h;induction h with
   |nil=>exact λ_ h=>h
   |NF _ ih=>exact ih
   |hs _ _ ih=>exact ih
   |p _ _ _ _ _ ih=>exact ih
   |own _ _ _ _ _ _ _ _ _ _ _ ih=>exact λp hm=>ih p (by simp [hm])
   |xv _ _ _ _ _ ih=>exact λp hm=>ih p (by simp [hm])) ht _ (by simp))
  have h1:v=[.slice none 0 0]:=h1;subst h1;refine ⟨.own f::cs,m1,λK rest=> ?_,λe2 q1 q2 q3=>⟨_,u,rfl,⟨_,rfl,rfl,λo2 _=> ?_⟩,g2 e2 q1 q2 q3⟩,λf2 o2 h=> ?_⟩
  ·simp only [cQ,gC,abN,ll,gL,oV];exact g1 _ rest
  ·rw [q3 f,ND,AO zM rX]
  ·rcases g3 f2 o2 h with h|⟨h,h'⟩
   ·rw [bm] at h;by_cases eU:f2=f
    ·subst eU;simp only [if_true,AT] at h;subst h;exact .inr ⟨by simp,.inr ⟨rX,rfl⟩⟩
    ·rw [if_neg eU] at h;exact .inl h
   ·exact .inr ⟨aaW _ h,h'⟩
theorem YS {c:Ctx}{ks:List LK}(h:iL c ks=true): ∀f ty ei,LK.own f ty ei∈ks-> ∃I,c.ti ty=some I/\I.ct=[]:=by
 induction ks with
 |nil=>intro f ty ei hm;simp at hm
 |cons k ks ih=>
  intro f ty ei hm;cases k with
  |k x=>
   simp only [iL] at h;rcases bN.1 hm with hm|hm
   ·cases hm
   ·exact ih h f ty ei hm
  |own f' ty' an0=>
   simp only [iL] at h;cases hI:c.tv ty' with
   |none=>simp [hI] at h
   |some I=>
    simp only [hI] at h;rcases bN.1 hm with hm|hm
    ·cases hm;exact ⟨I,bj hI⟩
    ·exact ih h f ty ei hm
section
variable {P:Program}{c:Ctx}{Z:bC} {Z':Nat->Prop} {e e':Env}{st bY:St}{a:Act} {w w':World}{R:Type}{K:St->Option R}{r:R}{Q:Exit->Act->World->Prop}{o:Oper}{root:Nat}{cs:List aE}{ks:List LK}{ls:List MV}{ps:List (Nat×Nat)}
def gone (e:Env)(root:Nat)(ps:List (Nat×Nat))(b:Nat):Prop:=b=e.B root\/ ∃x g,(x,g+1)∈ps/\(e.E g).ownBlock=some b
theorem gf.wide {Z Z2:Nat->Prop} {φ:Ph}{a8:Nat}(h:gf c Z φ w a8 ks ls)(hz: ∀b,Z b->Z2 b):gf c Z2 φ w a8 ks ls:=by obtain ⟨cs,m,E,arr,T,h1,h2,h3,h4,h5,h6,h7⟩:=h;refine ⟨cs,m,E,arr,T,h1,h2,hz _ h3,h4,h5,λf o ho=>⟨?_,(h6 f o ho).2⟩,h7⟩;obtain ⟨I,cells,g1,g2,g3,g4,g5⟩:=(h6 f o ho).1.row;exact ⟨I,cells,g1,g2,g3,g4,λb hb=>⟨hz _ (g5 b hb).1,(g5 b hb).2⟩⟩
theorem Hv (h:bS c Z e st a w)(hf:aq st.fr root= .box cs)(hm:eT cs=false)(iJ:iL c ks=true)(ht:TC st [] ks cs ls ps):gf c (gone e root ps) e.φ w (e.B root) ks ls:=by
 have hs:=h.slot root;rw [hf] at hs;obtain ⟨arr,T,cz,pI⟩:=hs.2.cells hm;obtain ⟨zM,_⟩:=ht.ps .nil;obtain ⟨yT,m1,g1,g2,g3⟩:=acG zM ht h.m (λp hp=>hp) pI [];have hl:=g2 ⟨c.key,e.φ,ND e.E ps,λ_=>e.B root,m1⟩ h.key.symm rfl (λ_=>rfl);have hE: ∀{f g:Nat},(f,g+1)∈ps->ND e.E ps f=e.E g:=λhm=>by rw [ND,AO zM hm]
 have hE0: ∀{f:Nat},(f,0)∈ps->ND e.E ps f= .slice none 0 0:=λhm=>by rw [ND,AO zM hm]
 have zQ: ∀f o,aI m1 f=some o->ajw st ps ks f o:=λf o ho=>(g3 f o ho).resolve_left (by simp [aI]);refine ⟨yT,m1,ND e.E ps,arr,T,?_,cz,.inl rfl,hs.2.free,hl,λf o ho=> ?_,λf f' o o' k ho B1 hk hk'=> ?_⟩
 ·have:=g1 (λcs rest st=>gN rest (some (cs,st.aP))) [];rw [agn] at this;exact this
 ·obtain ⟨hk,zn|⟨hp,hx⟩⟩:=zQ f o ho
  ·obtain ⟨g,o3,hp,Tv,ajy,XC,an1,zJ⟩:=zn;obtain ⟨I,cells,q1,q2,q3,q4,q5⟩:=(h.iK g o3 Tv).row;refine ⟨⟨I,cells,by rw [<-ajy];exact q1,q2,by rw [<-ajy,<-XC,hE hp];exact q3,by rw [<-XC];show aX c.key e.φ _ _ _;rw [<-h.key];exact q4,λb hb=>⟨.inr ⟨f,g,hp,by rw [<-hE hp];exact hb⟩,λoff u hu=> ?_,λhc=>hc.elim⟩⟩,?_⟩
   ·obtain ⟨k1,k2⟩:=(q5 b (by rw [<-hE hp];exact hb)).2.1 off u hu;exact ⟨an1 k1,by rw [<-XC];exact k2⟩
   ·rw [hE hp];exact h.bf root cs g o3 hf Tv
  ·obtain ⟨I,hI,Q5⟩:=YS iJ f o.ty o.ei hk;refine ⟨⟨I,[],hI,Q5,⟨by rw [hx];simp,.inl ⟨by rw [hE0 hp],by rw [hx];rfl⟩⟩,by rw [hx];rfl,λb hb=> ?_⟩,?_⟩
   ·rw [hE0 hp] at hb;simp [AS] at hb
   ·rw [hE0 hp];simp [AS]
 ·obtain ⟨_,zn|⟨hp,_⟩⟩:=zQ f o ho
  ·obtain ⟨g,o3,hp,Tv,_⟩:=zn;obtain ⟨_,Lv|⟨Nl,_⟩⟩:=zQ f' o' B1
   ·obtain ⟨g',o3',Nl,an2,_⟩:=Lv;rw [hE hp] at hk;rw [hE Nl] at hk';have:=h.ff g g' o3 o3' k Tv an2 hk hk';subst this;exact zM.inj _ _ _ hp Nl
   ·rw [hE0 Nl] at hk';simp [AS] at hk'
  ·rw [hE0 hp] at hk;simp [AS] at hk
theorem TC.aP (ht:TC st [] ks cs ls ps): ∀x g,(x,g+1)∈ps-> ∃o,aI st.aP g=some o/\g∉st.cy:=by
 have key: ∀{ps0 ps:List (Nat×Nat)} {ks:List LK} {cs:List aE} {ls:List MV},TC st ps0 ks cs ls ps-> ∀x g,(x,g+1)∈ps->(x,g+1)∈ps0\/ ∃o,aI st.aP g=some o/\g∉st.cy:=by
  intro ps0 ps ks cs ls h;induction h with
  |nil=>exact λx g hm=> .inl hm
  |NF _ ih=>exact ih
  |hs _ _ ih=>exact ih
  |p _ _ _ _ _ ih=>exact ih
  |own f ty ei g0 o ho _ _ hg _ _ ih=>
   intro x g hm;rcases ih x g hm with h|h
   ·rcases bN.1 h with h|h
    ·simp only [aa6,aci] at h;obtain ⟨rfl,rfl⟩:=h;exact .inr ⟨o,ho,hg⟩
    ·exact .inl h
   ·exact .inr h
  |xv f ty ei _ _ ih=>
   intro x g hm;rcases ih x g hm with h|h
   ·rcases bN.1 h with h|h
    ·simp at h
    ·exact .inl h
   ·exact .inr h
 intro x g hm;exact (key ht x g hm).resolve_left (by simp)
def kP (gs:List Nat)(m:List (Nat×oM)):List (Nat×oM):=m.filter λp=>!bx gs p.1
theorem Ps (gs:List Nat)(m:List (Nat×oM))(K:List (Nat×oM)->Option R):OZ gs m K=K (kP gs m):=by
 induction m generalizing K with
 |nil=>rfl
 |cons p m ih=>obtain ⟨k,o⟩:=p;simp only [OZ,kP,agb];cases bx gs k<;>simp [ih,kP]
theorem Hw (gs:List Nat)(m:List (Nat×oM))(f:Nat):aI (kP gs m) f=if bx gs f then none else aI m f:=by
 induction m with
 |nil=>simp [kP,aI]
 |cons p m ih=>
  obtain ⟨k,o⟩:=p;simp only [kP,agb] at ih⊢;cases hk:bx gs k with
  |true=>
   simp only [afy,abP,if_false,ih,aI,fm];by_cases hkf:k=f
   ·subst hkf;simp [hk]
   ·simp [hkf]
  |false=>
   simp only [Bool.not_false,if_true,aI,fm];by_cases hkf:k=f
   ·subst hkf;simp [hk]
   ·simp only [hkf,decide_false,cond_false];exact ih
def nq (fs:List Nat)(r:Fr):Fr:=fs.foldl (λr f=>lM f r) r
def CY (fs:List Nat)(s:Slot):Slot:=fs.foldl (λs f=>AJ f s) s
theorem TP (fs:List Nat)(r:Fr)(K:Fr->Option R):ab4 fs r K=K (nq fs r):=by
 induction fs generalizing r with
 |nil=>rfl
 |cons f fs ih=>simp only [ab4,X9];exact ih _
theorem Hx (fs:List Nat)(r:Fr)(t:Nat):aq (nq fs r) t=CY fs (aq r t):=by
 induction fs generalizing r with
 |nil=>rfl
 |cons f fs ih=>show aq (nq fs (lM f r)) t=CY fs (AJ f (aq r t));rw [ih,gU]
theorem Hy (fs:List Nat)(r:Fr):aN (nq fs r)=aN r:=by
 induction fs generalizing r with
 |nil=>rfl
 |cons f fs ih=>show aN (nq fs (lM f r))=_;rw [ih];simp [aN,lM]
theorem ab.aff {v:Value}{s:Slot}(fs:List Nat)(h:ab e v s):ab e v (CY fs s):=by
 induction fs generalizing s with
 |nil=>exact h
 |cons f fs ih=>exact ih (h.kill f)
theorem CZ {S:Nat->Prop}(f:Nat){l:aE}(h:jB S l):jB (λg=>S g/\g≠f) (Nc f l):=by intro g hg;refine ⟨?_,Ec f l g hg⟩;cases l<;>simp [Nc] at hg;rename_i g';cases hb:IT g' f<;>simp [hb] at hg;subst hg;exact h _ rfl
theorem YT {S T:Nat->Prop}(f:Nat){s:Slot}(h:fF S T s):fF (λg=>S g/\g≠f) T (AJ f s):=by
 cases s with
 |sc l=>exact CZ f h
 |ag cs=>intro l hl;obtain ⟨x,hx,rfl⟩:=abW.1 hl;exact CZ f (h x hx)
 |tg cs=>intro l hl;obtain ⟨x,hx,rfl⟩:=abW.1 hl;exact CZ f (h x hx)
 |ep g i o b cs=>
  simp only [AJ];cases hb:IT g f
  ·simp only [cond_false,fF];refine ⟨h,λe=> ?_⟩;subst e;simp [fm] at hb
  ·simp only [cond_true,fF];intro g' hg';cases hg'
 |box cs=>trivial
 |_=>exact h
theorem TQ {S T:Nat->Prop}(fs:List Nat){s:Slot}(h:fF S T s):fF (λg=>S g/\g∉fs) T (CY fs s):=by
 induction fs generalizing S s with
 |nil=>
  have:(λg=>S g/\g∉([]:List Nat))=S:=by funext g;simp
  rw [this];exact h
 |cons f fs ih=>
  have h2:=ih (YT f h);have:(λg=>(S g/\g≠f)/\g∉fs)=(λg=>S g/\g∉f::fs):=by funext g;simp [and_assoc]
  rw [<-this];exact h2
def YU (fs:List Nat)(cs:List aE):List aE:=fs.foldl (λcs f=>cs.map (Nc f)) cs
theorem Pt (fs:List Nat)(cs:List aE):CY fs (.box cs)= .box (YU fs cs):=by
 induction fs generalizing cs with
 |nil=>rfl
 |cons f fs ih=>exact ih _
theorem uM (fs:List Nat){s:Slot}{ds:List aE}(h:CY fs s= .box ds): ∃cs,s= .box cs/\ds=YU fs cs:=by
 induction fs generalizing s with
 |nil=>exact ⟨ds,h,rfl⟩
 |cons f fs ih=>
  obtain ⟨cs,h1,h2⟩:=ih (s:=AJ f s) h;cases s<;>simp only [AJ] at h1<;>first|(cases h1;done)|skip
  ·rename_i Ge;simp only [Slot.box.injEq] at h1;exact ⟨Ge,rfl,by rw [h2,<-h1];rfl⟩
  ·rename_i g i o b c0;cases hb:IT g f<;>simp [hb] at h1
theorem Pu {fs:List Nat}{o:Obj}{cs:List aE}(h:kr e o cs):kr e o (YU fs cs):=by
 induction fs generalizing cs with
 |nil=>exact h
 |cons f fs ih=>exact ih (h.map (λ_ _=>aM.kill f) (λ_ _=>rfl))
theorem TR {S:Nat->Prop}(fs:List Nat){cs:List aE}(h: ∀l∈cs,jB S l): ∀l∈YU fs cs,jB (λg=>S g/\g∉fs) l:=by
 induction fs generalizing S cs with
 |nil=>
  have:(λg=>S g/\g∉([]:List Nat))=S:=by funext g;simp
  rw [this];exact h
 |cons f fs ih=>
  have h2:=ih (S:=λg=>S g/\g≠f) (cs:=cs.map (Nc f)) (λl hl=>by obtain ⟨x,hx,rfl⟩:=abW.1 hl;exact CZ f (h x hx));have:(λg=>(S g/\g≠f)/\g∉fs)=(λg=>S g/\g∉f::fs):=by funext g;simp [and_assoc]
  rw [<-this];exact h2
theorem LL (fs:List Nat)(cs:List aE):lO (YU fs cs)=lO cs:=by
 induction fs generalizing cs with
 |nil=>rfl
 |cons f fs ih=>exact (ih _).trans (Rx f cs)
theorem Hz {fs:List Nat}{m:List (Nat×oM)}(h:Lj fs m=false): ∀f∈fs,aI m f=none:=by
 induction fs with
 |nil=>simp
 |cons f fs ih=>
  intro g hg;unfold Lj at h;cases ho:aI m f with
  |some o=>simp [ho] at h
  |none=>
   simp only [ho] at h;rcases bN.1 hg with rfl|hg
   ·exact ho
   ·exact ih h g hg
theorem HA {l k:List Nat}(h:meets l k=false): ∀f∈l,f∉k:=by
 induction l with
 |nil=>simp
 |cons x l ih=>
  intro g hg;unfold meets at h;cases hx:bx k x with
  |true=>simp [hx] at h
  |false=>
   simp only [hx,cond_false] at h;rcases bN.1 hg with rfl|hg
   ·intro hm;rw [(bu k g).2 hm] at hx;cases hx
   ·exact ih h g hg
theorem Fp {ps:List (Nat×Nat)}{g:Nat}:g∈eB ps↔ ∃x,(x,g+1)∈ps:=by
 induction ps with
 |nil=>simp [eB]
 |cons p ps ih=>
  obtain ⟨x,y⟩:=p;cases y with
  |zero=>
   simp only [eB,ih];constructor
   ·rintro ⟨z,hz⟩;exact ⟨z,by simp [hz]⟩
   ·rintro ⟨z,hz⟩;rcases bN.1 hz with hz|hz
    ·simp at hz
    ·exact ⟨z,hz⟩
  |succ y=>
   simp only [eB,bN,ih];constructor
   ·rintro (rfl|⟨z,hz⟩)
    ·exact ⟨x,by simp⟩
    ·exact ⟨z,by simp [hz]⟩
   ·rintro ⟨z,hz⟩;rcases hz with hz|hz
    ·simp only [aa6,aci] at hz;exact .inl hz.2
    ·exact .inr ⟨z,hz⟩
theorem km {ks:List LK}: ∀{R:Type} {r:R} {st:St} {ms:List MV} {K':List aE->List MV->St->Option R},cQ st ks ms K'=some r-> ∃cs rest bY,(∀{R':Type} (K2:List aE->List MV->St->Option R'),cQ st ks ms K2=K2 cs rest bY)/\K' cs rest bY=some r:=by
 induction ks with
 |nil=>intro R r st ms K' h;exact ⟨[],ms,st,λ_=>rfl,h⟩
 |cons k ks ih=>
  intro R r st ms K' h;cases ms with
  |nil=>simp [cQ,gC] at h
  |cons m ms=>
   simp only [cQ,gC] at h;cases k with
   |k x=>simp only [ll] at h;obtain ⟨l,h0,h⟩:=AP h;obtain ⟨cs,rest,bY,h1,h⟩:=ih h;refine ⟨l::cs,rest,bY,λK2=> ?_,h⟩;simp only [cQ,gC,ll,Hu h0];exact h1 _
   |own f ty ei=>
    unfold ll gL at h;cases m<;>simp only at h<;>try (cases h;done)
    rename_i xs;obtain ⟨p,q,fr,n⟩:=st;simp only [oV] at h;obtain ⟨cs,rest,bY,h1,h⟩:=ih h;refine ⟨.own f::cs,rest,bY,λK2=> ?_,h⟩;simp only [cQ,gC,ll,gL,oV];exact h1 _
theorem LM (m n:List (Nat×oM))(f:Nat):aI (m++n) f=match aI m f with|some o=>some o|none=>aI n f:=by
 induction m with
 |nil=>rfl
 |cons p m ih=>obtain ⟨k,o⟩:=p;simp only [abN,aI,fm];by_cases h:k=f<;>simp [h,ih]
theorem C0 {ks:List LK}: ∀{st:St} {ms:List MV} {cs:List aE} {rest:List MV} {bY:St},(∀{R':Type} (K2:List aE->List MV->St->Option R'),cQ st ks ms K2=K2 cs rest bY)-> ∀f o,aI bY.aP f=some o->aI st.aP f=some o\/f∈bt ks:=by
 induction ks with
 |nil=>intro st ms cs rest bY h f o ho;have:=h (λa b c=>some c);simp only [cQ,AT] at this;subst this;exact .inl ho
 |cons k ks ih=>
  intro st ms cs rest bY h f o ho;have h0:=h (λa b c=>some (a,b,c));obtain ⟨yT,aqv,eg,h1,h2⟩:=km h0;clear h1;cases ms with
  |nil=>simp [cQ,gC] at h0
  |cons m ms=>
   cases k with
   |k x=>simp only [cQ,gC,ll] at h0;obtain ⟨l,h3,h4⟩:=AP h0;obtain ⟨ur,YV,oP,h5,h6⟩:=km h4;simp only [AT,aa6] at h6;obtain ⟨_,_,rfl⟩:=h6;exact ih h5 f o ho
   |own f' ty ei=>
    simp only [cQ,gC] at h0;unfold ll gL at h0;cases m<;>simp only at h0<;>try (cases h0;done)
    rename_i xs;obtain ⟨p,q,fr,n⟩:=st;simp only [oV] at h0;obtain ⟨ur,YV,oP,h5,h6⟩:=km h0;simp only [AT,aa6] at h6;obtain ⟨_,_,rfl⟩:=h6;rcases ih h5 f o ho with h7|h7
    ·have h7:aI (bR n f' ⟨ty,ei,xs⟩) f=some o:=h7;rw [bm] at h7;by_cases eU:f=f'
     ·subst eU;exact .inr (by simp [bt])
     ·rw [if_neg eU] at h7;exact .inl h7
    ·exact .inr (by simp [bt,h7])
end
end Dn
/-
  Calls that are handed a variable. Conditions: none.
-/
namespace Dn
open Go
theorem zR {ks:List LK}: ∀{st:St} {ms:List MV} {cs:List aE} {rest:List MV} {bY:St},(∀{R':Type} (K2:List aE->List MV->St->Option R'),cQ st ks ms K2=K2 cs rest bY)-> ∀l∈cs,jB (λf=>f∈bt ks) l:=by
 induction ks with
 |nil=>intro st ms cs rest bY h l hl;have:=h (λa b c=>some a);simp only [cQ,AT] at this;subst this;simp at hl
 |cons k ks ih=>
  intro st ms cs rest bY h l hl;have h0:=h (λa b c=>some (a,b,c));cases ms with
  |nil=>simp [cQ,gC] at h0
  |cons m ms=>
   cases k with
   |k x=>
    simp only [cQ,gC,ll] at h0;obtain ⟨l0,h3,h4⟩:=AP h0;obtain ⟨ur,YV,oP,h5,h6⟩:=km h4;simp only [AT,aa6] at h6;obtain ⟨rfl,_,_⟩:=h6;rcases bN.1 hl with rfl|hl
    ·obtain ⟨l2,hs,hk⟩:=nW (e:=⟨λn=>n,λ_ _=>none,λ_=>undef,λ_=>0,[]⟩) (vs:=[]) h3;cases hk;exact Hg hs.Xx
    ·exact ih h5 l hl
   |own f' ty ei=>
    simp only [cQ,gC] at h0;unfold ll gL at h0;cases m<;>simp only at h0<;>try (cases h0;done)
    rename_i xs;obtain ⟨p,q,fr,n⟩:=st;simp only [oV] at h0;obtain ⟨ur,YV,oP,h5,h6⟩:=km h0;simp only [AT,aa6] at h6;obtain ⟨rfl,_,_⟩:=h6;rcases bN.1 hl with rfl|hl
    ·intro f hf;cases hf;simp [bt]
    ·intro f hf;have:=ih h5 l hl f hf;simp [bt,this]
section
variable {P:Program}{c:Ctx}{Z:bC} {Z':Nat->Prop} {e e':Env}{st bY:St}{a:Act} {w w':World}{R:Type}{K:St->Option R}{r:R}{Q:Exit->Act->World->Prop}{o:Oper}{root:Nat}{cs:List aE}{ks:List LK}{ls outs:List MV}{ps:List (Nat×Nat)} {φ':Ph}
theorem Fq {fr:Fr}(fs:List Nat){s:Slot}(h:cC fr s):cC fr (CY fs s):=by
 induction fs generalizing s with
 |nil=>exact h
 |cons f fs ih=>
  refine ih ?_;cases s with
  |ep g i o b cs=>simp only [AJ];cases IT g f<;>trivial
  |ptr=>exact h
  |hp=>exact h
  |zq=>exact h
  |_=>trivial
theorem HB (fs:List Nat){s:Slot}(h:cV s=true):cV (CY fs s)=true:=by
 induction fs generalizing s with
 |nil=>exact h
 |cons f fs ih=>refine ih (s:=AJ f s) ?_;rw [Ei];exact h
theorem C1 (h:bS c Z e st a w)(hf:aq st.fr root= .box cs)(hr:bx st.cA root=false)(ht:TC st [] ks cs ls ps): ∀b,gone e root ps b->Z.In b:=by
 have hs:=h.slot root;rw [hf] at hs;intro b hb;rcases hb with rfl|⟨x,g,hp,hb⟩
 ·exact OJ hs.2.ch (by rw [<-h.defers.2.1,<-bu,hr];simp)
 ·obtain ⟨o,ho,hg⟩:=ht.aP x g hp;obtain ⟨I,cells,_,_,_,_,h5⟩:=(h.iK g o ho).row;exact OJ (h5 b hb).1 (by rw [<-h.defers.2.2.1];exact hg)
theorem YW (h:bS c Z e st a w)(hf:aq st.fr root= .box cs)(hm:eT cs=false)(hr:bx st.cA root=false)(ht:TC st [] ks cs ls ps)(hZ: ∀b,Z' b↔w.heap.size<=b\/gone e root ps b)(wj:Trans Z' e.φ w φ' w')(hi:oS φ' w')(hc:gf c Z' φ' w' (e.B root) ks outs)(hK:Lk st root ks ps outs K=some r): ∃e' bY,bS c Z e' bY a w'/\e'.φ=φ'/\K bY=some r:=by
 unfold Lk at hK;obtain ⟨yT,rest,AG,g1,hK⟩:=km hK;cases rest with
 |cons=>simp [gN] at hK
 |nil=>
 simp only [gN,Ps] at hK;cases mP:Lj (bt ks) (kP (eB ps) st.aP)||meets (bt ks) st.cy with
 |true=>simp [mP] at hK
 |false=>
 simp only [mP,cond_false,TP,mB,xg] at hK;obtain ⟨RU,HC⟩:=BY.1 mP;have RU:=Hz RU;have HC:=HA HC;obtain ⟨ur,m3,E,arr,T,zS,cz,hzb,ou,pI,gd,eU⟩:=hc;have jK:ur=yT/\m3=AG.aP:=by unfold LC at zS;rw [g1] at zS;simp only [gN,AT,aa6] at zS;exact ⟨zS.1.symm,zS.2.symm⟩
 obtain ⟨rfl,rfl⟩:=jK;have dn:=zR g1;have eZ: ∀f o,aI AG.aP f=some o->f∈bt ks:=λf o ho=>(C0 g1 f o ho).resolve_left (by simp [aI]);have hs:=h.slot root;rw [hf] at hs;have rX: ∀b,Z' b->Z.In b:=by
  intro b hb;rcases (hZ b).1 hb with hb|hb
  ·exact h.ch b hb
  ·exact C1 h hf hr ht b hb
 have Pv: ∀t fU,aq st.fr t= .box fU->t≠root-> ¬Z' (e.B t):=by
  intro t fU YX cR hz;rcases (hZ _).1 hz with hz|hz|⟨x,g,hp,hz⟩
  ·have:=xt h YX;omega
  ·exact h.bb t root fU cs YX hf cR hz
  ·obtain ⟨o,ho,_⟩:=ht.aP x g hp;exact h.bf t fU g o YX ho hz
 have hold: ∀f o,aI (kP (eB ps) st.aP) f=some o->aI st.aP f=some o/\f∉eB ps:=by
  intro f o ho;rw [Hw] at ho;cases hn:bx (eB ps) f with
  |true=>simp [hn] at ho
  |false=>simp only [hn,abP,if_false] at ho;exact ⟨ho,λhm=>by rw [(bu _ _).2 hm] at hn;cases hn⟩
 have Fs: ∀f o b,aI (kP (eB ps) st.aP) f=some o->(e.E f).ownBlock=some b-> ¬Z' b:=by
  intro f o b ho hb hz;obtain ⟨B1,hnf⟩:=hold f o ho;rcases (hZ _).1 hz with hz|hz|⟨x,g,hp,hz⟩
  ·have:=xu h B1 hb;omega
  ·exact h.bf root cs f o hf B1 (by rw [hb,hz])
  ·obtain ⟨o2,cB,_⟩:=ht.aP x g hp;have:=h.ff f g o o2 b B1 cB hb hz;subst this;exact hnf (Fp.2 ⟨x,hp⟩)
 let E2:Nat->Value:=λf=>if bx (bt ks) f=true then E f else e.E f
 have v7: ∀f,f∈bt ks->E2 f=E f:=λf hf=>by show (if _ then _ else _)=_;rw [if_pos ((bu _ _).2 hf)]
 have OO: ∀f,f∉bt ks->E2 f=e.E f:=λf hf=>by show (if _ then _ else _)=_;rw [if_neg (λhq=>hf ((bu _ _).1 hq))]
 have oN: ∀f o,aI (AG.aP++kP (eB ps) st.aP) f=some o->(f∈bt ks/\aI AG.aP f=some o)\/(f∉bt ks/\aI (kP (eB ps) st.aP) f=some o):=by
  intro f o ho;rw [LM] at ho;cases hq:aI AG.aP f with
  |some o2=>simp only [hq,AT] at ho;exact .inl ⟨eZ f o2 hq,by rw [ho]⟩
  |none=>simp only [hq] at ho;refine .inr ⟨λhm=> ?_,ho⟩;rw [RU f hm] at ho;cases ho
 let e2:Env:=⟨e.key,φ',E2,e.B,AG.aP++kP (eB ps) st.aP⟩
 have rS:ki (λg=>True/\g∉bt ks) (λ_=>True) e e2:=by
  refine ⟨rfl,wj.ph,λ_ _=>rfl,λf o' B1 hS=> ?_⟩;rcases oN f o' B1 with ⟨h1,_⟩|⟨h1,h2⟩
  ·exact absurd h1 hS.2
  ·exact ⟨o',by rw [h.m];exact (hold f o' h2).1,OO f h1,rfl⟩
 have YY:av e2 arr.toList ur:=by
  have agB:ki (λf=>f∈bt ks) (λ_=>True) ⟨c.key,φ',E,λ_=>e.B root,AG.aP⟩ ⟨c.key,φ',E2,λ_=>e.B root,AG.aP++kP (eB ps) st.aP⟩:=by
   refine ⟨rfl,.refl _,λ_ _=>rfl,λf o' B1 hS=> ?_⟩;rcases oN f o' B1 with ⟨h1,h2⟩|⟨h1,_⟩
   ·exact ⟨o',h2,v7 f h1,rfl⟩
   ·exact absurd hS h1
  have h1:=pI.on agB dn;have agC:ki (λ_=>True) (λ_=>False) ⟨c.key,φ',E2,λ_=>e.B root,AG.aP++kP (eB ps) st.aP⟩ e2:=⟨h.key,.refl _,λ_ h=>h.elim,λf o ho _=>⟨o,ho,rfl,rfl⟩⟩
  exact h1.on agC (λ_ _ _ _=>trivial)
 have hm3:eT ur=false:=YY.zH;have Pw: ∀t,aq (cj (nq (bt ks) st.fr) root (.box ur)) t=if t=root then .box ur else CY (bt ks) (aq st.fr t):=λt=>by rw [bL,Hx]
 have vz: ∀t ds,aq (cj (nq (bt ks) st.fr) root (.box ur)) t= .box ds-> ∃ds0,aq st.fr t= .box ds0:=by
  intro t ds hb;rw [Pw] at hb;by_cases wj:t=root
  ·exact ⟨cs,by rw [wj];exact hf⟩
  ·rw [if_neg wj] at hb;obtain ⟨d0,h1,_⟩:=uM _ hb;exact ⟨d0,h1⟩
 refine ⟨e2,⟨st.cA,st.cy,cj (nq (bt ks) st.fr) root (.box ur),AG.aP++kP (eB ps) st.aP⟩,⟨h.defers,h.size,rfl,h.key,?_,?_,?_,?_,?_,?_,?_,hi,λb hb=>h.ch b (acu wj.size hb)⟩,rfl,hK⟩
 ·show (aN (cj (nq (bt ks) st.fr) root (.box ur))).Nodup;refine ej ?_;rw [Hy];exact h.nodup
 ·intro t;show bW Z e2 w' t _ (aq (cj (nq (bt ks) st.fr) root (.box ur)) t);rw [Pw];by_cases sW:t=root
  ·subst sW;rw [if_pos rfl];exact ⟨hs.1.lO (by rw [xk hm,xk hm3]),hs.2.ch,⟨_,cz,rfl,YY⟩,ou⟩
  ·rw [if_neg sW];have dK:=h.slot t;have hnb:=Pv t;generalize aq st.fr t=s at dK hnb;by_cases Eh: ∃ds,s= .box ds
   ·obtain ⟨ds,rfl⟩:=Eh;rw [Pt];have hz:=hnb ds rfl sW;obtain ⟨o2,h1,h2⟩:=dK.2.obj;refine ⟨dK.1.lO (LL _ _),dK.2.ch,⟨o2,by show w'.heap[e.B t]? =_;rw [wj.heap _ hz (aZ h1)];exact h1,?_⟩,λoff=>by show φ' (e.B t) off=none;rw [wj.free _ off hz];exact dK.2.free off⟩;exact (Pu h2).on rS (TR _ (λl _ f _=>trivial))
   ·have agD:ab e (a.tmps.getD t undef) s:=by cases s<;>simp only [bW] at dK<;>first|exact dK|exact absurd ⟨_,rfl⟩ Eh
    have h2:=(agD.aff (bt ks)).on rS (TQ _ (dH s));have YZ: ∀ds,CY (bt ks) s≠ .box ds:=λds hq=>by obtain ⟨d0,h1,_⟩:=uM _ hq;exact Eh ⟨d0,h1⟩
    generalize CY (bt ks) s=s2 at h2 YZ;cases s2<;>first|exact h2|exact absurd rfl (YZ _)
 ·intro t;show cC (cj (nq (bt ks) st.fr) root (.box ur)) (aq (cj (nq (bt ks) st.fr) root (.box ur)) t);have YC: ∀q,cV (aq st.fr q)=true->cV (aq (cj (nq (bt ks) st.fr) root (.box ur)) q)=true:=by
   intro q hq;rw [Pw];by_cases hqr:q=root
   ·rw [if_pos hqr];rfl
   ·rw [if_neg hqr];exact HB _ hq
  rw [Pw];by_cases sW:t=root
  ·rw [if_pos sW];trivial
  ·rw [if_neg sW];refine Fq _ ?_;have pN:=h.root t;generalize aq st.fr t=s at pN;cases s with
   |ptr q o=>exact YC q pN
   |hp q o i=>exact YC q pN
   |zq q=>exact YC q pN
   |_=>trivial
 ·intro f o ho;rcases oN f o ho with ⟨h1,h2⟩|⟨h1,h2⟩
  ·have hfm:=(gd f o h2).1;have zJ:f∉Z.cy:=by rw [<-h.defers.2.2.1];exact HC f h1
   refine cu.to ?_ zJ;obtain ⟨I,cells,q1,q2,q3,q4,q5⟩:=hfm.row;refine ⟨I,cells,q1,q2,?_,?_,λb hb=> ?_⟩
   ·show w'.ownsRow 0 o.ty I.size (E2 f) o.xs.length cells;rw [v7 f h1];exact q3
   ·show aX e.key φ' I.size cells o.xs;rw [h.key];exact q4
   ·have hb:(E2 f).ownBlock=some b:=hb;rw [v7 f h1] at hb;exact ⟨rX b (q5 b hb).1,(q5 b hb).2.1,λhc=>hc.elim⟩
  ·obtain ⟨B1,hnf⟩:=hold f o h2;obtain ⟨I,cells,q1,q2,q3,q4,q5⟩:=(h.iK f o B1).row;refine ⟨I,cells,q1,q2,?_,q4.mono wj.ph,?_⟩
   ·show w'.ownsRow 0 o.ty I.size (E2 f) o.xs.length cells;rw [OO f h1];refine ⟨q3.1,?_⟩;rcases q3.2 with h6|⟨g,cap,cY,k1,k2,k3,k4⟩
    ·exact .inl h6
    ·refine .inr ⟨g,cap,cY,k1,k2,?_,k4⟩;rw [wj.heap g (Fs f o g h2 (by rw [k1];rfl)) (aZ k3)];exact k3
   ·intro a8 hb;have hb:(E2 f).ownBlock=some a8:=hb;rw [OO f h1] at hb;refine ⟨(q5 a8 hb).1,λoff u hu=>(q5 a8 hb).2.1 off u ?_,λk1 k2 j hj=>wj.ph.AH ((q5 a8 hb).2.2 k1 k2 j hj) hj⟩;have hu:φ' a8 off=some u:=hu;rw [wj.free _ off (Fs f o a8 h2 hb)] at hu;exact hu
 ·intro t t' c1 c2 h1 h2 cR;obtain ⟨d1,k1⟩:=vz t c1 h1;obtain ⟨d2,k2⟩:=vz t' c2 h2;exact h.bb t t' d1 d2 k1 k2 cR
 ·intro t c1 f o h1 h2;show (E2 f).ownBlock≠some (e.B t);rcases oN f o h2 with ⟨k1,k2⟩|⟨k1,k2⟩
  ·rw [v7 f k1];by_cases sW:t=root
   ·rw [sW];exact (gd f o k2).2
   ·obtain ⟨d1,k3⟩:=vz t c1 h1;intro hq;obtain ⟨I,cells,_,_,_,_,q5⟩:=(gd f o k2).1.row;exact Pv t d1 k3 sW (q5 _ hq).1
  ·rw [OO f k1];obtain ⟨d1,k3⟩:=vz t c1 h1;exact h.bf t d1 f o k3 (hold f o k2).1
 ·intro f f' o o' k h1 h2 h3 h4;have h3:(E2 f).ownBlock=some k:=h3;have h4:(E2 f').ownBlock=some k:=h4;rcases oN f o h1 with ⟨k1,k2⟩|⟨k1,k2⟩<;>rcases oN f' o' h2 with ⟨k3,k4⟩|⟨k3,k4⟩
  ·rw [v7 f k1] at h3;rw [v7 f' k3] at h4;exact eU f f' o o' k k2 k4 h3 h4
  ·rw [v7 f k1] at h3;rw [OO f' k3] at h4;obtain ⟨I,cells,_,_,_,_,q5⟩:=(gd f o k2).1.row;exact absurd (q5 _ h3).1 (Fs f' o' k k4 h4)
  ·rw [OO f k1] at h3;rw [v7 f' k3] at h4;obtain ⟨I,cells,_,_,_,_,q5⟩:=(gd f' o' k4).1.row;exact absurd (q5 _ h4).1 (Fs f o k k2 h3)
  ·rw [OO f k1] at h3;rw [OO f' k3] at h4;exact h.ff f f' o o' k (hold f o k2).1 (hold f' o' k4).1 h3 h4
end
end Dn
/-
  The operation of a call that is handed a variable. Conditions: none.
-/
namespace Dn
open Go
section
variable {P:Program}{c:Ctx}{Z:bC} {Z':Nat->Prop} {e e':Env}{st bY:St}{a:Act} {w w':World}{R:Type}{K:St->Option R}{r:R}{Q:Exit->Act->World->Prop}{o:Oper}
theorem bg.length {key:Nat->Nat} {φ:Ph}{ms:List MV}: ∀{vs:List Value},bg key φ vs ms->vs.length=ms.length:=by
 induction ms with
 |nil=>intro vs h;cases h;rfl
 |cons m ms ih=>intro vs h;obtain ⟨v,u,rfl,_,h2⟩:=h;simp [ih h2]
theorem Px {cl:Call}{g:List MV->Option MV}{pos:Nat}{ks:List LK}{oI:Option TI}{gv:Bool}(hS:Sound P c)(OP:gv=true-> ∀ms x,g ms=some x-> ∃f:Nat,c.g (c.key f) ms=some x/\c.dA (c.key f)=true/\c.sig (c.key f)=some (pos,ks)/\(execOp a.eval o).run P w=(callFunc f (cl.args.map a.eval)).run P w)(h:bS c Z e st a w)(hK:Tq c gv g pos ks st (jM c st cl.args.toList) oI (λs st=>bn c st o.dst s K)=some r): gv=true/\o.wp P a w (λa' w'=>Out c Z K r e.φ w a' w') Q:=by
 unfold Tq at hK;obtain ⟨vs,yt⟩: ∃vs,vs=cl.args.toList.map a.eval:=⟨_,rfl⟩
 have hlen:vs.length=(jM c st cl.args.toList).length:=by rw [yt];simp [jD]
 have eK: ∀(i:Nat) (v:Value) (s:Slot),vs[i]? =some v->(jM c st cl.args.toList)[i]? =some s->ab e v s:=by rw [yt];exact bg.map h
 generalize jM c st cl.args.toList=ss at hK hlen eK;split at hK
 ·rename_i root off eD;have asz:pos<ss.length:=(abO.1 eD).1;obtain ⟨v,hv⟩: ∃v,vs[pos]? =some v:=⟨vs[pos]'(by omega),By (by omega)⟩
  have hvp:v= .pointer (some ⟨e.B root,off,none⟩):=eK pos v _ hv eD;have HD:vs=vs.take pos++v::vs.drop (pos+1):=by
   conv=>lhs;rw [<-ae8 pos vs]
   rw [List.drop_eq_getElem_cons (by omega)];have:=abO.1 hv;obtain ⟨_,Q4⟩:=this;rw [Q4]
  obtain ⟨e1,eJ,m1,h1,x1,Ef,r1,rU⟩:=rV h ⟨λ_=>vs.take pos,rfl,by simp only [agc];omega,λi u s hu hs=>by
   rw [adf] at hu hs;split at hu
   ·rename_i hi;rw [if_pos hi] at hs;exact eK i u s hu hs
   ·cases hu⟩ hK
  obtain ⟨e2,eg,m2,h2,x2,ack,r2,yV⟩:=rV h1 ⟨λ_=>vs.drop (pos+1),rfl,by simp only [List.length_drop];omega,λi u s hu hs=>by rw [afz] at hu hs;exact (eK _ u s hu hs).on x1.on (dH s)⟩ rU;split at yV
  ·rename_i cs hf;cases mP:eT cs||bx eg.cA root||!iL c ks||!gv with
   |true=>simp [mP] at yV
   |false=>
   simp only [mP,cond_false] at yV;simp only [BY,abZ] at mP;obtain ⟨⟨⟨hm,hr⟩,iJ⟩,hg⟩:=mP;obtain ⟨ls,ps,ht,Hq⟩:=B7 yV;simp only [xg] at Hq;obtain ⟨x,hx,hK4⟩:=oW Hq;unfold gW at hK4;split at hK4;rotate_left
   ·simp at hK4
   rename_i r0 outs;have hB:e2.B root=e.B root:=(x2.on.B root trivial).trans (x1.on.B root trivial);let Z2:Nat->Prop:=λb=>w.heap.size<=b\/gone e2 root ps b;have CE:m1.length=pos:=by rw [<-r1.length,agc];omega
   have ajA:e2.key=c.key:=h2.key;obtain ⟨f,hx,XF,xw,bF⟩:=OP hg _ _ hx;have dL:dS c Z2 e2.φ w (c.key f) vs (m1++ .cell (.func off ls)::m2):=by
    simp only [dS,XF,if_true];refine .inr (.inr ⟨pos,ks,off,ls,e2.B root,xw,by rw [hv,hvp,hB],by rw [ab8 (by omega),CE];simp,?_,(Hv h2 hf hm iJ ht).wide λb hb=> .inr hb⟩);rw [List.set_append_right _ _ (by omega),CE,Nat.sub_self,List.set_cons_zero,HD];refine bg.append ?_ ⟨v,vs.drop (pos+1),rfl,?_,?_⟩
    ·have:=r1.mono x2.on.φ;rw [h1.key] at this;exact this
    ·rw [hvp];exact ⟨rfl,.rp (e.B root) off [] [] .nil (by simp)⟩
    ·rw [<-ajA];exact r2
   have yv:=hS f _ _ hx e2.φ w Z2 vs (λb hb=> .inl hb) dL h2.kZ;refine ⟨hg,?_⟩;have Gg:vs.toArray=cl.args.map a.eval:=by rw [yt,<-acw,ac3]
   refine wi ?_ yv ?_
   ·rw [Gg];exact bF
   ·rintro v' w' ⟨φ',t1,t2,pK,pos',ks',a8,Rn,yu,Ry,hc⟩;rw [xw] at yu;simp only [AT,aa6] at yu;obtain ⟨rfl,rfl⟩:=yu;rw [hv,hvp] at Ry;simp only [AT,agS,Addr.mk.injEq] at Ry;have jI:a8=e2.B root:=by rw [<-Ry.1,hB]
    subst jI;obtain ⟨e3,oP,h3,hφ3,hK5⟩:=YW h2 hf hm hr ht (λb=>Iff.rfl) t1 t2 hc hK4;have wj:Trans Z e.φ w φ' w':=by
     have t0:Trans Z e2.φ w φ' w':=by have rX: ∀b,Z2 b->Z.In b:=λb hb=>hb.elim (h2.ch b) (C1 h2 hf hr ht b);exact ⟨t1.ph,λb hb=>t1.heap b (λhz=>hb (rX b hz)),λb o hb=>t1.free b o (λhz=>hb (rX b hz)),t1.size,t1.rest⟩
     exact (x1.tr.trans x2.tr).trans t0
    cases oI with
    |none=>simp only at hK5;obtain ⟨e4,st4,q1,q2,q3⟩:=cW (v:=v') (s:= .sc .un) h3 (.of (by simp [ab]) trivial) hK5;exact ⟨e4,st4,q1,by rw [q3,hφ3];exact wj,q2⟩
    |some I=>simp only at hK5;obtain ⟨s,g1,g2,hK6⟩:=xr (e:=e3) (st:=oP) h3.key (by rw [hφ3];exact pK) hK5;obtain ⟨e4,st4,q1,q2,q3⟩:=cW h3 (.of g1 g2) hK6;exact ⟨e4,st4,q1,by rw [q3,hφ3];exact wj,q2⟩
  ·simp at yV
 ·simp at hK
theorem acH {cl:Call}{f pos:Nat}{ks:List LK}{oI:Option TI}(hS:Sound P c)(xw:c.sig (c.key f)=some (pos,ks))(ho:o.op= .call cl)(oq:cl.callee= .value (.func f))(h:bS c Z e st a w)(hK:ae1 c (c.key f) pos ks st (jM c st cl.args.toList) oI (λs st=>bn c st o.dst s K)=some r): c.dA (c.key f)=true/\o.wp P a w (λa' w'=>Out c Z K r e.φ w a' w') Q:=Px hS (λhg ms x hx=>⟨f,hx,hg,xw,by simp [execOp,ho,resolve,oq,Act.eval,acC,invoke]⟩) h hK
theorem RV: ∀{l m:List LK},XW l m=true->l=m
 |[],[],_=>rfl
 | .k k1::r,.k k2::q,h=>by simp only [XW,sh] at h;rw [RV h.2];have h1:=h.1;cases k1<;>cases k2<;>simp [kdB,kB] at h1<;>first|rfl|(subst h1;rfl)
 | .own f t z::r,.own f' t' z'::q,h=>by simp only [XW,sh,fm,decide_eq_true_eq,beq_iff_eq] at h;obtain ⟨rfl,rfl,rfl,h⟩:=h;rw [RV h]
 |[],_::_,h=>by simp [XW] at h
 | .k _::_,[],h=>by simp [XW] at h
 | .k _::_,.own _ _ _::_,h=>by simp [XW] at h
 | .own _ _ _::_,[],h=>by simp [XW] at h
 | .own _ _ _::_,.k _::_,h=>by simp [XW] at h
theorem Y0 {pos:Nat}{ks:List LK}{l:List Nat}(h:O0 c pos ks l=true): ∀k∈l,c.sig k=some (pos,ks)/\c.dA k=true:=by
 induction l with
 |nil=>simp
 |cons x l ih=>
  simp only [O0,sh] at h;obtain ⟨h1,h2,h3⟩:=h;intro k hk;rcases bN.1 hk with rfl|hk
  ·refine ⟨?_,h2⟩;cases hs:c.sig k with
   |none=>rw [hs] at h1;cases h1
   |some sg=>rw [hs] at h1;simp only [sh] at h1;obtain ⟨p,q⟩:=sg;have e1:p=pos:=AI h1.1;have e2:q=ks:=RV h1.2;rw [e1,e2]
  ·exact ih h3 k hk
theorem agG {R:Type}{r:R}{l:List Nat}{k:Nat}{K:Nat->Option R}(h:Kr l k K=some r):k∈l/\K k=some r:=by
 induction l with
 |nil=>simp [Kr] at h
 |cons p l ih=>
  cases l with
  |nil=>
   unfold Kr at h;cases hb:IT k p with
   |false=>rw [hb] at h;cases h
   |true=>rw [hb] at h;have:=AI hb;subst this;exact ⟨by simp,h⟩
  |cons q l=>
   unfold Kr at h;cases hb:IT k p with
   |false=>rw [hb] at h;obtain ⟨h1,h2⟩:=ih h;exact ⟨aaW _ h1,h2⟩
   |true=>rw [hb] at h;have:=AI hb;subst this;exact ⟨by simp,h⟩
theorem acI {cl:Call}{x:Operand}{U4:List Nat}{oI:Option TI}(hS:Sound P c)(ho:o.op= .call cl)(oq:cl.callee= .value x)(h:bS c Z e st a w)(hK:XX c U4 st (aH c st x) (jM c st cl.args.toList) oI (λs st=>bn c st o.dst s K)=some r): o.wp P a w (λa' w'=>Out c Z K r e.φ w a' w') Q:=by
 obtain ⟨hx,_⟩:=h.eval x;generalize aH c st x=s at hx hK;unfold XX at hK;split at hK
 ·rename_i m k0 ajC;simp only [ab,aM] at hx;cases hs0:c.sig k0 with
  |none=>simp [hs0] at hK
  |some sg=>
  obtain ⟨pos,ks⟩:=sg;simp only [hs0] at hK;cases Eh:O0 c pos ks (k0::ajC) with
  |false=>simp [Eh] at hK
  |true=>
  simp only [Eh,cond_true] at hK;unfold OT at hK;split at hK
  ·rename_i f bV;cases bV with
   |cons=>simp [gN] at hK
   |nil=>
   simp only [gN] at hK;obtain ⟨f',cap,hv,B6,B4,jd⟩: ∃(f':Nat) (cap:Array Value),a.eval x= .func (.func f') #[] cap/\e.key f'=f/\ga e.key e.φ cap.toList []/\ ∀m∈([]:List MV),m.one=true:=by obtain ⟨_,hx⟩:=hx;generalize yt:[a.eval x]=vs at hx;cases hx;rename_i f' cap h1 h2 h3;exact ⟨f',cap,by simpa using yt,h1,h2,h3⟩
   have ajD:cap= #[]:=by generalize hl:cap.toList=l at B4;cases B4;exact abX.1 hl
   subst ajD;have LF:c.key f'=f:=by rw [<-h.key];exact B6
   exact (Px hS (λ_ ms y hy=>by obtain ⟨hm,hy⟩:=agG hy;obtain ⟨h1,h2⟩:=Y0 Eh f hm;refine ⟨f',by rw [LF];exact hy,by rw [LF];exact h2,by rw [LF];exact h1,?_⟩;simp [execOp,ho,resolve,oq,hv,acC,invoke]) h hK).2
  ·simp at hK
 ·simp at hK
end
end Dn
/-
  A string that becomes a row of bytes. Conditions: none.
-/
namespace Dn
open Go
section
variable {P:Program}{c:Ctx}{Z:bC} {e e':Env}{st:St}{a:Act} {w w':World}{R:Type}{K:St->Option R}{r:R}{Q:Exit->Act->World->Prop}{o:Oper}
theorem acJ {y t:Nat}(h:isLT c y=true):Rk c y t=false:=by
 unfold isLT at h;unfold Rk;cases hy:c.tv y with
 |none=>rfl
 |some Y=>
  rw [hy] at h;cases c.tv t with
  |none=>rfl
  |some I=>
   have h:Y.yr=true:=h;have:Y.Rf=false:=by unfold TI.yr at h;unfold TI.Rf;split at h<;>simp_all
   simp [this]
theorem ajE {y t:TypeId}{x:Operand}(ho:o.op= .convert y t x)(hb:Rk c y t=true)(hT:ia P c.ti)(h:bS c Z e st a w)(hK:(match aH c st x with| .sc (.p (.s l))=>bn c st o.dst (.sc (.p (.list (CG l)))) K|_=>none)=some r): o.wp P a w (λa' w'=>db w w'/\Out c Z K r e.φ w a' w') Q:=by
 unfold Rk at hb;split at hb;rotate_left
 ·cases hb
 rename_i Y I hY hI;split at hb;rotate_left
 ·simp at hb
 rename_i E hE;simp only [sh] at hb;obtain ⟨⟨sw,hL⟩,hU⟩:=hb;obtain ⟨hYi,_⟩:=bj hY;obtain ⟨lQ,hc⟩:=bj hI;obtain ⟨lN,om⟩:=bj hE;obtain ⟨hu,E2,v7,_,eD⟩:=TI.lm (hT t I lQ) hL;rw [lN] at v7;cases v7;have hd:=TI.Eg (hT y Y hYi) sw;obtain ⟨he,pJ⟩:=Nq (hT _ E lN) hU;obtain ⟨hx,_⟩:=h.eval x;split at hK;rotate_left
 ·cases hK
 rename_i l hxl;rw [hxl] at hx;obtain ⟨b,hb3,rfl⟩:=CQ hx;have Py:=run_bytes_of_string (P:=P) w y t I.elem b hd hu he;obtain ⟨C,hC⟩: ∃C,C=grownCap w b.size 0 I.elem:=⟨_,rfl⟩
 rw [<-hC] at Py;obtain ⟨W,hW⟩: ∃W,W=w.drew.alloc (.cells (bytesRow b C) I.elem ((bytesRow b C).size,(bytesRow b C).size+1)):=⟨_,rfl⟩
 rw [<-hW] at Py;have bF:(execOp a.eval o).run P w= .ok (.value (.slice (some ⟨w.heap.size,0,none⟩) b.size C)) W:=by simp [execOp,ho,hb3,Py]
 have jC:W.heap[w.heap.size]? =some (.cells (bytesRow b C) I.elem ((bytesRow b C).size,(bytesRow b C).size+1)):=by rw [hW];exact iy w.drew _
 have hg:db w W:=by rw [hW];exact ⟨by simp,λk hk=>rR w.drew _ k hk,⟨rfl,rfl,rfl⟩⟩
 have Fk: ∀off,e.φ w.heap.size off=none:=by
  intro off;cases hp:e.φ w.heap.size off with
  |none=>rfl
  |some u=>have:=aco w _ (h.kZ _ _ _ hp);simp at this
 obtain ⟨flat,hfl⟩: ∃flat:List Value,flat=b.data.toList.map λx=>ags .u8 (x.toNat:Int):=⟨_,rfl⟩
 have hlen:flat.length=b.size:=by rw [hfl,ac9];rfl
 have Bj: ∀off,off<flat.length->(bytesRow b C)[off]? =flat[off]? :=by intro off ho;unfold bytesRow;rw [adh (by rw [Array.size_map];rw [hlen] at ho;exact ho),hfl,Array.getElem?_map,abQ,Array.getElem?_toList]
 have hle:gZ e.φ (λk off=>if k=w.heap.size/\off<flat.length then flat[off]? else e.φ k off):=by
  intro k off u hu;by_cases GN:k=w.heap.size
  ·subst GN;rw [Fk] at hu;cases hu
  ·simp only [GN,false_and,if_false];exact hu
 have iQ: ∀k off u,(λk off=>if k=w.heap.size/\off<flat.length then flat[off]? else e.φ k off) k off=some u->W.cell? ⟨k,off,none⟩=some u:=by
  intro k off u hu;by_cases GN:k=w.heap.size/\off<flat.length
  ·simp only [GN,and_self,if_true] at hu;obtain ⟨rfl,cI⟩:=GN;simp only [World.cell?,jC];rw [Bj off cI];exact hu
  ·simp only [GN,if_false] at hu;exact hg.cell (h.kZ k off u hu)
 have oO:=(h.grow hg).afa hle iQ (by
   intro t2 yT ht off;have Lv:=h.slot t2;rw [ht] at Lv;obtain ⟨o2,h1,_⟩:=Lv.2.obj;have:=aZ h1;have cR: ¬e.B t2=w.heap.size:=by omega
   simp [cR])
  (by
   intro f o2 k cB rM off;obtain ⟨J,vu,_,_,h3,_⟩:=(h.iK f o2 cB).row;rcases h3.2 with ⟨h1,_⟩|⟨g,cap,cY,h1,_,h4,_⟩
   ·rw [h1] at rM;simp [AS] at rM
   ·rw [h1] at rM;simp [AS] at rM;subst rM;have:=aZ h4;have cR: ¬g=w.heap.size:=by omega
    simp [cR])
 have GM:(CG b.data.toList).length=b.size:=by unfold CG;rw [ac9];rfl
 refine Rz (s:= .sc (.p (.list (CG b.data.toList)))) hg bF oO ?_ (.of ?_ trivial) hK
 ·refine ⟨hle,λk hz GM=>hg.rK k GM,λk off hz=> ?_,hg.size,hg.rest⟩;have cR: ¬k=w.heap.size:=by intro RO;subst RO;exact hz (h.ch _ (abT _))
  simp [cR]
 ·simp only [ab,aM];rw [<-GM];refine ⟨rfl,TD (size:=1) (cells:=flat) ?_ ?_ (λoff zL=>by simp [zL])⟩
  ·rw [hfl];exact Nr _
  ·rw [GM,hC];exact grownCap_ge ..
end
end Dn
/-
  Every operation. Conditions: none.
-/
namespace Dn
open Go
section
variable {P:Program}{c:Ctx} {Z Z':bC} {e e':Env}{st:St}{a:Act} {w w':World}{R:Type}{K:St->Option R}{r:R}{Q:Exit->Act->World->Prop}{o:Oper}
structure Good (P:Program) (c:Ctx):Prop where
 ti:ia P c.ti
 eq:RD P c.ti
 fn:Sound P c
 fk: ∀t k,c.fk t=some k->P.underlying t=some (.float k)
 mt:Ek P c
def RW (c:Ctx)(o:Oper):Option MS:=match zB o with|some t=>xe c t|none=>none
def eL (c:Ctx)(o:Oper) (w w':World):Prop:=match RW c o with|some s=>yx s w w'|none=>db w w'
theorem db.trans' {w w' AK:World}(h:db w w') (h':db w' AK):db w AK:=⟨acu h.size h'.size,λb hb=>(h'.rK b (Nat.lt_of_lt_of_le hb h.size)).trans (h.rK b hb),h.rest.trans h'.rest⟩
theorem db.for {w w':World}(h:db w w'):eL c o w w':=by
 unfold eL;split
 ·exact h.m _
 ·exact h
theorem eL.trans {w w' AK:World}(h:eL c o w w') (h':eL c o w' AK):eL c o w AK:=by
 unfold eL at *;split at h
 ·rename_i s hs;simp only [hs] at h'⊢;exact yx.trans h h'
 ·rename_i hs;simp only [hs] at h'⊢;exact db.trans' h h'
inductive pV (P:Program) (c:Ctx) (Z:bC) {R:Type} (K:St->Option R) (r:R) (e:Env) (a:Act) (w:World) (o:Oper) (Q:Exit->Act->World->Prop):Prop
 |rd:(jP c o=false/\fC c o=false)->Rd P c Z K r e a w o (λ_=>True)->pV P c Z K r e a w o Q
 |ld:(jP c o=true/\fC c o=false)->oS e.φ w->Rd P c Z K r e a w o (λw'=>(still c o=false->eL c o w w')/\oS e.φ w')->pV P c Z K r e a w o Q
 |gr:(gQ o=false\/fC c o=true)->o.wp P a w (λa' w'=>db w w'/\Out c Z K r e.φ w a' w') Q->pV P c Z K r e a w o Q
 |cl (f:Nat):(gQ o=false/\zC c o=!c.dA (c.key f))->o.wp P a w (λa' w'=>(c.dA (c.key f)=false->db w w')/\Out c Z K r e.φ w a' w') Q->pV P c Z K r e a w o Q
 |an:(gQ o=false/\zC c o=false)->o.wp P a w (Out c Z K r e.φ w) Q->pV P c Z K r e a w o Q
 |me (t:Nat) (s:MS):X0 o=some t->xe c t=some s->(gQ o=false/\zC c o=false)->o.wp P a w (λa' w'=>yx s w w'/\Out c Z K r e.φ w a' w') Q->pV P c Z K r e a w o Q
theorem RX (hG:Good P c)(h:bS c Z e st a w)(hK:opK c o st (λs st=>bn c st o.dst s K)=some r):pV P c Z K r e a w o Q:=by
 have hT:=hG.ti;unfold opK at hK;split at hK
 ·rename_i ho;exact .rd ⟨by simp [jP,nk, *],by simp [fC, *]⟩ (Ni (.inl ho) h hK)
 ·rename_i x ho;cases hm:fC c o with
  |true=>exact .gr (.inr hm) (acD ho h hK)
  |false=>
   refine .rd ⟨by simp [jP,nk, *],hm⟩ (Ni (.inr ho) h ?_);unfold GH at hK;unfold fC at hm;rw [ho] at hm;split at hK
   ·rename_i t q hq;rw [hq] at hm;simp at hm
   ·exact hK
 ·rename_i t ho;cases hs:xe c t with
  |none=>simp [hs] at hK
  |some s=>simp only [hs] at hK;exact .an (by simp [gQ,zC, *]) (RS ho (acE hs) h hK)
 ·rename_i t m k ho;unfold aeZ at hK;cases hs:xe c t with
  |none=>simp [hs] at hK
  |some s=>simp only [hs] at hK;obtain ⟨v,h1,h2⟩:=Vq ho (hG.mt t s hs) h hK;refine .ld ⟨by simp [jP,nk,ho],by simp [fC,ho]⟩ h.kZ ⟨v,λw' hw=>h1 w' ?_,h2⟩;have:=hw.1 (by simp [still,ho]);simpa [eL,RW,zB,ho,hs] using this
 ·rename_i t m k v ho;unfold ae0 at hK;cases hs:xe c t with
  |none=>simp [hs] at hK
  |some s=>simp only [hs] at hK;exact .an (by simp [gQ,zC, *]) (NB ho (hG.mt t s hs) h hK)
 ·rename_i t m k ho;unfold XU at hK;cases hs:xe c t with
  |none=>simp [hs] at hK
  |some s=>simp only [hs] at hK;exact .me t s (by simp [X0,ho]) hs (by simp [gQ,zC, *]) (Fo ho (hG.mt t s hs) h hK)
 ·rename_i t m i v ho;unfold aiW at hK;cases hs:xe c t with
  |none=>simp [hs] at hK
  |some s=>simp only [hs] at hK;exact .an (by simp [gQ,zC, *]) (KI (t:=t) ho h hK)
 ·rename_i ho;exact .rd ⟨by simp [jP,nk, *],by simp [fC, *]⟩ (O7 ho h hK)
 ·rename_i ho;exact .rd ⟨by simp [jP,nk, *],by simp [fC, *]⟩ (aca ho h hK)
 ·rename_i t ho;cases hI:c.tv t with
  |none=>simp [hI] at hK
  |some I=>simp only [hI] at hK;exact .gr (.inl (by simp [gQ, *])) (Yj ho hI hT h hK)
 ·rename_i t x ho;cases hI:c.tv t with
  |none=>simp [hI] at hK
  |some I=>simp only [hI] at hK;exact .gr (.inl (by simp [gQ, *])) (agj ho h hK)
 ·rename_i t parts ho;cases hI:c.tv t with
  |none=>simp [hI] at hK
  |some I=>simp only [hI] at hK;exact .rd ⟨by simp [jP,nk, *],by simp [fC, *]⟩ (Yv ho hI hT h hK)
 ·rename_i t n parts ho;cases hI:c.tv t with
  |none=>simp [hI] at hK
  |some I=>
   simp only [hI] at hK;cases hL:I.yr with
   |false=>simp [hL] at hK
   |true=>
    simp only [hL,cond_true] at hK;cases hE:c.tv I.elem with
    |none=>simp [hE] at hK
    |some E=>
     simp only [hE] at hK;cases ku:aec (n *E.size) 16777216 with
     |false=>simp [ku] at hK
     |true=>simp only [ku,cond_true] at hK;exact .gr (.inl (by simp [gQ, *])) (KG ho hI hL hE hT h ku hK)
 ·rename_i t x y ho;cases hI:c.tv t with
  |none=>simp [hI] at hK
  |some I=>
   simp only [hI] at hK;cases hL:I.yr with
   |false=>simp [hL] at hK
   |true=>
    simp only [hL,cond_true] at hK;cases hE:c.tv I.elem with
    |none=>simp [hE] at hK
    |some E=>simp only [hE] at hK;exact .gr (.inl (by simp [gQ, *])) (NC ho hI hL hE hT h hK)
 ·rename_i t x ho;cases hI:c.tv t with
  |none=>simp [hI] at hK
  |some I=>
   simp only [hI] at hK;cases hs:still c o with
   |true=>
    simp only [hs,cond_true] at hK;split at hK
    ·rename_i cs off GL;obtain ⟨v,h1,h2⟩:=Yi ho hI hT h GL hK;exact .ld ⟨by simp [jP,nk, *],by simp [fC, *]⟩ h.kZ ⟨v,λw' hw=>h1 w' hw.2,h2⟩
    ·simp at hK
   |false=>simp only [hs,cond_false] at hK;obtain ⟨v,h1,h2⟩:=acf ho hI hT h hK;refine .ld ⟨by simp [jP,nk, *],by simp [fC, *]⟩ h.kZ ⟨v,λw' hw=>h1 w' ?_,h2⟩;have:=hw.1 hs;simpa [eL,RW,zB,ho] using this
 ·rename_i t x y ho;cases hI:c.tv t with
  |none=>simp [hI] at hK
  |some I=>simp only [hI] at hK;exact .an (by simp [gQ,zC, *]) (Ys ho hI hT h hK)
 ·rename_i op t x y t' ho;exact .rd ⟨by simp [jP,nk, *],by simp [fC, *]⟩ (Yg ho h hG.eq hK)
 ·rename_i ho;exact .rd ⟨by simp [jP,nk, *],by simp [fC, *]⟩ (acb ho h hK)
 ·rename_i s t x ho;cases hL:isLT c s with
  |true=>
   simp only [hL,cond_true] at hK;cases hY:c.tv s with
   |none=>simp [hY] at hK
   |some Y=>
    cases hI:c.tv t with
    |none=>simp [hY,hI] at hK
    |some I=>
     simp only [hY,hI] at hK;obtain ⟨v,h1,h2⟩:=YO ho hY hI (by simpa [isLT,hY] using hL) hT h hK;refine .ld ⟨by simp [jP,nk,ho,hL],by simp [fC,ho,acJ hL]⟩ h.kZ ⟨v,λw' hw=>h1 w' ?_,h2⟩;have hs:still c o=false:=by simp [still,ho]
     have:=hw.1 hs;simpa [eL,RW,zB,ho] using this
  |false=>
   simp only [hL,cond_false] at hK;cases hSB:Rk c s t with
   |true=>simp only [hSB,cond_true] at hK;exact .gr (.inr (by simp [fC,ho,hSB])) (ajE ho hSB hT h hK)
   |false=>
   simp only [hSB,cond_false] at hK;cases hS:c.ti s with
   |none=>simp [hS] at hK
   |some S=>
    simp only [hS] at hK;cases hI:c.tv t with
    |none=>simp [hI] at hK
    |some I=>simp only [hI] at hK;obtain ⟨d,i,h1,_⟩:=hT s S hS;exact .rd ⟨by simp [jP,nk,ho,hL],by simp [fC,ho,hSB]⟩ (RC ho (bj hI).1 hT ⟨d,h1⟩ (hG.fk t) h hK)
 ·rename_i t x ho;cases hI:c.tv t with
  |none=>simp [hI] at hK
  |some I=>simp only [hI] at hK;exact .an (by simp [gQ,zC, *]) (YN ho hI hT h hK)
 ·rename_i x ho;exact .an (by simp [gQ,zC, *]) (acF ho h hK)
 ·rename_i f first bV ho
  split at hK
  ·rename_i hf;have hf:first= #[]:=by apply abX.1;simpa using hf
   subst hf;exact .rd ⟨by simp [jP,nk, *],by simp [fC, *]⟩ (Pj ho h hK)
  ·simp at hK
 ·rename_i t x lo hi ho;cases hI:c.tv t with
  |none=>simp [hI] at hK
  |some I=>simp only [hI] at hK;exact .rd ⟨by simp [jP,nk, *],by simp [fC, *]⟩ (Yp ho hI hT h hK)
 ·rename_i t x y z ho;cases hI:c.tv t with
  |none=>simp [hI] at hK
  |some I=>simp only [hI] at hK;exact .rd ⟨by simp [jP,nk, *],by simp [fC, *]⟩ (acp ho hI hT h hK)
 ·rename_i t x f ho;cases hI:c.tv t with
  |none=>simp [hI] at hK
  |some I=>simp only [hI] at hK;exact .rd ⟨by simp [jP,nk, *],by simp [fC, *]⟩ (U9 ho hI hT h hK)
 ·rename_i t x f ho;cases hI:c.tv t with
  |none=>simp [hI] at hK
  |some I=>simp only [hI] at hK;exact .rd ⟨by simp [jP,nk, *],by simp [fC, *]⟩ (agk ho hI hT h hK)
 ·rename_i t x y ho;cases hI:c.tv t with
  |none=>simp [hI] at hK
  |some I=>
   simp only [hI] at hK;cases hE:c.tv I.elem with
   |none=>simp [hE] at hK
   |some E=>simp only [hE] at hK;exact .rd ⟨by simp [jP,nk, *],by simp [fC, *]⟩ (agm ho hI hE hT h hK)
 ·rename_i t x y ho;cases hI:c.tv t with
  |none=>simp [hI] at hK
  |some I=>simp only [hI] at hK;exact .rd ⟨by simp [jP,nk, *],by simp [fC, *]⟩ (ai3 ho (bj hI).1 hT h hK)
 ·rename_i ho;exact .rd ⟨by simp [jP,nk, *],by simp [fC, *]⟩ (agi ho h hK)
 ·rename_i cl ho;split at hK
  ·rename_i f oq;cases hsg:c.sig (c.key f) with
   |some sg=>obtain ⟨pos,ks⟩:=sg;simp only [hsg] at hK;obtain ⟨hg,hw⟩:=acH hG.fn hsg ho oq h hK;exact .an (by simp [gQ,zC,ho,oq,hg]) hw
   |none=>
   simp only [hsg] at hK;cases hI:c.ti o.type with
   |none=>simp [hI] at hK
   |some I=>simp only [hI] at hK;exact .cl f (by simp [gQ,zC, *]) (acx hG.fn ho oq h hK)
  ·rename_i x _ oq;cases hdy:c.dyn with
   |cons k0 U4=>simp only [hdy] at hK;exact .an (by simp [gQ,zC,ho,oq,hdy]) (acI hG.fn ho oq h hK)
   |nil=>
   simp only [hdy] at hK;cases hI:c.ti o.type with
   |none=>simp [hI] at hK
   |some I=>simp only [hI] at hK;exact .gr (.inl (by simp [gQ, *])) (agv hG.fn ho oq h hK)
  ·rename_i oq;split at hK
   ·rename_i t KE;cases hI:c.tv t with
    |none=>simp [hI] at hK
    |some I=>simp only [hI] at hK;exact .rd ⟨by simp [jP,nk, *],by simp [fC, *]⟩ (agl ho oq KE hI hT h hK)
   ·simp at hK
  ·rename_i oq;split at hK
   ·rename_i s x t t' GL KE;cases hI:c.tv t with
    |none=>simp [hI] at hK
    |some I=>
     simp only [hI] at hK;cases hL:I.yr with
     |false=>simp [hL] at hK
     |true=>
      simp only [hL,cond_true] at hK;cases hE:c.tv I.elem with
      |none=>simp [hE] at hK
      |some E=>
       simp only [hE] at hK;obtain ⟨so,xo,dL,rfl,rfl⟩: ∃so xo,cl.args.toList=[so,xo]/\aH c st so=s/\aH c st xo=x:=by
        rw [jD] at GL;match hl:cl.args.toList,GL with
        |[so,xo],GL=>simp at GL;exact ⟨so,xo,rfl,GL.1,GL.2⟩
        |[],GL=>simp at GL
        |[_],GL=>simp at GL
        |_::_::_::_,GL=>simp at GL
       exact .an (by simp [gQ,zC,oq,ho]) (Vl ho oq dL KE hI hL hE hT h hK)
   ·simp at hK
  ·rename_i oq;rw [jD] at hK;split at hK
   ·rename_i m jK;cases hl:cl.args.toList with
    |nil=>rw [hl] at jK;simp at jK
    |cons x xs=>
     rw [hl] at jK;simp only [abU,OF,afw] at jK;obtain ⟨he,rfl⟩:=jK;unfold gCx at hK;split at hK
     ·rename_i u v;have hx:=xl (by have:=(h.eval x).1;rw [he] at this;exact this);have Vc:cl.args= #[x]:=by rw [<-abX,hl]
      refine .rd ⟨by simp [jP,nk, *],by simp [fC, *]⟩ (jb h ?_ (Hh (.float .f64 u) rfl) trivial hK);have hb: ∀ts ty,Builtin.real_ ts ty #[.complex .f64 u v]=pure (.float .f64 u):=λ_ _=>rfl;simp [execOp,ho,resolve,oq,invoke,builtin,hb,Vc,hx]
     ·cases hK
   ·cases hK
  ·rename_i oq;rw [jD] at hK;split at hK
   ·rename_i m jK;cases hl:cl.args.toList with
    |nil=>rw [hl] at jK;simp at jK
    |cons x xs=>
     rw [hl] at jK;simp only [abU,OF,afw] at jK;obtain ⟨he,rfl⟩:=jK;unfold gCx at hK;split at hK
     ·rename_i u v;have hx:=xl (by have:=(h.eval x).1;rw [he] at this;exact this);have Vc:cl.args= #[x]:=by rw [<-abX,hl]
      refine .rd ⟨by simp [jP,nk, *],by simp [fC, *]⟩ (jb h ?_ (Hh (.float .f64 v) rfl) trivial hK);have hb: ∀ts ty,Builtin.imag_ ts ty #[.complex .f64 u v]=pure (.float .f64 v):=λ_ _=>rfl;simp [execOp,ho,resolve,oq,invoke,builtin,hb,Vc,hx]
     ·cases hK
   ·cases hK
  ·rename_i oq;rw [jD] at hK;split at hK
   ·rename_i u v jK;match hl:cl.args.toList,jK with
    |[x,y],jK=>
     simp only [abU,List.map_nil,OF,and_true] at jK;have hx:=xl (by have:=(h.eval x).1;rw [jK.1] at this;exact this);have hy:=xl (by have:=(h.eval y).1;rw [jK.2] at this;exact this);have Vc:cl.args= #[x,y]:=by rw [<-abX,hl]
     refine .rd ⟨by simp [jP,nk, *],by simp [fC, *]⟩ (jb h ?_ (Hh (.complex .f64 u v) rfl) trivial hK);have hb: ∀ts ty,Builtin.complex_ ts ty #[.float .f64 u,.float .f64 v]=pure (.complex .f64 u v):=λ_ _=>rfl;simp [execOp,ho,resolve,oq,invoke,builtin,hb,Vc,hx,hy]
    |[],jK=>simp at jK
    |[_],jK=>simp at jK
    |_::_::_::_,jK=>simp at jK
   ·cases hK
  ·rename_i oq;cases hm:Ri false (jM c st cl.args.toList) with
   |none=>simp [hm] at hK
   |some m=>simp only [hm] at hK;exact .rd ⟨by simp [jP,nk, *],by simp [fC, *]⟩ (Lz (mx:=false) ho oq h hm hK)
  ·rename_i oq;cases hm:Ri true (jM c st cl.args.toList) with
   |none=>simp [hm] at hK
   |some m=>simp only [hm] at hK;exact .rd ⟨by simp [jP,nk, *],by simp [fC, *]⟩ (Lz (mx:=true) ho oq h hm hK)
  ·simp at hK
 ·simp at hK
theorem pV.wp (h:pV P c Z K r e a w o Q):o.wp P a w (Out c Z K r e.φ w) Q:=by
 cases h with
 |rd _ h=>exact h.wp trivial
 |ld _ hi h=>exact h.wp ⟨λ_=>(db.refl w).for,hi⟩
 |me _ _ _ _ _ h=>exact adb (λa w h=>h.2) h
 |gr _ h=>exact adb (λa w h=>h.2) h
 |cl f _ h=>exact adb (λa w h=>h.2) h
 |an _ h=>exact h
theorem pV.aoa (h:pV P c Z K r e a w o Q)(hr:gQ o=true)(hv:fC c o=false):Rd P c Z K r e a w o (λw'=>jP c o=true->(still c o=false->eL c o w w')/\oS e.φ w'):=by
 cases h with
 |rd hl h=>obtain ⟨v,h1,h2⟩:=h;exact ⟨v,λw' _=>h1 w' trivial,h2⟩
 |ld hl _ h=>obtain ⟨v,h1,h2⟩:=h;exact ⟨v,λw' hg=>h1 w' (hg hl.1),h2⟩
 |gr hn h=>rw [hr,hv] at hn;simp at hn
 |me _ _ _ _ hn h=>rw [hr] at hn;cases hn.1
 |cl f hn h=>rw [hr] at hn;cases hn.1
 |an hn h=>rw [hr] at hn;cases hn.1
theorem pV.aob (h:pV P c Z K r e a w o Q)(hr:gQ o=true\/zC c o=true):o.wp P a w (λa' w'=>db w w'/\Out c Z K r e.φ w a' w') Q:=by
 have rd: ∀G:World->Prop,G w->Rd P c Z K r e a w o G->o.wp P a w (λa' w'=>db w w'/\Out c Z K r e.φ w a' w') Q:=by rintro G hG ⟨v,h1,h2⟩;unfold agA;rw [h1 w hG,ae3];exact ⟨.refl w,h2⟩
 cases h with
 |rd hl h=>exact rd _ trivial h
 |ld _ hi h=>exact rd _ ⟨λ_=>(db.refl w).for,hi⟩ h
 |me _ _ _ _ hn h=>
  rcases hr with hr|hr
  ·rw [hr] at hn;cases hn.1
  ·rw [hr] at hn;cases hn.2
 |gr hn h=>exact h
 |cl f hn h=>
  rcases hr with hr|hr
  ·rw [hr] at hn;cases hn.1
  ·rw [hn.2] at hr;exact adb (λa w h=>⟨h.1 (by simpa using hr),h.2⟩) h
 |an hn h=>
  rcases hr with hr|hr
  ·rw [hr] at hn;cases hn.1
  ·rw [hr] at hn;cases hn.2
theorem ajG (hG:Good P c)(h:bS c Z e st a w)(hK:opK c o st (λs st=>bn c st o.dst s K)=some r){oi:Oper}(hr:sK oi o=true):o.wp P a w (λa' w'=>eL c oi w w'/\Out c Z K r e.φ w a' w') Q:=by
 unfold sK at hr;split at hr
 ·rename_i t t' h1 h2;have ht:=AI hr;subst ht;have hme: ∃m k,o.op= .mapEntry t m k:=by
   unfold X0 at h2;split at h2
   ·rename_i u m k ho;cases h2;exact ⟨m,k,ho⟩
   ·cases h2
  obtain ⟨m,k,ho⟩:=hme;unfold opK at hK;simp only [ho] at hK;unfold XU at hK;cases hs:xe c t with
  |none=>simp [hs] at hK
  |some s=>simp only [hs] at hK;refine adb (λa w h=>⟨?_,h.2⟩) (Fo ho (hG.mt t s hs) h hK);simpa [eL,RW,h1,hs] using h.1
 ·cases hr
end
end Dn
/-
  Guards; operations one behind the other. Conditions: none.
-/
namespace Dn
open Go
section
variable {P:Program}{c:Ctx} {Z Z':bC} {e e':Env}{st:St}{a:Act} {w w':World}{R:Type}{K:St->Option R}{r:R}{Q:Exit->Act->World->Prop}{o:Oper}
theorem bS.frame {pT:Fr}(h:bS c Z e st a w)(hf: ∀t,aq pT t=aq st.fr t)(hn:(aN pT).Nodup):bS c Z e {st with fr:=pT} a w:=by
 have hr: ∀s,cC st.fr s->cC pT s:=by intro s hs;cases s<;>simp only [cC,hf] at hs⊢ <;>exact hs
 exact ⟨h.defers,h.size,h.m,h.key,hn,λt=>by show bW Z e w t _ (aq pT t);rw [hf];exact h.slot t,λt=>by show cC pT (aq pT t);rw [hf];exact hr _ (h.root t),h.iK,λt t' cs fU h1 h2=>h.bb t t' cs fU (by rw [<-hf];exact h1) (by rw [<-hf];exact h2),λt cs f o h1=>h.bf t cs f o (by rw [<-hf];exact h1),h.ff,h.kZ,h.ch⟩
theorem bS.reset {t:Nat}{s:Slot}(h:bS c Z e st a w)(hs:aq st.fr t=s):bS c Z e {st with fr:=cj st.fr t s} a w:=by
 refine h.frame (λt'=> ?_) (ej h.nodup);rw [bL];by_cases ht:t'=t
 ·subst ht;simp [hs]
 ·simp [ht]
theorem Pz {ops:Array Oper} {K':Bool->St->Option R}(h:bS c Z e st a w)(hK:Rm ops.toList o st K'=some r): ∃bY go,bS c Z e bY a w/\K' go bY=some r/\agr o (yielded ops a.tmps)=go:=by
 unfold Rm at hK;unfold agr;cases hg:o.guard with
 |none=>simp only [hg] at hK;exact ⟨st,true,h,hK,rfl⟩
 |some jw=>
  obtain ⟨j,want⟩:=jw;simp only [hg] at hK;cases hp:ops.toList[j]? with
  |none=>simp [hp] at hK
  |some p=>
   simp only [hp] at hK;have Nl:ops[j]? =some p:=by simpa using hp
   cases hd:p.dst with
   |none=>simp [hd] at hK
   |some t=>
    simp only [hd] at hK;have nn:=h.slot t;split at hK
    ·rename_i v hv;rw [hv] at nn;have Nz:a.tmps.getD t undef= .bool v:=Ff nn;have hy:yielded ops a.tmps j=some v:=by
      unfold yielded;have:a.tmps[t]? =some (.bool v):=by
       rw [ab7] at Nz;cases ht:a.tmps[t]? with
       |none=>rw [ht] at Nz;simp [undef] at Nz
       |some u=>rw [ht] at Nz;simpa using Nz
      simp [Nl,hd,this]
     simp only [hy];cases v<;>simp only [mB] at hK
     ·exact ⟨_,_,h.reset hv,hK,by cases want<;>rfl⟩
     ·exact ⟨_,_,h.reset hv,hK,by cases want<;>rfl⟩
    ·rename_i hv;rw [hv] at nn;simp only [bW,ab] at nn;have hy:yielded ops a.tmps j=none:=by
      unfold yielded;rw [ab7] at nn;cases ht:a.tmps[t]? with
      |none=>simp [Nl,hd,ht]
      |some u=>rw [ht] at nn;simp at nn;subst nn;simp [Nl,hd,ht,undef]
     simp only [hy];exact ⟨st,false,h,hK,by cases want<;>rfl⟩
    ·simp at hK
theorem TS {ops:Array Oper}{i:Nat}(hG:Good P c)(hi:ops[i]? =some o)(h:bS c Z e st a w)(hK:Ts c ops.toList o st K=some r): wpOp P ops Q i (Out c Z K r e.φ w) a w:=by
 unfold Ts at hK;obtain ⟨bY,go,h',hK,hw⟩:=Pz h hK;unfold wpOp;simp only [hi];rw [hw];cases go with
 |true=>simp only [cond_true] at hK;simp only [if_true];exact .inl (RX hG h' hK).wp
 |false=>simp only [cond_false] at hK;simp only [abP,if_false];obtain ⟨e2,eg,h1,h2,h3⟩:=cW (v:=undef) (s:= .skip) h' ⟨rfl,trivial⟩ hK;exact ⟨e2,eg,h1,by rw [h3];exact .refl _ _ _,h2⟩
theorem agH {ops:Array Oper}{is:List Nat}(hG:Good P c): ∀{os:List Oper} {e:Env} {st:St} {a:Act} {w:World},is.map (ops[·]?)=os.map some->bS c Z e st a w->Bf c ops.toList os st K=some r-> ∀{φ0:Ph} {w0:World},Trans Z φ0 w0 e.φ w->(∀a' w',Out c Z K r φ0 w0 a' w'->Q .normal a' w')->wpOps P ops Q is a w:=by
 induction is with
 |nil=>
  intro os e st a w hm h hK φ0 w0 ht hQ;cases os with
  |nil=>exact hQ a w ⟨e,st,h,ht,hK⟩
  |cons=>simp at hm
 |cons i is ih=>
  intro os e st a w hm h hK φ0 w0 ht hQ;cases os with
  |nil=>simp at hm
  |cons o os=>simp only [abU,OF] at hm;simp only [Bf] at hK;rw [wpOps_cons];refine wpOp_mono ?_ (TS hG hm.1 h hK);rintro a' w' ⟨e2,eg,h1,h2,h3⟩;exact ih hm.2 h1 h3 (ht.trans h2) hQ
end
end Dn
/-
  Parts of a state. Conditions: none.
-/
namespace Dn
open Go
section
variable {P:Program}{c:Ctx}{Z Zi:bC} {e e':Env}{st bY:St}{a:Act} {w w':World}{R:Type}{K:St->Option R}{r:R}{Q:Exit->Act->World->Prop}{o:Oper}
theorem Vs {fs:List Nat}: ∀{e:Env} {st:St},bS c Z e st a w->(∀f∈fs,∀o,aI st.aP f=some o->f∉Z.cy\/o.ei=true)-> ∃φ' m',gZ e.φ φ'/\(∀b off,¬Z.In b->φ' b off=e.φ b off)/\bS c Z {e with φ:=φ',m:=m'} {st with aP:=m'} a w/\ (∀f,aI m' f=(aI st.aP f).map λo=>if f∈fs then ⟨o.ty,true,o.xs⟩ else o)/\ (∀f∈fs,∀o I cells,aI st.aP f=some o->c.ti o.ty=some I->w.ownsRow 0 o.ty I.size (e.E f) o.xs.length cells-> ∀a8,(e.E f).ownBlock=some a8-> ∀j,j<cells.length->φ' a8 j=cells[j]?):=by
 induction fs with
 |nil=>
  intro e st h _;refine ⟨e.φ,st.aP,.refl _,λ_ _ _=>rfl,?_,λf=>by cases aI st.aP f<;>simp,λf hf=>by simp at hf⟩;have hm:e.m=st.aP:=h.m;have he:({e with φ:=e.φ,m:=st.aP}:Env)=e:=by cases e;simp at hm⊢;exact hm.symm
  rw [he];exact h
 |cons g gs ih=>
  intro e st h hp;cases hg:aI st.aP g with
  |none=>
   obtain ⟨φ',m',h1,h2,h3,h4,h5⟩:=ih h (λf hf=>hp f (by simp [hf]));refine ⟨φ',m',h1,h2,h3,λf=> ?_,λf hf o I cells ho=> ?_⟩
   ·rw [h4];by_cases OQ:f=g
    ·subst OQ;rw [hg];rfl
    ·simp [OQ]
   ·rcases bN.1 hf with rfl|hf
    ·rw [hg] at ho;cases ho
    ·exact h5 f hf o I cells ho
  |some og=>
   obtain ⟨φ1,k1,k2,k3,_,k5⟩:=freeze h hg (hp g (by simp) og hg);obtain ⟨φ',m',h1,h2,h3,h4,h5⟩:=ih k3 (by
    intro f hf o ho;have ho:aI (bR st.aP g ⟨og.ty,true,og.xs⟩) f=some o:=ho;rw [bm] at ho;by_cases OQ:f=g
    ·rw [if_pos OQ] at ho;cases ho;exact .inr rfl
    ·rw [if_neg OQ] at ho;exact hp f (by simp [hf]) o ho)
   refine ⟨φ',m',k1.trans h1,λb off hb=>(h2 b off hb).trans (k2 b off hb),h3,λf=> ?_,λf hf o I cells ho hI dn a8 hb j hj=> ?_⟩
   ·rw [h4];show Option.map _ (aI (bR st.aP g ⟨og.ty,true,og.xs⟩) f)=_;rw [bm];by_cases OQ:f=g
    ·subst OQ;simp [hg]
    ·simp [OQ]
   ·by_cases OQ:f=g
    ·subst OQ;rw [hg] at ho;cases ho;exact h1.AH (k5 I cells hI dn a8 hb j hj) hj
    ·rcases bN.1 hf with rfl|hf
     ·exact absurd rfl OQ
     ·refine h5 f hf o I cells ?_ hI dn a8 hb j hj;show aI (bR st.aP g ⟨og.ty,true,og.xs⟩) f=_;rw [bm,if_neg OQ];exact ho
end
end Dn
/-
  What a piece of code begins with, and what stays as it was behind it. Conditions: none.
-/
namespace Dn
open Go
theorem uN {l k:List Nat}(h:meets l k=false): ∀x∈l,x∉k:=by
 induction l with
 |nil=>simp
 |cons y l ih=>
  simp only [meets] at h;cases hm:bx k y with
  |true=>simp [hm] at h
  |false=>
   simp only [hm,cond_false] at h;intro x hx;rcases bN.1 hx with rfl|hx
   ·rw [<-bu,hm];simp
   ·exact ih h x hx
theorem HE {ks:List Nat}{r:Fr}: ∀t∈aN (oU ks r),t∈ks:=by
 induction r with
 |nil=>simp [aN,oU]
 |cons p r ih=>
  obtain ⟨k,x⟩:=p;simp only [oU];cases hb:bx ks k&&!dq x with
  |false=>simpa using ih
  |true=>
   simp only [sh] at hb;intro t ht;simp only [cond_true,aN,abU,bN] at ht;rcases ht with rfl|ht
   ·exact (bu _ _).1 hb.1
   ·exact ih t ht
theorem LN {qs:List Nat}{r:Fr}:aN (Ru qs r)=aN r:=by simp [aN,Ru]
theorem Ft {ks fs qs:List Nat}{m:List (Nat×oM)}{f:Nat}: aI (sN ks fs qs m) f=if f∈ks then (aI m f).map λo=>if f∈fs/\f∉qs then ⟨o.ty,true,o.xs⟩ else o else none:=by
 induction m with
 |nil=>simp [sN,aI]
 |cons p m ih=>
  obtain ⟨k,o⟩:=p;simp only [sN];by_cases hk:k=f
  ·subst hk;cases hm:bx ks k with
   |false=>
    have:k∉ks:=by rw [<-bu,hm];simp
    simp only [cond_false,ih,this,if_false]
   |true=>
    have:k∈ks:=(bu _ _).1 hm;simp only [cond_true,this,if_true,aI,fm,decide_true];cases hc:bx fs k&&!bx qs k with
    |true=>
     simp only [sh,abL] at hc;have h1:=(bu _ _).1 hc.1;have h2:k∉qs:=by rw [<-bu,hc.2];simp
     simp [aI,fm,h1,h2]
    |false=>
     have: ¬(k∈fs/\k∉qs):=by
      rintro ⟨h1,h2⟩;rw [<-bu] at h1;have h2:bx qs k=false:=by cases hq:bx qs k with|false=>rfl|true=>exact absurd ((bu _ _).1 hq) h2
      simp [h1,h2] at hc
     simp [aI,fm,this]
  ·cases hm:bx ks k with
   |false=>simp only [cond_false,ih,aI,fm,hk,decide_false]
   |true=>simp only [cond_true,aI,fm,hk,decide_false,cond_false];cases bx fs k&&!bx qs k<;>simp only [cond_true,cond_false,aI,fm,hk,decide_false]<;>exact ih
theorem uO (m n:List (Nat×oM))(f:Nat):aI (m++n) f=(match aI m f with|some o=>some o|none=>aI n f):=by
 induction m with
 |nil=>simp [aI]
 |cons p m ih=>obtain ⟨k,o⟩:=p;simp only [abN,aI,fm];by_cases hk:k=f<;>simp [hk,ih]
def oX:Slot->List aE
 | .sc l=>[l]
 | .ag cs=>cs
 | .tg cs=>cs
 | .box cs=>cs
 |_=>[]
section
variable {P:Program}{c:Ctx}{Z Zb Zi:bC} {e e':Env}{st bY B:St} {a a':Act} {w w':World}{R:Type}{K:St->Option R}{r:R}{Q:Exit->Act->World->Prop}{o:Oper}{hn:qI}
structure wm (c:Ctx) (Zb Zi:bC) (e:Env) (B:St) (hn:qI) (a:Act) (w:World):Prop where
 sU:bS c Zb e B a w
 sub: ∀b,Zi.In b->Zb.In b
 new: ∀b,w.heap.size<=b->Zi.In b
 cA: ∀t∈Zb.cA,t∈Zi.cA
 T: ∀t∈Zi.cA,a.tmps.getD t undef=Zi.T t
 keys: ∀t∈aN B.fr,t∈Zi.cA
 box: ∀t cs,aq B.fr t= .box cs-> ¬Zi.In (e.B t)
 iK: ∀f o b,aI B.aP f=some o->(e.E f).ownBlock=some b-> ¬Zi.In b
 agI: ∀t∈du hn.all,t∉Zb.cA/\t∉Zi.cA
 acK: ∀f∈b9 hn.all,f∉Zb.cy/\aI B.aP f=none
 ptr: ∀t,dq (aq B.fr t)=false
 men: ∀t f,aE.own f∈oX (aq B.fr t)->f∉b9 hn.all
theorem wm.later {φ':Ph}(h:wm c Zb Zi e B hn a w)(ht:Trans Zi.In e.φ w φ' w')(hi:oS φ' w')(hd:a'.defers=[])(hs:a'.tmps.size=c.n)(hT: ∀t∈Zi.cA,a'.tmps.getD t undef=Zi.T t): wm c Zb Zi {e with φ:=φ'} B hn a' w':=by
 have h1:=h.sU.called (Z':=Zi.In) h.sub h.box h.iK ht hi;refine ⟨?_,h.sub,λb hb=>h.new b (acu ht.size hb),h.cA,hT,h.keys,h.box,h.iK,h.agI,h.acK,h.ptr,h.men⟩;have iM: ∀t∈Zi.cA,a'.tmps.getD t undef=a.tmps.getD t undef:=λt ht=>(hT t ht).trans (h.T t ht).symm;refine ⟨⟨hd,h1.defers.2.1,h1.defers.2.2.1,λt ht=>(iM t (h.cA t ht)).trans (h1.defers.2.2.2 t ht)⟩,hs,h1.m,h1.key,h1.nodup,?_,h1.root,h1.iK,h1.bb,h1.bf,h1.ff,h1.kZ,h1.ch⟩;intro t;by_cases hk:t∈aN B.fr
 ·rw [iM t (h.keys t hk)];exact h1.slot t
 ·rw [su _ _ hk];simp [bW,ab]
theorem Vt {K2:St->St->Option R}(h:bS c Z e st a w)(hK:Ro c hn st K2=some r): ∃Zi e1 e2 eJ eg,bS c Zi e1 eJ a w/\Trans Z.In e.φ w e1.φ w/\e2.φ=e1.φ/\e2.key=e1.key/\wm c Z Zi e2 (BV st eg) hn a w/\wm c Zi Zi e2 eg hn a w/\(∀b,Zi.In b->Z.In b)/\eC c hn.all=true/\K2 eJ eg=some r:=by
 obtain ⟨p,q,fr,m⟩:=st;unfold Ro at hK;simp only [xg,ab5,af8,Yb] at hK;cases TT:!eC c hn.all||meets (du hn.all) p||meets (b9 hn.all) q||meets (du hn.all) hn.cA||meets (b9 hn.all) hn.cy with
 |true=>simp [TT] at hK
 |false=>
  simp only [TT,cond_false] at hK;simp only [BY,abZ] at TT;obtain ⟨⟨⟨⟨m0,m1⟩,m2⟩,m3⟩,m4⟩:=TT;have m1:=uN m1;have m2:=uN m2;have m3:=uN m3;have m4:=uN m4;have RY:p=Z.cA/\q=Z.cy:=⟨h.defers.2.1,h.defers.2.2.1⟩
  let mp:=sN hn.cy hn.ei q m;let mo:=sN (b9 hn.all) hn.ei q m;let rp:=Ru hn.cy (oU hn.cA fr);let ro:=oU (du hn.all) fr;let fs:=hn.cy.filter λf=>match aI mp f with|some o=>o.ei|none=>false
  have zT: ∀f o,aI mp f=some o->f∈hn.cy/\ ∃o0,aI m f=some o0/\o0.ty=o.ty/\o0.xs=o.xs/\(o0.ei=true->o.ei=true)/\(f∈q->o=o0):=by
   intro f o ho;have ho:aI (sN hn.cy hn.ei q m) f=some o:=ho;rw [Ft] at ho;split at ho
   ·rename_i hf;refine ⟨hf,?_⟩;cases h0:aI m f with
    |none=>rw [h0] at ho;cases ho
    |some o0=>
     rw [h0] at ho;simp only [ab1,AT] at ho;refine ⟨o0,rfl,?_⟩;split at ho
     ·rename_i hc;subst ho;exact ⟨rfl,rfl,λ_=>rfl,λhq=>absurd hq hc.2⟩
     ·subst ho;exact ⟨rfl,rfl,id,λ_=>rfl⟩
   ·cases ho
  have hmo: ∀f o,aI mo f=some o->f∈b9 hn.all/\ ∃o0,aI m f=some o0/\o0.ty=o.ty/\o0.xs=o.xs/\(o0.ei=true->o.ei=true):=by
   intro f o ho;have ho:aI (sN (b9 hn.all) hn.ei q m) f=some o:=ho;rw [Ft] at ho;split at ho
   ·rename_i hf;refine ⟨hf,?_⟩;cases h0:aI m f with
    |none=>rw [h0] at ho;cases ho
    |some o0=>
     rw [h0] at ho;simp only [ab1,AT] at ho;refine ⟨o0,rfl,?_⟩;split at ho
     ·subst ho;exact ⟨rfl,rfl,λ_=>rfl⟩
     ·subst ho;exact ⟨rfl,rfl,id⟩
   ·cases ho
  obtain ⟨φ',m',f1,f2,f3,f4,f5⟩:=Vs (fs:=fs) h (by
   intro f hf o ho;simp only [fs,ada] at hf;obtain ⟨Np,BB⟩:=hf;by_cases hq:f∈Z.cy
   ·right;cases KJ:aI mp f with
    |none=>simp [KJ] at BB
    |some o1=>simp only [KJ] at BB;obtain ⟨_,o0,g1,_,_,_,g5⟩:=zT f o1 KJ;have ho:aI m f=some o:=ho;rw [g1] at ho;cases ho;have:=g5 (by rw [RY.2];exact hq);rw [<-this];exact BB
   ·exact .inl hq)
  let Zi:bC:=⟨λb=>Z.In b/\(∀t cs,aq rp t= .box cs->e.B t≠b)/\(∀f o,aI mp f=some o->(e.E f).ownBlock≠some b),hn.cA++p,hn.cy++q,λt=>a.tmps.getD t undef,False,λ_=>True⟩
  have pJ: ∀b,w.heap.size<=b->Zi.In b:=by
   intro b hb;refine ⟨f3.ch b hb,λt cs ht=> ?_,λf o ho GM=> ?_⟩
   ·have hrp:aq rp t=GJ hn.cy (aq (oU hn.cA fr) t):=Lq _ _ _;rw [hrp,B0 _ _ h.nodup] at ht;split at ht
    ·have: ∃Ge,aq fr t= .box Ge:=by generalize aq fr t=s at ht;cases s<;>simp only [GJ] at ht<;>first|(cases ht;done)|exact ⟨_,rfl⟩
     obtain ⟨Ge,h0⟩:=this;have:=xt (st:=⟨p,q,fr,m⟩) h h0;omega
    ·simp [GJ,Q2] at ht
   ·obtain ⟨_,o0,g1,_⟩:=zT f o ho;have:=xu (st:=⟨p,q,fr,m⟩) h g1 GM;omega
  have acL: ∀t,aq rp t=if bx hn.cA t&&!dq (aq fr t) then GJ hn.cy (aq fr t) else .sc .un:=by intro t;have hrp:aq rp t=GJ hn.cy (aq (oU hn.cA fr) t):=Lq _ _ _;rw [hrp,B0 _ _ h.nodup];split<;>rfl
  have agJ: ∀t,aq ro t=if bx (du hn.all) t&&!dq (aq fr t) then aq fr t else .sc .un:=λt=>B0 _ _ h.nodup t
  have agK: ∀t∈aN rp,t∈hn.cA:=by intro t ht;have ht:t∈aN (Ru hn.cy (oU hn.cA fr)):=ht;rw [LN] at ht;exact HE t ht
  have HF: ∀t cs,aq rp t= .box cs->t∈hn.cA/\ ∃Ge,aq fr t= .box Ge:=by
   intro t cs ht;rw [acL] at ht;split at ht
   ·rename_i hc;simp only [sh] at hc;refine ⟨(bu _ _).1 hc.1,?_⟩;generalize aq fr t=s at ht;cases s<;>simp only [GJ] at ht<;>first|(cases ht;done)|exact ⟨_,rfl⟩
   ·cases ht
  have aoe: ∀f o,aI mp f=some o->o.ei=true->f∈fs:=by intro f o ho hz;simp only [fs,ada];exact ⟨(zT f o ho).1,by simp only [ho];exact hz⟩
  have hm': ∀f o0,aI m f=some o0->aI m' f=some (if f∈fs then ⟨o0.ty,true,o0.xs⟩ else o0):=by intro f o0 h0;rw [f4];show Option.map _ (aI m f)=_;rw [h0];rfl
  have afg: ∀f o,aI (mp++mo) f=some o-> ∃o1,aI m' f=some o1/\o1.ty=o.ty/\o1.xs=o.xs/\(o1.ei=true->o.ei=true):=by
   intro f o ho;rw [uO] at ho;cases KJ:aI mp f with
   |some o1=>
    simp only [KJ,AT] at ho;subst ho;obtain ⟨_,o0,g1,g2,g3,g4,_⟩:=zT f o1 KJ;refine ⟨_,hm' f o0 g1,?_⟩;split
    ·rename_i Y1;refine ⟨g2,g3,λ_=> ?_⟩;simp only [fs,ada,KJ] at Y1;exact Y1.2
    ·exact ⟨g2,g3,g4⟩
   |none=>
    simp only [KJ] at ho;obtain ⟨g0,o0,g1,g2,g3,g4⟩:=hmo f o ho;refine ⟨_,hm' f o0 g1,?_⟩;have:f∉fs:=by intro Y1;simp only [fs,ada] at Y1;exact m4 f g0 Y1.1
    rw [if_neg this];exact ⟨g2,g3,g4⟩
  have ajH: ∀f o,aI mp f=some o-> ∃o1,aI m' f=some o1/\o1.ty=o.ty/\o1.xs=o.xs/\(o1.ei=true->o.ei=true):=by intro f o ho;exact afg f o (by rw [uO,ho])
  have acy: ∀f o I cells b,aI mp f=some o->o.ei=true->c.ti o.ty=some I->w.ownsRow 0 o.ty I.size (e.E f) o.xs.length cells->(e.E f).ownBlock=some b-> ∀j,j<cells.length->φ' b j=cells[j]? :=by intro f o I cells b ho hz hI dn hb j hj;obtain ⟨_,o0,g1,g2,g3,_⟩:=zT f o ho;exact f5 f (aoe f o ho hz) o0 I cells g1 (by rw [g2];exact hI) (by rw [g2,g3];exact dn) b hb j hj
  have ajI:(hn.cA++p)=Zi.cA/\(hn.cy++q)=Zi.cy/\ ∀t∈Zi.cA,a.tmps.getD t undef=Zi.T t:=⟨rfl,rfl,λ_ _=>rfl⟩
  have hkd:(aN rp).Nodup:=by have:aN rp=aN (oU hn.cA fr):=LN;rw [this];exact (xh _ _).nodup h.nodup
  have Y2: ∀t,aq rp t= .sc .un\/(dq (aq fr t)=false/\(aq rp t=aq fr t\/ ∃qs,aq rp t=GJ qs (aq fr t))):=by
   intro t;rw [acL];cases hc:bx hn.cA t&&!dq (aq fr t) with
   |false=>exact .inl (by simp)
   |true=>simp only [sh,abL] at hc;exact .inr ⟨hc.2,.inr ⟨hn.cy,by simp⟩⟩
  have afh: ∀(Zb:bC) (pb qb:List Nat),pb=Zb.cA->qb=Zb.cy->(∀t∈Zb.cA,a.tmps.getD t undef=Zb.T t)->(∀t∈Z.cA,t∈Zb.cA)->(∀t cs,aq rp t= .box cs->(t∈Zb.cA/\Zb.Pr (e.B t))\/Zb.In (e.B t))-> (∀f o b,aI mp f=some o->(e.E f).ownBlock=some b->(f∈Zb.cy/\Zb.Pr b)\/Zb.In b)->(∀b,w.heap.size<=b->Zb.In b)->bS c Zb {e with φ:=φ',m:=mp} ⟨pb,qb,rp,mp⟩ a w:=by intro Zb pb qb h1 h2 h3 hpp h4 h5 h6;exact f3.sub (bY:=⟨pb,qb,rp,mp⟩) hpp ⟨h1,h2,h3⟩ hkd Y2 ajH h4 h5 (λf o I cells b ho _ hz hI dn hb j hj=>acy f o I cells b ho hz hI dn hb j hj) h6
  have acM: ∀t f,aE.own f∈oX (aq rp t)->f∉b9 hn.all:=by
   intro t f hf;have:f∈hn.cy:=by
    rw [acL] at hf;split at hf
    ·generalize aq fr t=s at hf;cases s<;>simp only [GJ,oX,bN,abW,List.not_mem_nil,or_false] at hf
     ·exact Nd hn.cy _ f hf.symm
     ·obtain ⟨l,_,hl⟩:=hf;exact Nd hn.cy l f hl
     ·obtain ⟨l,_,hl⟩:=hf;exact Nd hn.cy l f hl
     ·obtain ⟨l,_,hl⟩:=hf;exact Nd hn.cy l f hl
    ·simp [oX] at hf
   exact λho=>m4 f ho this
  have Yt: ∀t,dq (aq rp t)=false:=by
   intro t;rw [acL];split
   ·rename_i hc;simp only [sh,abL] at hc;generalize aq fr t=s at hc;cases s<;>simp [dq] at hc<;>rfl
   ·rfl
  have afi: ∀b,Zi.In b->Z.In b:=λb hb=>hb.1;refine ⟨Zi,{e with φ:=φ',m:=mp++mo},{e with φ:=φ',m:=mp},⟨hn.cA++p,hn.cy++q,rp++ro,mp++mo⟩,⟨hn.cA++p,hn.cy++q,rp,mp⟩,?_,⟨f1,λ_ _ _=>rfl,f2,abT _,.refl _⟩,rfl,rfl,?_,?_,afi,m0,hK⟩
  ·have hkk: ∀t,aq (rp++ro) t=aq rp t\/(t∈du hn.all/\aq rp t= .sc .un/\aq (rp++ro) t=aq ro t):=by
    intro t;rw [zE];by_cases hk:t∈aN rp
    ·simp [hk]
    ·simp only [hk,if_false];have h0:=su rp t hk;by_cases ON:t∈du hn.all
     ·exact .inr ⟨ON,h0,trivial⟩
     ·left;rw [h0,agJ];have:bx (du hn.all) t=false:=by cases hq:bx (du hn.all) t with|false=>rfl|true=>exact absurd ((bu _ _).1 hq) ON
      simp [this]
   refine f3.sub (bY:=⟨hn.cA++p,hn.cy++q,rp++ro,mp++mo⟩) (λt ht=>aaG _ (by rw [RY.1];exact ht)) ajI ?_ ?_ afg ?_ ?_ ?_ pJ
   ·show (aN (rp++ro)).Nodup;have:aN (rp++ro)=aN rp++aN ro:=by simp [aN]
    rw [this];refine List.nodup_append.2 ⟨hkd,(xh _ _).nodup h.nodup,?_⟩;intro x hx y hy Q7;subst Q7;exact m3 x (HE x hy) (agK x hx)
   ·intro t;show aq (rp++ro) t=_\/(_/\(aq (rp++ro) t=_\/ ∃qs,aq (rp++ro) t=_));rcases hkk t with hk|⟨hk1,ON,hk⟩
    ·rw [hk];exact Y2 t
    ·rw [hk,agJ];cases hc:bx (du hn.all) t&&!dq (aq fr t) with
     |false=>exact .inl (by simp)
     |true=>simp only [sh,abL] at hc;exact .inr ⟨hc.2,.inl (by simp)⟩
   ·intro t cs ht;have ht:aq (rp++ro) t= .box cs:=ht;rcases hkk t with hk|⟨hk1,ON,hk⟩
    ·rw [hk] at ht;exact .inl ⟨No _ (HF t cs ht).1,trivial⟩
    ·rw [hk,agJ] at ht;split at ht
     ·right;refine ⟨?_,?_,?_⟩
      ·have hs:=h.slot t;have B2:aq (St.fr ⟨p,q,fr,m⟩) t= .box cs:=ht;rw [B2] at hs;refine OJ hs.2.ch ?_;rw [<-RY.1];exact m1 t hk1
      ·intro t2 yT GO DY;obtain ⟨g1,Ge,g2⟩:=HF t2 yT GO;exact h.bb t2 t Ge cs g2 ht (by intro he;subst he;exact m3 t2 hk1 g1) DY
      ·intro f o ho DY;obtain ⟨_,o0,g1,_⟩:=zT f o ho;exact h.bf t cs f o0 ht g1 DY
     ·cases ht
   ·intro f o b ho hb;have ho:aI (mp++mo) f=some o:=ho;rw [uO] at ho;cases KJ:aI mp f with
    |some o1=>exact .inl ⟨No _ (zT f o1 KJ).1,trivial⟩
    |none=>
     right;simp only [KJ] at ho;obtain ⟨g0,o0,g1,_⟩:=hmo f o ho;obtain ⟨I,cells,_,_,_,_,g5⟩:=(h.iK f o0 g1).row;refine ⟨OJ (g5 b hb).1 (by rw [<-RY.2];exact m2 f g0),?_,?_⟩
     ·intro t cs ht DY;obtain ⟨_,Ge,k2⟩:=HF t cs ht;exact h.bf t Ge f o0 k2 g1 (by rw [DY];exact hb)
     ·intro f2 o2 cB DY;obtain ⟨k0,o20,k1,_⟩:=zT f2 o2 cB;have:=h.ff f f2 o0 o20 b g1 k1 hb DY;subst this;exact m4 f g0 k0
   ·intro f o I cells b ho hp hz hI dn hb j hj;have ho:aI (mp++mo) f=some o:=ho;rw [uO] at ho;cases KJ:aI mp f with
    |some o1=>simp only [KJ,AT] at ho;subst ho;exact acy f o1 I cells b KJ hz hI dn hb j hj
    |none=>
     simp only [KJ] at ho;obtain ⟨g0,_⟩:=hmo f o ho;exfalso;rcases ab0.1 hp with hp|hp
     ·exact m4 f g0 hp
     ·exact m2 f g0 hp
  ·refine ⟨afh Z p q RY.1 RY.2 h.defers.2.2.2 (λ_ h=>h) ?_ ?_ f3.ch,afi,pJ,λt ht=>aaG _ (by rw [RY.1];exact ht),λ_ _=>rfl,λt ht=>No _ (agK t ht),?_,?_,?_,?_,Yt,acM⟩
   ·intro t cs ht;obtain ⟨_,Ge,g2⟩:=HF t cs ht;have hs:=h.slot t;have g2':aq (St.fr ⟨p,q,fr,m⟩) t= .box Ge:=g2;rw [g2'] at hs;exact hs.2.ch
   ·intro f o b ho hb;obtain ⟨_,o0,g1,_⟩:=zT f o ho;obtain ⟨I,cells,_,_,_,_,g5⟩:=(h.iK f o0 g1).row;exact (g5 b hb).1
   ·intro t cs ht hz;exact hz.2.1 t cs ht rfl
   ·intro f o b ho hb hz;exact hz.2.2 f o ho hb
   ·intro t ht;exact ⟨by rw [<-RY.1];exact m1 t ht,by show t∉hn.cA++p;simp only [ab0,not_or];exact ⟨m3 t ht,m1 t ht⟩⟩
   ·intro f hf;refine ⟨by rw [<-RY.2];exact m2 f hf,?_⟩;cases KJ:aI mp f with
    |none=>first|exact KJ|rfl
    |some o1=>exact absurd (zT f o1 KJ).1 (m4 f hf)
  ·refine ⟨afh Zi _ _ rfl rfl (λ_ _=>rfl) (λt ht=>aaG _ (by rw [RY.1];exact ht)) ?_ ?_ pJ,λb hb=>hb,pJ,λt ht=>ht,λ_ _=>rfl,λt ht=>No _ (agK t ht),?_,?_,?_,?_,Yt,acM⟩
   ·intro t cs ht;exact .inl ⟨No _ (HF t cs ht).1,trivial⟩
   ·intro f o b ho hb;exact .inl ⟨No _ (zT f o ho).1,trivial⟩
   ·intro t cs ht hz;exact hz.2.1 t cs ht rfl
   ·intro f o b ho hb hz;exact hz.2.2 f o ho hb
   ·intro t ht;have:t∉hn.cA++p:=by simp only [ab0,not_or];exact ⟨m3 t ht,m1 t ht⟩
    exact ⟨this,this⟩
   ·intro f hf;refine ⟨by show f∉hn.cy++q;simp only [ab0,not_or];exact ⟨m4 f hf,m2 f hf⟩,?_⟩;cases KJ:aI mp f with
    |none=>first|exact KJ|rfl
    |some o1=>exact absurd (zT f o1 KJ).1 (m4 f hf)
theorem C2 {K2:St->St->Option R}(h:bS c Z e st a w)(hK:Eb c hn st K2=some r): ∃Zi e1 e2 eJ eg,bS c Zi e1 eJ a w/\Trans Z.In e.φ w e1.φ w/\e2.φ=e1.φ/\e2.key=e1.key/\wm c Z Zi e2 (BV st eg) hn a w/\wm c Zi Zi e2 eg hn a w/\(∀b,Zi.In b->Z.In b)/\eC c hn.all=true/\K2 eJ eg=some r:=by unfold Eb at hK;obtain ⟨Zi,e1,e2,eJ,eg,h1,t1,hφ,hk,j1,j2,eZ,iJ,hK⟩:=Vt h hK;obtain ⟨fr,g1,g2⟩:=Hs h (Po h.nodup) h1 hK;exact ⟨Zi,e1,e2,_,eg,g1,t1,hφ,hk,j1,j2,eZ,iJ,g2⟩
end
end Dn
/-
  What a piece of code hands on. Conditions: none.
-/
namespace Dn
open Go
section
variable {P:Program}{c:Ctx}{Z Zb Zi:bC} {e e' e3:Env}{st bY oP B:St} {a a':Act} {w w':World}{R:Type}{K:St->Option R}{r:R}{Q:Exit->Act->World->Prop}{o:Oper}{hn:qI}
structure Ev (S:Nat->Prop) (e e':Env):Prop where
 key:e'.key=e.key
 φ:e'.φ=e.φ
 iK: ∀f o,aI e'.m f=some o->S f->(∃o0,aI e.m f=some o0)/\e'.E f=e.E f
theorem Ev.refl (S:Nat->Prop)(e:Env):Ev S e e:=⟨rfl,rfl,λf o h _=>⟨⟨o,h⟩,rfl⟩⟩
theorem Ev.trans {S:Nat->Prop} {e e' e'':Env}(h:Ev S e e') (h':Ev S e' e''):Ev S e e'':=⟨h'.key.trans h.key,h'.φ.trans h.φ,λf o ho hs=>by obtain ⟨⟨o1,g1⟩,g2⟩:=h'.iK f o ho hs;obtain ⟨g3,g4⟩:=h.iK f o1 g1 hs;exact ⟨g3,g2.trans g4⟩⟩
theorem Ev.ajK {S S':Nat->Prop} {e e':Env}(h:Ev S e e')(hs: ∀f,S' f->S f):Ev S' e e':=⟨h.key,h.φ,λf o ho hf=>h.iK f o ho (hs f hf)⟩
theorem aM.ev {S:Nat->Prop}(h:Ev S e e'){vs:List Value}{l:aE}(hl: ∀f,l= .own f->S f)(hr:aM e vs l):aM e' vs l:=by
 cases l with
 |own f=>obtain ⟨v,rfl,hv,hf⟩:=hr;refine ⟨v,rfl,hv,λo' B1=> ?_⟩;obtain ⟨⟨o,ho⟩,hE⟩:=h.iK f o' B1 (hl f rfl);rw [hE];exact hf o ho
 |p m=>exact ⟨hr.1,by rw [h.key,h.φ];exact hr.2⟩
 |_=>exact hr
theorem av.ev {S:Nat->Prop}(h:Ev S e e'){cs:List aE}: ∀{vs:List Value},(∀f,aE.own f∈cs->S f)->av e vs cs->av e' vs cs:=by
 induction cs with
 |nil=>intro vs _ hr;exact hr
 |cons l r ih=>intro vs hl hr;obtain ⟨v,u,rfl,h1,h2⟩:=hr;exact ⟨v,u,rfl,h1.ev h (λf hf=>hl f (by simp [hf])),ih (λf hf=>hl f (by simp [hf])) h2⟩
theorem kr.ev {S:Nat->Prop}(h:Ev S e e'){ob:Obj}{cs:List aE}(hl: ∀f,aE.own f∈cs->S f)(hr:kr e ob cs):kr e' ob cs:=by
 cases ob with
 |cells arr T z=>exact ⟨hr.1,hr.2.ev h hl⟩
 |map es clock=>exact hr
 |stringIter x pos=>exact hr
 |_=>exact hr.elim
theorem ab.ev {S:Nat->Prop}(h:Ev S e e'){v:Value}{s:Slot}(hp:dq s=false)(hl: ∀f,aE.own f∈oX s->S f)(hr:ab e v s):ab e' v s:=by
 have YL:ki (λ_=>False) (λ_=>False) e e':=⟨h.key,by rw [h.φ];exact .refl _,λ_ hf=>hf.elim,λ_ _ _ hf=>hf.elim⟩
 cases s with
 |sc l=>
  cases l<;>first|exact hr|skip
  ·exact aM.ev (l:= .p _) h (λf hf=>by cases hf) hr
  ·rename_i f;exact aM.ev (l:= .own f) h (λf hf=>hl f (by simp [oX,hf])) hr
 |ag cs=>simp only [ab] at hr⊢;obtain ⟨arr,h1,h2⟩:=hr;exact ⟨arr,h1,h2.ev h (λf hf=>hl f hf)⟩
 |tg cs=>simp only [ab] at hr⊢;obtain ⟨arr,h1,h2⟩:=hr;exact ⟨arr,h1,h2.ev h (λf hf=>hl f hf)⟩
 |ptr=>simp [dq] at hp
 |zq=>simp [dq] at hp
 |rp=>simp [dq] at hp
 |hp=>simp [dq] at hp
 |ep=>simp [dq] at hp
 |_=>exact hr.on YL (by simp [fF])
theorem wo {fr:Fr}{s:Slot}(h:dq s=false):cC fr s:=by cases s<;>simp [dq] at h<;>trivial
theorem bS.acN {t:Nat}{s:Slot}(h:bS c Z e st a w)(hp: ∀t,dq (aq st.fr t)=false)(hs:dq s=false)(hb:cV s=false)(hr:ab e (a.tmps.getD t undef) s): bS c Z e {st with fr:=cj st.fr t s} a w:=by
 have hg: ∀t',aq (cj st.fr t s) t'=if t'=t then s else aq st.fr t':=λt'=>bL _ _ _ _
 have vt: ∀t' cs,aq (cj st.fr t s) t'= .box cs->t'≠t/\aq st.fr t'= .box cs:=by
  intro t' cs ht;rw [hg] at ht;by_cases vv:t'=t
  ·rw [if_pos vv] at ht;subst ht;simp [cV] at hb
  ·rw [if_neg vv] at ht;exact ⟨vv,ht⟩
 refine ⟨h.defers,h.size,h.m,h.key,ej h.nodup,?_,?_,h.iK,?_,?_,h.ff,h.kZ,h.ch⟩
 ·intro t';show bW Z e w t' _ (aq (cj st.fr t s) t');rw [hg];by_cases vv:t'=t
  ·subst vv;simp only [if_true];cases s<;>first|exact hr|(simp [cV] at hb)
  ·simp only [vv,if_false];exact h.slot t'
 ·intro t';show cC _ (aq (cj st.fr t s) t');rw [hg];by_cases vv:t'=t
  ·simp only [vv,if_true];exact wo hs
  ·simp only [vv,if_false];exact wo (hp t')
 ·intro t1 t2 c1 c2 h1 h2 cR;exact h.bb t1 t2 c1 c2 (vt t1 c1 h1).2 (vt t2 c2 h2).2 cR
 ·intro t1 c1 f o h1 h2;exact h.bf t1 c1 f o (vt t1 c1 h1).2 h2
theorem bS.agL {t a8:Nat}{cs:List aE}(h:bS c Z e st a w)(hp: ∀t,dq (aq st.fr t)=false)(hv:tied Z t (a.tmps.getD t undef) cs a8)(CV:uI (Z.bz t) e w a8 cs)(h1: ∀t' fU,aq st.fr t'= .box fU->t'≠t->e.B t'≠a8)(h2: ∀f o,aI st.aP f=some o->(e.E f).ownBlock≠some a8): bS c Z (e.Bh t a8) {st with fr:=cj st.fr t (.box cs)} a w:=by
 have rS:ki (λ_=>True) (λ_=>False) e (e.Bh t a8):=⟨rfl,.refl _,λr hr=>hr.elim,λf o ho _=>⟨o,ho,rfl,rfl⟩⟩
 have hg: ∀t',aq (cj st.fr t (.box cs)) t'=if t'=t then .box cs else aq st.fr t':=λt'=>bL _ _ _ _
 refine ⟨h.defers,h.size,h.m,h.key,ej h.nodup,?_,?_,λf o ho=>(h.iK f o ho).env rfl rfl,?_,?_,h.ff,h.kZ,h.ch⟩
 ·intro t';show bW Z _ w t' _ (aq (cj st.fr t (.box cs)) t');rw [hg];by_cases vv:t'=t
  ·subst vv;simp only [if_true,bW,Env.Bh];exact ⟨hv,CV.env rfl rfl rfl rfl⟩
  ·simp only [vv,if_false];have hs:=h.slot t';have Nl:=hp t';generalize aq st.fr t'=s at hs Nl;cases s<;>simp only [bW] at hs⊢ <;>first|(simp [dq] at Nl;done)|exact hs.on rS (by simp [fF,jB])|skip
   simp only [Env.Bh,vv,if_false];exact ⟨hs.1,hs.2.env rfl rfl rfl rfl⟩
 ·intro t';show cC _ (aq (cj st.fr t (.box cs)) t');rw [hg];by_cases vv:t'=t
  ·simp only [vv,if_true];trivial
  ·simp only [vv,if_false];exact wo (hp t')
 ·intro t1 t2 c1 c2 g1 g2 cR;have g1:aq (cj st.fr t (.box cs)) t1= .box c1:=g1;have g2:aq (cj st.fr t (.box cs)) t2= .box c2:=g2;rw [hg] at g1 g2;simp only [Env.Bh];by_cases k1:t1=t
  ·by_cases k2:t2=t
   ·exact absurd (k1.trans k2.symm) cR
   ·rw [if_neg k2] at g2;simp only [k1,k2,if_true,if_false];exact λhe=>h1 t2 c2 g2 k2 he.symm
  ·rw [if_neg k1] at g1;by_cases k2:t2=t
   ·simp only [k1,k2,if_true,if_false];exact h1 t1 c1 g1 k1
   ·rw [if_neg k2] at g2;simp only [k1,k2,if_false];exact h.bb t1 t2 c1 c2 g1 g2 cR
 ·intro t1 c1 f o g1 g2;have g1:aq (cj st.fr t (.box cs)) t1= .box c1:=g1;rw [hg] at g1;simp only [Env.Bh];by_cases k1:t1=t
  ·simp only [k1,if_true];exact h2 f o g2
  ·rw [if_neg k1] at g1;simp only [k1,if_false];exact h.bf t1 c1 f o g1 g2
def Env.NG (e:Env)(f:Nat)(v:Value)(fo:oM):Env:={e with E:=λg=>if g=f then v else e.E g,m:=bR e.m f fo}
theorem bS.Y3 {f:Nat}{v:Value}{fo:oM}(h:bS c Z e st a w)(hp: ∀t,dq (aq st.fr t)=false)(zJ:f∉Z.cy)(gd:cu c Z.nc e w v fo)(hb: ∀b,v.ownBlock=some b->(∀t cs,aq st.fr t= .box cs->e.B t≠b)/\(∀g o,g≠f->aI st.aP g=some o->(e.E g).ownBlock≠some b))(GL:Ev (λg=> ∃t,aE.own g∈oX (aq st.fr t)) e (e.NG f v fo)):bS c Z (e.NG f v fo) {st with aP:=bR st.aP f fo} a w:=by
 refine ⟨h.defers,h.size,by show bR e.m f _=bR st.aP f _;rw [h.m],h.key,h.nodup,?_,h.root,?_,h.bb,?_,?_,h.kZ,h.ch⟩
 ·intro t;have hs:=h.slot t;have hl: ∀f,aE.own f∈oX (aq st.fr t)-> ∃t,aE.own f∈oX (aq st.fr t):=λf hf=>⟨t,hf⟩
  have hpt:=hp t;show bW Z _ w t _ (aq st.fr t);generalize aq st.fr t=s at hs hpt hl;by_cases Eh: ∃cs,s= .box cs
  ·obtain ⟨cs,rfl⟩:=Eh;simp only [bW] at hs⊢;obtain ⟨o2,h1,h2⟩:=hs.2.obj;exact ⟨hs.1,hs.2.ch,⟨o2,h1,h2.ev GL hl⟩,hs.2.free⟩
  ·have yu:ab e (a.tmps.getD t undef) s:=by cases s<;>simp only [bW] at hs<;>first|exact hs|exact absurd ⟨_,rfl⟩ Eh
   have h2:=yu.ev GL hpt hl;cases s<;>first|exact h2|exact absurd ⟨_,rfl⟩ Eh
 ·intro f2 o2 cB;have cB:aI (bR st.aP f fo) f2=some o2:=cB;rw [bm] at cB;show cu c (Z.fz f2) _ w (if f2=f then v else e.E f2) o2;by_cases eU:f2=f
  ·rw [if_pos eU];rw [if_pos eU] at cB;cases cB;rw [eU];exact (gd.to zJ).env rfl rfl
  ·rw [if_neg eU];rw [if_neg eU] at cB;exact (h.iK f2 o2 cB).env rfl rfl
 ·intro t c1 f2 o2 h1 h2;have h2:aI (bR st.aP f fo) f2=some o2:=h2;rw [bm] at h2;show (if f2=f then v else e.E f2).ownBlock≠some (e.B t);by_cases eU:f2=f
  ·rw [if_pos eU];intro hh;exact (hb _ hh).1 t c1 h1 rfl
  ·rw [if_neg eU] at h2⊢;exact h.bf t c1 f2 o2 h1 h2
 ·intro f1 f2 o1 o2 k h1 h2 h3 h4;have h1:aI (bR st.aP f fo) f1=some o1:=h1;have h2:aI (bR st.aP f fo) f2=some o2:=h2;have h3:(if f1=f then v else e.E f1).ownBlock=some k:=h3;have h4:(if f2=f then v else e.E f2).ownBlock=some k:=h4;rw [bm] at h1 h2;by_cases k1:f1=f
  ·by_cases k2:f2=f
   ·rw [k1,k2]
   ·rw [if_pos k1] at h3;rw [if_neg k2] at h4 h2;exact absurd h4 ((hb k h3).2 f2 o2 k2 h2)
  ·rw [if_neg k1] at h3 h1;by_cases k2:f2=f
   ·rw [if_pos k2] at h4;exact absurd h3 ((hb k h4).2 f1 o1 k1 h1)
   ·rw [if_neg k2] at h4 h2;exact h.ff f1 f2 o1 o2 k h1 h2 h3 h4
inductive TK (st:St) (ps:List (Nat×Nat)):LK->aE->MV->List (Nat×Nat)->Prop
 |NF:TK st ps (.k .l) .nil (.list []) ps
 |hs (x:kM):TK st ps (.k .h) (.hs x) (.h x) ps
 |p (x:Kd) (m:MV):TK st ps (.k x) (.p m) m ps
 |own (f ty:Nat) (ei:Bool) (g:Nat) (o:oM):aI st.aP g=some o->o.ty=ty->(o.ei=true->ei=true)->g∉st.cy->mY ps f (g+1)=true->TK st ps (.own f ty ei) (.own g) (.list o.xs) ((f,g+1)::ps)
 |xv (f ty:Nat) (ei:Bool):mY ps f 0=true->TK st ps (.own f ty ei) .nil (.list []) ((f,0)::ps)
theorem RZ {k:Kd}{m:MV} {K':aE->Option R}(h:jL k m K'=some r): ∃l,K' l=some r:=by obtain ⟨l,_,h⟩:=nW (e:=⟨λn=>n,λ_ _=>none,λ_=>undef,λ_=>0,[]⟩) (vs:=[]) h;exact ⟨l,h⟩
theorem PA {ps:List (Nat×Nat)}{k:LK}{l:aE} {K':MV->List (Nat×Nat)->Option R}(h:M9 st ps k l K'=some r): ∃m kl,TK st ps k l m kl/\K' m kl=some r:=by
 unfold M9 at h;split at h
 ·exact ⟨_,_,.NF,h⟩
 ·exact ⟨_,_,.hs _,h⟩
 ·obtain ⟨_,h⟩:=RZ h;exact ⟨_,_,.p _ _,h⟩
 ·rename_i f ty ei g;cases ho:aI st.aP g with
  |none=>simp [ho] at h
  |some o=>
   simp only [ho] at h;cases hc:!IT o.ty ty||(o.ei&&!ei)||bx st.cy g||!mY ps f (g+1) with
   |true=>simp [hc] at h
   |false=>
    simp only [hc,cond_false] at h;simp only [BY,abZ] at hc;obtain ⟨⟨⟨h1,h2⟩,h3⟩,h4⟩:=hc;refine ⟨_,_,.own f ty ei g o ho (AI h1) ?_ ?_ h4,h⟩
    ·intro hz;rw [hz] at h2;simpa using h2
    ·rw [<-bu,h3];simp
 ·rename_i f ty ei;cases hc:mY ps f 0 with
  |false=>simp [hc] at h
  |true=>simp only [hc,cond_true] at h;exact ⟨_,_,.xv f ty ei hc,h⟩
 ·simp at h
theorem Fu {ps:List (Nat×Nat)}{f g:Nat}(h:mY ps f g=true):(∀b,(f,b)∈ps->b=g/\g≠0)/\(∀x,(x,g)∈ps->x≠f->g=0):=by
 induction ps with
 |nil=>simp
 |cons p ps ih=>
  obtain ⟨x,y⟩:=p;simp only [mY,sh,fm] at h;obtain ⟨h1,h2⟩:=h;obtain ⟨i1,i2⟩:=ih h2;refine ⟨?_,?_⟩
  ·intro b hb;rcases bN.1 hb with hb|hb
   ·cases hb;simp at h1;exact ⟨h1.1,h1.2⟩
   ·exact i1 b hb
  ·intro z hz cR;rcases bN.1 hz with hz|hz
   ·cases hz;simp [cR] at h1;exact h1
   ·exact i2 z hz cR
structure Inv (c:Ctx) (Zb Zi:bC) (e3:Env) (oP:St) (F:List Nat) (ps:List (Nat×Nat)) (e:Env) (st:St) (a:Act) (w:World):Prop where
 sU:bS c Zb e st a w
 φ:e.φ=e3.φ
 box: ∀t cs,aq st.fr t= .box cs-> ¬Zi.In (e.B t)\/(e.B t=e3.B t/\ ∃ur,aq oP.fr t= .box ur)
 iK: ∀f o b,aI st.aP f=some o->(e.E f).ownBlock=some b-> ¬Zi.In b\/ ∃g,(f,g+1)∈ps
 pair: ∀f g,(f,g+1)∈ps->e.E f=e3.E g/\ ∃o3,aI oP.aP g=some o3
 has: ∀f x,(f,x)∈ps-> ∃o,aI st.aP f=some o
 own: ∀f∈F,∀o,aI st.aP f=some o-> ∃x,(f,x)∈ps
 ptr: ∀t,dq (aq st.fr t)=false
 men: ∀t f,aE.own f∈oX (aq st.fr t)->f∉F\/ ∃x,(f,x)∈ps
theorem Vu {F:List Nat}{ps kl:List (Nat×Nat)}{k:LK}{l:aE}{m:MV}{vs:List Value} {K':aE->St->Option R}(hi:Inv c Zb Zi e3 oP F ps e st a w)(h3:bS c Zi e3 oP a w)(eZ: ∀b,Zi.In b->Zb.In b)(hF: ∀f∈bt [k],f∈F/\f∉Zb.cy)(hl:aM e3 vs l)(ht:TK oP ps k l m kl)(hK:ll st k m K'=some r)(iJ: ∀f ty ei,k= .own f ty ei-> ∃I,c.ti ty=some I/\I.ct=[]): ∃e' bY l',K' l' bY=some r/\Inv c Zb Zi e3 oP F kl e' bY a w/\aM e' vs l'/\bY.fr=st.fr/\Ev (λf=>f∉F\/ ∃x,(f,x)∈ps) e e'/\(∀p∈ps,p∈kl)/\(∀f,l'= .own f-> ∃x,(f,x)∈kl)/\e'.B=e.B/\l'≠ .un:=by
 have hkφ: ∀{vs m},gY e3.key e3.φ vs m->gY e.key e.φ vs m:=by intro vs m h;rw [hi.φ,hi.sU.key,<-h3.key];exact h
 have simple: ∀{x:Kd} {m:MV},gY e3.key e3.φ vs m->(jL x m λl=>K' l st)=some r-> ∃e' bY l',K' l' bY=some r/\Inv c Zb Zi e3 oP F ps e' bY a w/\aM e' vs l'/\bY.fr=st.fr/\Ev (λf=>f∉F\/ ∃x,(f,x)∈ps) e e'/\(∀p∈ps,p∈ps)/\(∀f,l'= .own f-> ∃x,(f,x)∈ps)/\e'.B=e.B/\l'≠ .un:=by
  intro x m hr hK;obtain ⟨l',Fe,hK⟩:=nW (e:=e) (vs:=vs) hK;refine ⟨e,st,l',hK,hi,Fe.rep (hkφ hr),rfl,.refl _ _,λp hp=>hp,λf hf=> ?_,rfl,λhu=> ?_⟩
  ·have:=Fe.Xx;rw [hf] at this;simp [sM] at this
  ·have:=Fe.Xx;rw [hu] at this;simp [sM] at this
 cases ht with
 |NF=>have hl:vs=[.slice none 0 0]:=hl;subst hl;exact simple (x:= .l) (.list none 0 [] 0 0 0 (λ_=>[]) (by simp) (by simp) (by simp) (by simp) (by simp)) hK
 |hs x=>have hl:vs=bq x:=hl;subst hl;exact simple (x:= .h) (.h x) hK
 |p x m=>exact simple hl.2 hK
 |own f ty ei g o3 ho ajL hfz hg hpo=>
  obtain ⟨v,rfl,hv,hE⟩:=hl;have hE:=hE o3 (by rw [h3.m];exact ho);obtain ⟨hfF,hfp⟩:=hF f (by simp [bt]);obtain ⟨p1,p2⟩:=Fu hpo;simp only [ll,gL,oV] at hK;have hgz:g∉Zi.cy:=by rw [<-h3.defers.2.2.1];exact hg
  obtain ⟨I,cells,q1,q2,q3,q4,q5⟩:=(h3.iK g o3 ho).row;have rX: ∀b,v.ownBlock=some b->Zi.In b:=λb hb=>OJ (q5 b (by rw [<-hE];exact hb)).1 hgz;have gd:cu c Zb.nc e w v ⟨ty,ei,o3.xs⟩:=by refine ⟨I,cells,by rw [<-ajL];exact q1,q2,by rw [<-ajL,hE];exact q3,by rw [hi.φ,hi.sU.key,<-h3.key];exact q4,λa8 hb=>⟨eZ _ (rX a8 hb),λoff u hu=> ?_,λhc=>hc.elim⟩⟩;rw [hi.φ] at hu;obtain ⟨k1,k2⟩:=(q5 a8 (by rw [<-hE];exact hb)).2.1 off u hu;exact ⟨hfz k1,k2⟩
  have hold: ∀x,(f,x)∈ps->e.E f=v:=by intro x hx;have:=(p1 x hx).1;subst this;rw [(hi.pair f g hx).1,hE]
  have R0: ∀S:Nat->Prop,(S f-> ∃x,(f,x)∈ps)->Ev S e (e.NG f v ⟨ty,ei,o3.xs⟩):=by
   intro S hS;refine ⟨rfl,rfl,λf2 o2 cB hs=> ?_⟩;have cB:aI (bR e.m f ⟨ty,ei,o3.xs⟩) f2=some o2:=cB;rw [bm] at cB;by_cases eU:f2=f
   ·subst eU;obtain ⟨x,hx⟩:=hS hs;obtain ⟨o0,h0⟩:=hi.has f2 x hx;exact ⟨⟨o0,by rw [hi.sU.m];exact h0⟩,by simp only [Env.NG,if_true];exact (hold x hx).symm⟩
   ·rw [if_neg eU] at cB;exact ⟨⟨o2,cB⟩,by simp only [Env.NG,eU,if_false]⟩
  have GM: ∀b,v.ownBlock=some b->(∀t cs,aq st.fr t= .box cs->e.B t≠b)/\(∀g' o',g'≠f->aI st.aP g'=some o'->(e.E g').ownBlock≠some b):=by
   intro b hb;refine ⟨λt cs CV hbt=> ?_,λg' o' cR hog hbg=> ?_⟩
   ·rcases hi.box t cs CV with h0|⟨h0,ur,h1⟩
    ·exact h0 (by rw [hbt];exact rX b hb)
    ·exact h3.bf t ur g o3 h1 ho (by rw [<-hE,<-h0,hbt];exact hb)
   ·rcases hi.iK g' o' b hog hbg with h0|⟨x,h0⟩
    ·exact h0 (rX b hb)
    ·obtain ⟨h5,o5,h6⟩:=hi.pair g' x h0;rw [h5] at hbg;have:=h3.ff g x o3 o5 b ho h6 (by rw [<-hE];exact hb) hbg;subst this;have:=p2 g' h0 cR;omega
  have oO:=hi.sU.Y3 hi.ptr hfp gd GM (R0 _ (λ⟨t,hm⟩=>(hi.men t f hm).resolve_left (λhn=>hn hfF)));refine ⟨_,_,.own f,hK,⟨oO,hi.φ,hi.box,?_,?_,?_,?_,hi.ptr,?_⟩,?_,rfl,R0 _ (λhs=>hs.resolve_left (λhn=>hn hfF)),λp hp=>by simp [hp],λf' O9=>by cases O9;exact ⟨g+1,by simp⟩,rfl,λhu=>by cases hu⟩
  ·intro f2 o2 b cB hb;have cB:aI (bR st.aP f ⟨ty,ei,o3.xs⟩) f2=some o2:=cB;have hb:(if f2=f then v else e.E f2).ownBlock=some b:=hb;rw [bm] at cB;by_cases eU:f2=f
   ·subst eU;exact .inr ⟨g,by simp⟩
   ·rw [if_neg eU] at cB hb;rcases hi.iK f2 o2 b cB hb with h0|⟨x,h0⟩
    ·exact .inl h0
    ·exact .inr ⟨x,by simp [h0]⟩
  ·intro f2 g2 hp;show (if f2=f then v else e.E f2)=_/\_;rcases bN.1 hp with Lx|Lx
   ·simp only [aa6,aci] at Lx;obtain ⟨rfl,rfl⟩:=Lx;simp only [if_true];exact ⟨hE,o3,ho⟩
   ·by_cases eU:f2=f
    ·subst eU;have:=(p1 _ Lx).1;have:g2=g:=by omega
     subst this;simp only [if_true];exact ⟨hE,o3,ho⟩
    ·rw [if_neg eU];exact hi.pair f2 g2 Lx
  ·intro f2 x hp;show∃o,aI (bR st.aP f ⟨ty,ei,o3.xs⟩) f2=some o;rw [bm];by_cases eU:f2=f
   ·rw [if_pos eU];exact ⟨_,rfl⟩
   ·rw [if_neg eU];rcases bN.1 hp with hp|hp
    ·exact absurd (Prod.mk.inj hp).1 eU
    ·exact hi.has f2 x hp
  ·intro f2 BB o2 cB;have cB:aI (bR st.aP f ⟨ty,ei,o3.xs⟩) f2=some o2:=cB;rw [bm] at cB;by_cases eU:f2=f
   ·subst eU;exact ⟨g+1,by simp⟩
   ·rw [if_neg eU] at cB;obtain ⟨x,hx⟩:=hi.own f2 BB o2 cB;exact ⟨x,by simp [hx]⟩
  ·intro t f2 hm;rcases hi.men t f2 hm with h0|⟨x,hx⟩
   ·exact .inl h0
   ·exact .inr ⟨x,by simp [hx]⟩
  ·exact ⟨v,rfl,hv,λo' _=>by simp [Env.NG]⟩
 |xv f ty ei hpo=>
  have hl:vs=[.slice none 0 0]:=hl;subst hl;obtain ⟨hfF,hfp⟩:=hF f (by simp [bt]);obtain ⟨p1,_⟩:=Fu hpo;have Vv: ∀x,(f,x)∉ps:=λx hx=>(p1 x hx).2 rfl;simp only [ll,gL,oV] at hK;obtain ⟨I,hI,Q5⟩:=iJ f ty ei rfl;have gd:cu c Zb.nc e w (.slice none 0 0) ⟨ty,ei,[]⟩:=⟨I,[],hI,Q5,⟨by simp,.inl ⟨rfl,rfl⟩⟩,rfl,λa8 hb=>by simp [AS] at hb⟩
  have R0: ∀S:Nat->Prop,(S f->False)->Ev S e (e.NG f (.slice none 0 0) ⟨ty,ei,[]⟩):=by
   intro S hS;refine ⟨rfl,rfl,λf2 o2 cB hs=> ?_⟩;have cB:aI (bR e.m f ⟨ty,ei,[]⟩) f2=some o2:=cB;rw [bm] at cB;by_cases eU:f2=f
   ·subst eU;exact (hS hs).elim
   ·rw [if_neg eU] at cB;exact ⟨⟨o2,cB⟩,by simp only [Env.NG,eU,if_false]⟩
  have oO:=hi.sU.Y3 hi.ptr hfp gd (λb hb=>by simp [AS] at hb) (R0 _ (λ⟨t,hm⟩=>(hi.men t f hm).elim (λhn=>hn hfF) (λ⟨x,hx⟩=>Vv x hx)));refine ⟨_,_,.own f,hK,⟨oO,hi.φ,hi.box,?_,?_,?_,?_,hi.ptr,?_⟩,?_,rfl,R0 _ (λhs=>hs.elim (λhn=>hn hfF) (λ⟨x,hx⟩=>Vv x hx)),λp hp=>by simp [hp],λf' O9=>by cases O9;exact ⟨0,by simp⟩,rfl,λhu=>by cases hu⟩
  ·intro f2 o2 b cB hb;have cB:aI (bR st.aP f ⟨ty,ei,[]⟩) f2=some o2:=cB;have hb:(if f2=f then acY none 0 0 else e.E f2).ownBlock=some b:=hb;rw [bm] at cB;by_cases eU:f2=f
   ·rw [if_pos eU] at hb;simp [AS] at hb
   ·rw [if_neg eU] at cB hb;rcases hi.iK f2 o2 b cB hb with h0|⟨x,h0⟩
    ·exact .inl h0
    ·exact .inr ⟨x,by simp [h0]⟩
  ·intro f2 g2 hp;show (if f2=f then acY none 0 0 else e.E f2)=_/\_;rcases bN.1 hp with Lx|Lx
   ·simp at Lx
   ·by_cases eU:f2=f
    ·subst eU;exact absurd Lx (Vv _)
    ·rw [if_neg eU];exact hi.pair f2 g2 Lx
  ·intro f2 x hp;show∃o,aI (bR st.aP f ⟨ty,ei,[]⟩) f2=some o;rw [bm];by_cases eU:f2=f
   ·rw [if_pos eU];exact ⟨_,rfl⟩
   ·rw [if_neg eU];rcases bN.1 hp with hp|hp
    ·exact absurd (Prod.mk.inj hp).1 eU
    ·exact hi.has f2 x hp
  ·intro f2 BB o2 cB;have cB:aI (bR st.aP f ⟨ty,ei,[]⟩) f2=some o2:=cB;rw [bm] at cB;by_cases eU:f2=f
   ·subst eU;exact ⟨0,by simp⟩
   ·rw [if_neg eU] at cB;obtain ⟨x,hx⟩:=hi.own f2 BB o2 cB;exact ⟨x,by simp [hx]⟩
  ·intro t f2 hm;rcases hi.men t f2 hm with h0|⟨x,hx⟩
   ·exact .inl h0
   ·exact .inr ⟨x,by simp [hx]⟩
  ·exact ⟨_,rfl,rfl,λo' _=>by simp [Env.NG]⟩
end
end Dn
/-
  What a piece of code hands on: all of it. Conditions: none.
-/
namespace Dn
open Go
theorem R2 {c:Ctx}{ks:List LK}(h:iL c ks=true): ∀f ty ei,LK.own f ty ei∈ks-> ∃I,c.ti ty=some I/\I.ct=[]:=by
 induction ks with
 |nil=>intro f ty ei hm;simp at hm
 |cons k ks ih=>
  intro f ty ei hm;cases k with
  |k x=>
   simp only [iL] at h;rcases bN.1 hm with hm|hm
   ·cases hm
   ·exact ih h f ty ei hm
  |own f' ty' an0=>
   simp only [iL] at h;cases hI:c.tv ty' with
   |none=>simp [hI] at h
   |some I=>
    simp only [hI] at h;rcases bN.1 hm with hm|hm
    ·cases hm;exact ⟨I,bj hI⟩
    ·exact ih h f ty ei hm
theorem Fw (k:LK)(ks:List LK):bt (k::ks)=bt [k]++bt ks:=by cases k<;>simp [bt]
section
variable {P:Program}{c:Ctx}{Z Zb Zi:bC} {e e' e3:Env}{st bY oP B:St} {a a':Act} {w w':World}{R:Type}{K:St->Option R}{r:R}{Q:Exit->Act->World->Prop}{o:Oper}{hn:qI}
inductive TKs (st:St):List (Nat×Nat)->List LK->List aE->List MV->List (Nat×Nat)->Prop
 |nil (ps):TKs st ps [] [] [] ps
 |cons {ps ps1 ps2 k l m ks ls ms}:TK st ps k l m ps1->TKs st ps1 ks ls ms ps2->TKs st ps (k::ks) (l::ls) (m::ms) ps2
theorem xx {ks:List LK}: ∀{ps:List (Nat×Nat)} {ls:List aE} {K':List MV->List (Nat×Nat)->Option R},kq st ps ks ls K'=some r-> ∃ms kl,TKs st ps ks ls ms kl/\K' ms kl=some r:=by
 induction ks with
 |nil=>
  intro ps ls K' h;cases ls with
  |nil=>exact ⟨[],ps,.nil ps,h⟩
  |cons=>simp [kq] at h
 |cons k ks ih=>
  intro ps ls K' h;cases ls with
  |nil=>simp [kq] at h
  |cons l ls=>simp only [kq] at h;obtain ⟨m,ps1,h1,h⟩:=PA h;obtain ⟨ms,ps2,h2,h⟩:=ih h;exact ⟨m::ms,ps2,.cons h1 h2,h⟩
theorem zU {F:List Nat}{ks:List LK}: ∀{ps kl:List (Nat×Nat)} {ls:List aE} {ms rest:List MV} {vs:List Value} {e:Env} {st:St} {K':List aE->List MV->St->Option R},Inv c Zb Zi e3 oP F ps e st a w->bS c Zi e3 oP a w->(∀b,Zi.In b->Zb.In b)-> (∀f∈bt ks,f∈F/\f∉Zb.cy)->iL c ks=true->av e3 vs ls->TKs oP ps ks ls ms kl->cQ st ks (ms++rest) K'=some r-> ∃e' bY yy,K' yy rest bY=some r/\Inv c Zb Zi e3 oP F kl e' bY a w/\av e' vs yy/\bY.fr=st.fr/\Ev (λf=>f∉F\/ ∃x,(f,x)∈ps) e e'/\(∀p∈ps,p∈kl)/\(∀f,aE.own f∈yy-> ∃x,(f,x)∈kl)/\e'.B=e.B/\(∀l∈yy,l≠ .un):=by
 induction ks with
 |nil=>intro ps kl ls ms rest vs e st K' hi h3 eZ hF iJ hl ht hK;cases ht;exact ⟨e,st,[],hK,hi,hl,rfl,.refl _ _,λp hp=>hp,λf hf=>by simp at hf,rfl,by simp⟩
 |cons k ks ih=>
  intro ps kl ls ms rest vs e st K' hi h3 eZ hF iJ hl ht hK;cases ht with
  |cons ht1 GO=>
   obtain ⟨v,u,rfl,CE,sv⟩:=hl;simp only [cQ,abN,gC] at hK;have sR:=R2 iJ;obtain ⟨e1,eJ,l',rU,uP,DZ,Ef,acP,Y4,BE,hB1,Y5⟩:=Vu hi h3 eZ (λf hf=>hF f (by rw [Fw];exact No _ hf)) CE ht1 hK (λf ty ei hk=>sR f ty ei (by rw [hk];simp));have Y6:iL c ks=true:=by
    cases k with
    |k x=>exact iJ
    |own f ty ei=>
     simp only [iL] at iJ;cases hI:c.tv ty with
     |none=>simp [hI] at iJ
     |some I=>simpa [hI] using iJ
   obtain ⟨e2,eg,yy,yV,XA,O6,ack,ajO,ajP,ajQ,hB2,aoh⟩:=ih uP h3 eZ (λf hf=>hF f (by rw [Fw];exact aaG _ hf)) Y6 sv GO rU;refine ⟨e2,eg,l'::yy,yV,XA,⟨v,u,rfl,?_,O6⟩,ack.trans Ef,acP.trans (ajO.ajK ?_),λp hp=>ajP p (Y4 p hp),?_,hB2.trans hB1,by intro l hl;rcases bN.1 hl with rfl|hl<;>first|exact Y5|exact aoh l hl⟩
   ·exact DZ.ev ajO (λf hf=> .inr (BE f hf))
   ·rintro f (hf|⟨x,hx⟩)
    ·exact .inl hf
    ·exact .inr ⟨x,Y4 _ hx⟩
   ·intro f hf;rcases bN.1 hf with hf|hf
    ·obtain ⟨x,hx⟩:=BE f hf.symm;exact ⟨x,ajP _ hx⟩
    ·exact ajQ f hf
inductive TO (st:St):List (Nat×Nat)->List (Nat×OK)->List MV->Prop
 |nil (ps):TO st ps [] []
 |sc {ps kl t k l ms r ns}:aq st.fr t= .sc l->TKs st ps [k] [l] ms kl->TO st kl r ns->TO st ps ((t,.sc k)::r) (ms++ns)
 |ag {ps kl t ks ls ms r ns}:aq st.fr t= .ag ls->TKs st ps ks ls ms kl->TO st kl r ns->TO st ps ((t,.ag ks)::r) (ms++ns)
 |box {ps kl t ks ls ms r ns}:aq st.fr t= .box ls->TKs st ps ks ls ms kl->TO st kl r ns->TO st ps ((t,.box ks)::r) (ms++ns)
 |mp {ps t s es r ns}:aq st.fr t= .box [.mp s es]->TO st ps r ns->TO st ps ((t,.mp s)::r) (.list es::ns)
 |pt {ps t root off r ns}:aq st.fr t= .ptr root off->zt root=false->D5 (aq st.fr root)=true->TO st ps r ns->TO st ps ((t,.pt root off)::r) ns
theorem pW {os:List (Nat×OK)}: ∀{ps:List (Nat×Nat)} {R:Type} {r:R} {K':List MV->Option R},eH st ps os K'=some r-> ∃ms,TO st ps os ms/\K' ms=some r:=by
 induction os with
 |nil=>intro ps R r K' h;exact ⟨[],.nil ps,h⟩
 |cons p os ih=>
  intro ps R r K' h;obtain ⟨t,k⟩:=p;simp only [eH] at h;split at h
  ·rename_i k l hf;obtain ⟨ms,kl,h1,h⟩:=xx h;obtain ⟨ns,h2,h⟩:=ih h;simp only [xg] at h;exact ⟨_,.sc hf h1 h2,h⟩
  ·rename_i ks ls hf;obtain ⟨ms,kl,h1,h⟩:=xx h;obtain ⟨ns,h2,h⟩:=ih h;simp only [xg] at h;exact ⟨_,.ag hf h1 h2,h⟩
  ·rename_i ks ls hf;obtain ⟨ms,kl,h1,h⟩:=xx h;obtain ⟨ns,h2,h⟩:=ih h;simp only [xg] at h;exact ⟨_,.box hf h1 h2,h⟩
  ·rename_i s s' es hf;cases hm:msB s s' with
   |false=>simp [hm] at h
   |true=>simp only [hm,cond_true] at h;have:=YH hm;subst this;obtain ⟨ns,h2,h⟩:=ih h;exact ⟨_,.mp hf h2,h⟩
  ·rename_i root off XY Rn hf;cases hc:IT root XY&&(IT off Rn&&(!zt root&&D5 (aq st.fr root))) with
   |false=>simp [hc] at h
   |true=>rw [hc] at h;simp only [sh,abL] at hc;obtain ⟨k1,k2,k3,k4⟩:=hc;have k1:=AI k1;have k2:=AI k2;subst k1 k2;obtain ⟨ns,h2,h⟩:=ih h;exact ⟨_,.pt hf k3 k4 h2,h⟩
  ·simp at h
theorem Y7 {os:List (Nat×OK)}: ∀{ps:List (Nat×Nat)} {ms:List MV} {st:St},bS c Zb e st a w->bS c Zi e3 oP a w->TO oP ps os ms->XZ os ms st K=some r-> ∃bY,bS c Zb e bY a w/\K bY=some r:=by
 induction os with
 |nil=>intro ps ms st h h3 ht hK;cases ht;exact ⟨st,h,hK⟩
 |cons p os ih=>
  obtain ⟨t,k⟩:=p;intro ps ms st h h3 ht hK;cases k with
  |pt root off=>
   cases ht with
   |pt hf hp hb GO=>
    obtain ⟨pr,q,fr,m⟩:=st;simp only [XZ] at hK;cases hc:!zt root&&(D5 (aq fr root)&&!cV (aq fr t)) with
    |false=>simp [hc] at hK
    |true=>
     rw [hc] at hK;simp only [sh,abL] at hc;obtain ⟨_,sw,hn⟩:=hc;simp only [cond_true,mB] at hK;obtain ⟨cs,Np,_⟩:=AM sw;have hB:=Pn h3 h hp hb sw;have hv:ab e (a.tmps.getD t undef) (.ptr root off):=by have:=h3.slot t;rw [hf] at this;simp only [bW,ab] at this⊢;rw [hB];exact this
     exact ih (h.YG Np hn hv) h3 GO hK
  |_=>simp [XZ] at hK
theorem Vw {F:List Nat}{os:List (Nat×OK)}: ∀{ps:List (Nat×Nat)} {ms:List MV} {e:Env} {st:St},Inv c Zb Zi e3 oP F ps e st a w->bS c Zi e3 oP a w->(∀b,Zi.In b->Zb.In b)-> (∀f∈b9 os,f∈F/\f∉Zb.cy)->(∀t∈du os,t∉Zi.cA)->eC c os=true->TO oP ps os ms->nj st os ms K=some r-> ∃e' bY,bS c Zb e' bY a w/\e'.φ=e3.φ/\K bY=some r:=by
 induction os with
 |nil=>intro ps ms e st hi h3 eZ hF hk iJ ht hK;cases ht;exact ⟨e,st,hi.sU,hi.φ,hK⟩
 |cons p os ih=>
  intro ps ms e st hi h3 eZ hF hk iJ ht hK;obtain ⟨t,k⟩:=p;have h3t:=h3.slot t;have next: ∀{kl:List (Nat×Nat)} {s:Slot} {e1:Env} {eJ:St} {ns:List MV},Inv c Zb Zi e3 oP F kl e1 eJ a w->dq s=false->cV s=false->ab e1 (a.tmps.getD t undef) s->(∀f,aE.own f∈oX s-> ∃x,(f,x)∈kl)-> (∀f∈b9 os,f∈F/\f∉Zb.cy)->eC c os=true->TO oP kl os ns->(O1 eJ t s λst=>nj st os ns K)=some r-> ∃e' bY,bS c Zb e' bY a w/\e'.φ=e3.φ/\K bY=some r:=by
   intro kl s e1 eJ ns uP hp hb hr acM hF2 Y6 GO hK;simp only [O1,mB] at hK;have hg: ∀t',aq (cj eJ.fr t s) t'=if t'=t then s else aq eJ.fr t':=λt'=>bL _ _ _ _
   refine ih ⟨uP.sU.acN uP.ptr hp hb hr,uP.φ,?_,uP.iK,uP.pair,uP.has,uP.own,?_,?_⟩ h3 eZ hF2 (λt' B2=>hk t' (by simp [du,B2])) Y6 GO hK
   ·intro t' cs CV;have CV:aq (cj eJ.fr t s) t'= .box cs:=CV;rw [hg] at CV;by_cases vv:t'=t
    ·rw [if_pos vv] at CV;subst CV;simp [cV] at hb
    ·rw [if_neg vv] at CV;exact uP.box t' cs CV
   ·intro t';show dq (aq (cj eJ.fr t s) t')=false;rw [hg];by_cases vv:t'=t
    ·rw [if_pos vv];exact hp
    ·rw [if_neg vv];exact uP.ptr t'
   ·intro t' f hm;have hm:aE.own f∈oX (aq (cj eJ.fr t s) t'):=hm;rw [hg] at hm;by_cases vv:t'=t
    ·rw [if_pos vv] at hm;exact .inr (acM f hm)
    ·rw [if_neg vv] at hm;exact uP.men t' f hm
  have Y8: ∀{kl:List (Nat×Nat)} {ls yy:List aE} {ob:Obj} {e1:Env} {eJ:St} {ns:List MV},Inv c Zb Zi e3 oP F kl e1 eJ a w->aq oP.fr t= .box ls->tied Zb t (a.tmps.getD t undef) yy (e3.B t)->w.heap[e3.B t]? =some ob->kr e1 ob yy-> (∀f,aE.own f∈yy-> ∃x,(f,x)∈kl)->(∀f∈b9 os,f∈F/\f∉Zb.cy)->eC c os=true->TO oP kl os ns->(O1 eJ t (.box yy) λst=>nj st os ns K)=some r-> ∃e' bY,bS c Zb e' bY a w/\e'.φ=e3.φ/\K bY=some r:=by
   intro kl ls yy ob e1 eJ ns uP hf hv cz DZ BE hF2 Y6 GO rU;rw [hf] at h3t;have CV:=h3t.2;simp only [O1,mB] at rU;have htp:t∉Zi.cA:=hk t (by simp [du]);have rX:Zi.In (e3.B t):=OJ CV.ch htp;have hg: ∀t',aq (cj eJ.fr t (.box yy)) t'=if t'=t then .box yy else aq eJ.fr t':=λt'=>bL _ _ _ _
   have jC:=uP.sU.agL (t:=t) (a8:=e3.B t) (cs:=yy) uP.ptr hv ⟨.inr (eZ _ rX),⟨ob,cz,DZ⟩,λoff=>by rw [uP.φ];exact CV.free off⟩ (by
     intro t' fU CR cR RO;rcases uP.box t' fU CR with h0|⟨h0,ur,h1⟩
     ·exact h0 (by rw [RO];exact rX)
     ·exact h3.bb t' t ur ls h1 hf cR (by rw [<-h0];exact RO))
    (by
     intro f o ho RO;rcases uP.iK f o _ ho RO with h0|⟨g,h0⟩
     ·exact h0 rX
     ·obtain ⟨h5,o5,h6⟩:=uP.pair f g h0;rw [h5] at RO;exact h3.bf t ls g o5 hf h6 RO)
   refine ih (e:=e1.Bh t (e3.B t)) ⟨jC,uP.φ,?_,uP.iK,uP.pair,uP.has,uP.own,?_,?_⟩ h3 eZ hF2 (λt' B2=>hk t' (by simp [du,B2])) Y6 GO rU
   ·intro t' cs CR;have CR:aq (cj eJ.fr t (.box yy)) t'= .box cs:=CR;rw [hg] at CR;show¬Zi.In (if t'=t then e3.B t else e1.B t')\/((if t'=t then e3.B t else e1.B t')=e3.B t'/\_);by_cases vv:t'=t
    ·subst vv;simp only [if_true];exact .inr ⟨trivial,ls,hf⟩
    ·rw [if_neg vv] at CR⊢;exact uP.box t' cs CR
   ·intro t';show dq (aq (cj eJ.fr t (.box yy)) t')=false;rw [hg];by_cases vv:t'=t
    ·rw [if_pos vv];rfl
    ·rw [if_neg vv];exact uP.ptr t'
   ·intro t' f hm;have hm:aE.own f∈oX (aq (cj eJ.fr t (.box yy)) t'):=hm;rw [hg] at hm;by_cases vv:t'=t
    ·rw [if_pos vv] at hm;exact .inr (BE f hm)
    ·rw [if_neg vv] at hm;exact uP.men t' f hm
  cases ht with
  |sc hf ht1 GO=>
   rename_i kl k l ms ns;rw [hf] at h3t;simp only [eC] at iJ;cases HG:iL c [k] with
   |false=>simp [HG] at iJ
   |true=>
    simp only [HG,cond_true] at iJ;have hF1: ∀f∈bt [k],f∈F/\f∉Zb.cy:=λf hf=>hF f (by simp only [b9];exact No _ hf);have hF2: ∀f∈b9 os,f∈F/\f∉Zb.cy:=λf hf=>hF f (by simp only [b9];exact aaG _ hf);simp only [nj] at hK;have rL: ∃vs,aM e3 vs l/\ ∀(e1:Env) (l':aE),aM e1 vs l'->(∀m,l'= .p m->m.one=true)->l'≠ .un->ab e1 (a.tmps.getD t undef) (.sc l'):=by
     have h3s:ab e3 (a.tmps.getD t undef) (.sc l):=h3t;cases ht1 with
     |cons hk1 _=>
      generalize a.tmps.getD t undef=v at h3s;by_cases hh: ∃x,l= .hs x
      ·obtain ⟨x,rfl⟩:=hh;refine ⟨bq x,rfl,λe1 l' Fe ho hu=> ?_⟩;have hv:v= .agg (bq x).toArray:=h3s;have hlen:=cX x;cases l' with
       |un=>exact absurd rfl hu
       |hs y=>have Fe:bq x=bq y:=Fe;show v=_;rw [<-Fe];exact hv
       |nil=>have Fe:bq x=[_]:=Fe;rw [Fe] at hlen;simp at hlen
       |mp s es=>exact Fe.elim
       |own f=>obtain ⟨u,hu2,_⟩:=Fe;rw [hu2] at hlen;simp at hlen
       |p m=>obtain ⟨u,hu2,_⟩:=Fe.2.one (ho m rfl);rw [hu2] at hlen;simp at hlen
      ·have Y9:l≠ .un:=by intro he;subst he;cases hk1
       have eK:aM e3 [v] l:=(ab.af9 (λx he=>hh ⟨x,he⟩) Y9).1 h3s;refine ⟨[v],eK,λe1 l' Fe ho hu=> ?_⟩;cases l' with
       |un=>exact absurd rfl hu
       |hs y=>have Fe:[v]=bq y:=Fe;have:=cX y;rw [<-Fe] at this;simp at this
       |nil=>exact Fe
       |mp s es=>exact Fe
       |own f=>exact Fe
       |p m=>exact Fe
    obtain ⟨vs,pI,ajS⟩:=rL;obtain ⟨e1,eJ,yy,rU,uP,DZ,Ef,acP,Y4,BE,hB1,Y5⟩:=zU (vs:=vs) hi h3 eZ hF1 HG (show av e3 vs [l] from ⟨vs,[],by simp,pI,rfl⟩) ht1 hK;split at rU
    ·rename_i l';obtain ⟨v1,u1,hvu,CE,hu1⟩:=DZ;have hu1:u1=[]:=hu1;subst hu1;have hvu:vs=v1:=by simpa using hvu
     subst hvu;refine next uP rfl rfl ?_ (λf hf=>BE f (by simpa [oX] using hf)) hF2 iJ GO rU
     refine ajS e1 l' CE ?_ ?_
     ·intro m hm;subst hm;exact CE.1
     ·exact Y5 l' (by simp)
    ·cases rU
  |ag hf ht1 GO=>
   rename_i kl ks ls ms ns;rw [hf] at h3t;simp only [eC] at iJ;cases HG:iL c ks with
   |false=>simp [HG] at iJ
   |true=>simp only [HG,cond_true] at iJ;simp only [nj] at hK;have h3s:ab e3 (a.tmps.getD t undef) (.ag ls):=h3t;simp only [ab] at h3s;obtain ⟨arr,hv,pI⟩:=h3s;obtain ⟨e1,eJ,yy,rU,uP,DZ,Ef,acP,Y4,BE,hB1,Y5⟩:=zU hi h3 eZ (λf hf=>hF f (by simp only [b9];exact No _ hf)) HG pI ht1 hK;exact next (s:= .ag yy) uP rfl rfl ⟨arr,hv,DZ⟩ BE (λf hf=>hF f (by simp only [b9];exact aaG _ hf)) iJ GO rU
  |box hf ht1 GO=>
   rename_i kl ks ls ms ns;rw [hf] at h3t;simp only [eC] at iJ;cases HG:iL c ks with
   |false=>simp [HG] at iJ
   |true=>
    simp only [HG,cond_true] at iJ;simp only [nj] at hK;have uJ:eT ls=false:=by
     cases hm:eT ls with
     |false=>rfl
     |true=>obtain ⟨s,es,rfl⟩:=Ng hm;cases ht1;rename_i h1 _;cases h1
    obtain ⟨hv,CV⟩:=h3t;cases zM:zt t&&!bx st.cA (posOf t) with
    |true=>simp [zM] at hK
    |false=>
    simp only [zM,cond_false] at hK;have lQ: ∀yy,eT yy=false->tied Zb t (a.tmps.getD t undef) yy (e3.B t):=λyy hm'=>⟨λhp=>by rw [hv.1 hp,sP uJ,sP hm'],λhp=>by
     obtain ⟨k1,k2⟩:=hv.2 hp;rw [hp] at zM;have k3:posOf t∈Zb.cA:=by rw [<-hi.sU.defers.2.1,<-bu];simpa using zM
     exact ⟨k3,by rw [<-hi.sU.defers.2.2.2 _ k3,h3.defers.2.2.2 _ k1,k2]⟩⟩
    obtain ⟨arr,T,cz,pI⟩:=CV.cells uJ;obtain ⟨e1,eJ,yy,rU,uP,DZ,Ef,acP,Y4,BE,hB1,Y5⟩:=zU hi h3 eZ (λf hf=>hF f (by simp only [b9];exact No _ hf)) HG pI ht1 hK;exact Y8 uP hf (lQ _ DZ.zH) cz ⟨rfl,DZ⟩ BE (λf hf=>hF f (by simp only [b9];exact aaG _ hf)) iJ GO rU
  |mp hf GO=>
   rename_i s es ns;rw [hf] at h3t;simp only [eC] at iJ;simp only [nj] at hK;cases zM:zt t with
   |true=>simp [zM] at hK
   |false=>
   simp only [zM,cond_false,gC,gL] at hK;obtain ⟨TM,CV⟩:=h3t;have hv:tied Zb t (a.tmps.getD t undef) [aE.mp s es] (e3.B t):= .own zM (TM.1 zM);obtain ⟨ob,cz,Vx⟩:=CV.obj;cases ob with
   |cells arr T z=>exact absurd Vx.2.zH (by simp [eT])
   |map arr n=>exact Y8 hi hf hv cz Vx (λf hf=>by simp at hf) (λf hf=>hF f (by simp only [b9];exact hf)) iJ GO hK
   |stringIter x n=>exact Y8 hi hf hv cz Vx (λf hf=>by simp at hf) (λf hf=>hF f (by simp only [b9];exact hf)) iJ GO hK
   |_=>exact Vx.elim
  |pt hf hp hb GO=>simp only [nj] at hK;obtain ⟨bY,g1,g2⟩:=Y7 hi.sU h3 (.pt hf hp hb GO) hK;exact ⟨e,bY,g1,hi.φ,g2⟩
theorem C3 {os:List (Nat×OK)}{ms:List MV}(hJ:wm c Zb Zi e B hn a w)(h3:bS c Zi e3 oP a w) (hφ:e3.φ=e.φ)(hos:(∀t∈du os,t∈du hn.all)/\(∀f∈b9 os,f∈b9 hn.all))(iJ:eC c os=true)(ht:TO oP [] os ms)(hK:nj B os ms K=some r): ∃e' bY,bS c Zb e' bY a w/\e'.φ=e.φ/\K bY=some r:=by
 rw [<-hφ];refine Vw (F:=b9 hn.all) ⟨hJ.sU,hφ.symm,λt cs hb=> .inl (hJ.box t cs hb),λf o b ho hb=> .inl (hJ.iK f o b ho hb),λf g hp=>by simp at hp,λf x hp=>by simp at hp,?_,hJ.ptr,λt f hm=> .inl (hJ.men t f hm)⟩ h3 hJ.sub ?_ ?_ iJ ht hK
 ·intro f hf o ho;rw [(hJ.acK f hf).2] at ho;cases ho
 ·intro f hf;exact ⟨hos.2 f hf,(hJ.acK f (hos.2 f hf)).1⟩
 ·intro t B2;exact (hJ.agI t (hos.1 t B2)).2
end
end Dn
/-
  Code. Conditions: none.
-/
namespace Dn
open Go
theorem uQ {os:List (Nat×OK)}{t:Nat}:t∈du os↔ ∃k,(t,k)∈os:=by
 induction os with
 |nil=>simp [du]
 |cons p os ih=>
  obtain ⟨t',k'⟩:=p;simp only [du,bN,ih,aa6];constructor
  ·rintro (rfl|⟨k,h⟩)
   ·exact ⟨k',.inl ⟨rfl,rfl⟩⟩
   ·exact ⟨k,.inr h⟩
  ·rintro ⟨k,⟨rfl,_⟩|h⟩
   ·exact .inl rfl
   ·exact .inr ⟨k,h⟩
def Za:OK->List Nat
 | .sc k=>bt [k]
 | .ag ks=>bt ks
 | .box ks=>bt ks
 | .mp _=>[]
 | .pt _ _=>[]
theorem NH (t:Nat)(k:OK)(os:List (Nat×OK)):b9 ((t,k)::os)=Za k++b9 os:=by cases k<;>rfl
theorem uR {os:List (Nat×OK)}{f:Nat}:f∈b9 os↔ ∃p∈os,f∈Za p.2:=by
 induction os with
 |nil=>simp [b9]
 |cons p os ih=>obtain ⟨t',k'⟩:=p;rw [NH];simp [ih]
def HH (c:Ctx):OK->Bool
 | .sc k=>iL c [k]
 | .ag ks=>iL c ks
 | .box ks=>iL c ks
 | .mp _=>true
 | .pt _ _=>true
theorem PB {c:Ctx}(t:Nat)(k:OK)(os:List (Nat×OK)):eC c ((t,k)::os)=(HH c k&&eC c os):=by
 cases k with
 |sc k=>simp only [eC,HH];cases iL c [k]<;>rfl
 |ag k=>simp only [eC,HH];cases iL c k<;>rfl
 |box k=>simp only [eC,HH];cases iL c k<;>rfl
 |mp s=>simp only [eC,HH,afx]
 |pt r o=>simp only [eC,HH,afx]
theorem HI {c:Ctx}{os:List (Nat×OK)}:eC c os=true↔ ∀p∈os,HH c p.2=true:=by
 induction os with
 |nil=>simp [eC]
 |cons p os ih=>obtain ⟨t',k'⟩:=p;rw [PB,sh,ih,List.forall_mem_cons]
theorem Zd {l:List (Nat×List (Nat×OK))}{e:Nat}{p:Nat×OK}(h:p∈XK l e):p∈Tl l:=by
 induction l with
 |nil=>simp [XK] at h
 |cons q l ih=>
  obtain ⟨k,m⟩:=q;simp only [XK] at h;simp only [Tl,ab0];cases hb:IT k e with
  |true=>simp [hb] at h;exact .inl h
  |false=>simp [hb] at h;exact .inr (ih h)
theorem NI {hn:qI}{e:Nat}:(∀t∈du (hn.ex e),t∈du hn.all)/\(∀f∈b9 (hn.ex e),f∈b9 hn.all)/\ ∀{c:Ctx},eC c hn.all=true->eC c (hn.ex e)=true:=by
 have hm: ∀p∈hn.ex e,p∈hn.all:=λp hp=>aaG _ (Zd hp);refine ⟨λt ht=> ?_,λf hf=> ?_,λh=> ?_⟩
 ·obtain ⟨k,hk⟩:=uQ.1 ht;exact uQ.2 ⟨k,hm _ hk⟩
 ·obtain ⟨p,hp,hf⟩:=uR.1 hf;exact uR.2 ⟨p,hm _ hp,hf⟩
 ·rw [HI] at h⊢;exact λp hp=>h p (hm p hp)
theorem Ze {hn:qI}:(∀t∈du hn.outs,t∈du hn.all)/\(∀f∈b9 hn.outs,f∈b9 hn.all)/\ ∀{c:Ctx},eC c hn.all=true->eC c hn.outs=true:=by
 have hm: ∀p∈hn.outs,p∈hn.all:=λp hp=>No _ hp;refine ⟨λt ht=> ?_,λf hf=> ?_,λh=> ?_⟩
 ·obtain ⟨k,hk⟩:=uQ.1 ht;exact uQ.2 ⟨k,hm _ hk⟩
 ·obtain ⟨p,hp,hf⟩:=uR.1 hf;exact uR.2 ⟨p,hm _ hp,hf⟩
 ·rw [HI] at h⊢;exact λp hp=>h p (hm p hp)
theorem PC {R:Type}{r:R}{l:List Nat}{e:Nat}{K:Nat->Option R}(h:Kr l e K=some r):K e=some r:=by
 induction l with
 |nil=>simp [Kr] at h
 |cons p l ih=>
  cases l with
  |nil=>
   simp only [Kr,fm] at h;by_cases he:e=p
   ·subst he;simpa using h
   ·simp [he] at h
  |cons q l=>
   simp only [Kr,fm] at h;by_cases he:e=p
   ·subst he;simpa using h
   ·simp only [he,decide_false,cond_false] at h;exact ih h
theorem Vy {σ R:Type}{r:R}{body:σ->Option (Sum σ R)}{s:σ}(h:Loop body s=some r): ∃n,iter body n s=some r:=by
 unfold Loop at h;split at h
 ·rename_i hx;obtain ⟨n,hn⟩:=abV hx;exact ⟨n,by rw [hn];exact h⟩
 ·cases h
def B8:Nat->Exit
 |0=> .normal
 |1=> .ret
 |n+2=> .exit n
section
variable {P:Program}{c:Ctx}{Z Zb Zi:bC} {e e' e3:Env}{st bY oP B:St} {a a':Act} {w w':World}{R:Type}{r:R}{Q:Exit->Act->World->Prop}{o:Oper}{hn:qI}
def NJ (P:Program)(c:Ctx)(id:Nat)(ops:Array Oper)(d:Bool)(l:List Oper):Prop:=∀{Z:bC} {e:Env} {st:St} {a:Act} {w:World} {R:Type} {K:St->Option R} {r:R} {Q:Exit->Act->World->Prop},bS c Z e st a w->Bf c ops.toList l st K=some r-> (∀a' w',Out c Z K r e.φ w a' w'->Q .normal a' w')->(afj id ops d).wp P Q a w
theorem Vz (hG:Good P c)(id:Nat)(ops:Array Oper):NJ P c id ops false ops.toList:=by
 intro Z e st a w R K r Q h hK hQ;refine wp_region (agH hG (os:=ops.toList) ?_ h hK (.refl _ _ _) hQ);apply afF;intro i;simp only [abQ];by_cases hi:i<ops.size
 ·simp [afq hi,hi]
 ·have h1:(afA ops.size)[i]? =none:=by simp;omega
  have h2:ops.toList[i]? =none:=by simp;omega
  rw [h1,h2];rfl
theorem LO {id:Nat}{ops:Array Oper}{d:Bool}{l:List Oper}{K:St->Option R}(hr:NJ P c id ops d l)(h:bS c Z e st a w)(hK:GI c id ops.toList l st K=some r)(hQ: ∀a' w',Out c Z K r e.φ w a' w'->Q .normal a' w'):(afj id ops d).wp P Q a w:=by
 unfold GI at hK;cases hg:guarded ops.toList with
 |false=>simp only [hg,cond_false] at hK;obtain ⟨bY,h',hK⟩:=qL h hK;exact hr h' hK hQ
 |true=>
  simp only [hg,cond_true] at hK;obtain ⟨Zi,e1,e2,eJ,eg,h1,t1,hφ,hk,j1,j2,eZ,iJ,hK⟩:=C2 h hK;obtain ⟨vs,hv,hK⟩:=oW hK;obtain ⟨aol,GK,hv⟩:=qL h1 hv;refine hr GK hv ?_;rintro a' w' ⟨e3,oP,h3,t3,hv3⟩;obtain ⟨ms,ht,NA⟩:=pW hv3;cases NA;have t3':Trans Zi.In e2.φ w e3.φ w':=by rw [hφ];exact t3
  have jl:=j1.later t3' h3.kZ h3.defers.1 h3.size h3.defers.2.2.2;obtain ⟨s1,s2,s3⟩:=NI (hn:=c.D6 id) (e:=0);obtain ⟨e5,st5,g1,g2,g3⟩:=C3 jl h3 rfl ⟨s1,s2⟩ (s3 iJ) ht hK;refine hQ a' w' ⟨e5,st5,g1,?_,g3⟩;rw [g2];exact t1.trans ⟨t3.ph,λb hb=>t3.heap b (λhz=>hb (eZ b hz)),λb o hb=>t3.free b o (λhz=>hb (eZ b hz)),t3.size,t3.rest⟩
theorem Trans.sup {I J:Nat->Prop} {φ φ':Ph}(h:Trans I φ w φ' w')(hs: ∀b,I b->J b):Trans J φ w φ' w':=⟨h.ph,λb hb=>h.heap b (λhz=>hb (hs b hz)),λb o hb=>h.free b o (λhz=>hb (hs b hz)),h.size,h.rest⟩
theorem LP {n:Nat}{next:Act->World->Prop}(hn:n≠0):Exit.then next Q (B8 n)=Q (B8 n):=by
 match n,hn with
 |1,_=>rfl
 |n+2,_=>rfl
def PD (P:Program)(c:Ctx)(id:Nat)(ops:Array Oper):Prop:=∀{Z:bC} {e:Env} {st:St} {a:Act} {w:World} {R:Type} {K:St->Option R} {r:R} {Q:Exit->Act->World->Prop},bS c Z e st a w->X3 c id ops.toList st K=some r-> (∀a' w',Out c Z K r e.φ w a' w'->Q .normal a' w')->(afj id ops false).wp P Q a w
def TU (P:Program)(c:Ctx):Prop:=(∀(id:Nat) (ops:Array Oper),PD P c id ops)/\(∀(id:Nat) (ops:Array Oper) (l:List Oper),sL c ops (c.ord id)=true->qo ops.toList (c.ord id)=some l->NJ P c id ops true l)/\ ∀(id:Nat) (ops:Array Oper) (k:Nat) (l:List Nat) {Z:bC} {e:Env} {st:St} {a:Act} {w:World} {R:Type} {K:St->Option R} {r:R} {Q:Exit->Act->World->Prop},bS c Z e st a w->Hb c st K k ops l=some r-> (∀a' w',Out c Z K r e.φ w a' w'->Q .normal a' w')->(afj id ops true).wp P Q a w
theorem VA {R:Type}{x y:Option R}{r:R}(h:both x y=some r):x=some r/\y=some r:=by
 unfold both at h;split at h
 ·rename_i he;exact ⟨h,by rw [<-he];exact h⟩
 ·cases h
theorem R3 {n:Nat}{l o1 o2:List Nat}{A B:Nat}(h:X4 n l=some (o1,o2,A,B)):A≠B/\A<n/\B<n:=by
 unfold X4 at h;split at h
 ·rename_i m A' B' _;cases hb:IT A' B'||(aec n A'||aec n B') with
  |true=>rw [hb] at h;cases h
  |false=>
   rw [hb] at h;simp only [cond_false,AT,aa6] at h;obtain ⟨_,_,rfl,rfl⟩:=h;simp only [BY] at hb;obtain ⟨h1,h2,h3⟩:=hb;refine ⟨λhe=> ?_,?_,?_⟩
   ·rw [he] at h1;simp [fm] at h1
   ·by_cases hh:A'<n
    ·exact hh
    ·rw [afc (by omega)] at h2;cases h2
   ·by_cases hh:B'<n
    ·exact hh
    ·rw [afc (by omega)] at h3;cases h3
 ·cases h
theorem agM {ts:List Nat}{K:St->Option R}(h:bS c Z e st a w)(hK:fzK c ts st K=some r): ∃e' bY,bS c Z e' bY a w/\Trans Z.In e.φ w e'.φ w/\K bY=some r:=by
 unfold fzK at hK;split at hK
 ·exact ⟨e,st,h,.refl _ _ _,hK⟩
 ·obtain ⟨e',bY,ms,h1,h2,_,h3,_⟩:=xp h hK;exact ⟨e',bY,h1,h2.tr,h3⟩
theorem TV (hG:Good P c)(hD:TU P c): ∀(code:Code) {R:Type} {r:R} {Z:bC} {e:Env} {st:St} {a:Act} {w:World} {K:Nat->St->Option R} {Q:Exit->Act->World->Prop},bS c Z e st a w->pM c code R st K=some r-> (∀n e' bY a' w',bS c Z e' bY a' w'->Trans Z.In e.φ w e'.φ w'->K n bY=some r->Q (B8 n) a' w')->code.wp P Q a w:=by
 intro code;induction code with
 |skip=>intro R r Z e st a w K Q h hK hQ;exact wp_skip (hQ 0 e st a w h (.refl _ _ _) hK)
 |exit id=>intro R r Z e st a w K Q h hK hQ;exact wp_exit (hQ (id+2) e st a w h (.refl _ _ _) hK)
 |ret=>intro R r Z e st a w K Q h hK hQ;exact wp_ret (hQ 1 e st a w h (.refl _ _ _) hK)
 |region id ops d=>
  intro R r Z e st a w K Q h hK hQ;have VB: ∀a' w',Out c Z (λst=>K 0 st) r e.φ w a' w'->Q .normal a' w':=by rintro a' w' ⟨e2,eg,h1,h2,h3⟩;exact hQ 0 e2 eg a' w' h1 h2 h3
  simp only [pM,Tt] at hK;obtain ⟨e0,AG,h0,t0,hK⟩:=agM h hK;have VB: ∀a' w',Out c Z (λst=>K 0 st) r e0.φ w a' w'->Q .normal a' w':=by rintro a' w' ⟨e2,eg,h1,h2,h3⟩;exact VB a' w' ⟨e2,eg,h1,t0.trans h2,h3⟩
  replace h:=h0
  cases d with
  |false=>exact hD.1 id ops h hK VB
  |true=>
   simp only [cond_true] at hK;cases h2:!IT (c.ord id).length ops.toList.length with
   |true=>
    simp only [h2,cond_true] at hK;unfold aiY at hK;cases hg:guarded ops.toList with
    |true=>
     simp only [hg,cond_true] at hK;obtain ⟨Zi,e1,e2,eJ,eg,h1,t1,hφ,hk,j1,j2,eZ,iJ,hK⟩:=C2 h hK;obtain ⟨vs,hv,hK⟩:=oW hK;obtain ⟨aol,GK,hv⟩:=qL h1 hv;refine hD.2.2 id ops _ _ GK hv ?_;rintro a' w' ⟨e3,oP,h3,t3,hv3⟩;obtain ⟨ms,ht,NA⟩:=pW hv3;cases NA;have t3':Trans Zi.In e2.φ w e3.φ w':=by rw [hφ];exact t3
     have jl:=j1.later t3' h3.kZ h3.defers.1 h3.size h3.defers.2.2.2;obtain ⟨s1,s2,s3⟩:=NI (hn:=c.D6 id) (e:=0);obtain ⟨e5,st5,g1,g2,g3⟩:=C3 jl h3 rfl ⟨s1,s2⟩ (s3 iJ) ht hK;refine VB a' w' ⟨e5,st5,g1,?_,g3⟩;rw [g2];exact t1.trans ⟨t3.ph,λb hb=>t3.heap b (λhz=>hb (eZ b hz)),λb o hb=>t3.free b o (λhz=>hb (eZ b hz)),t3.size,t3.rest⟩
    |false=>simp only [hg,cond_false] at hK;obtain ⟨bY,h',hK⟩:=qL h hK;exact hD.2.2 id ops _ _ h' hK VB
   |false=>
   simp only [h2,cond_false] at hK;cases hd:sL c ops (c.ord id) with
   |false=>simp [hd] at hK
   |true=>
    simp only [hd,cond_true] at hK;cases hp:qo ops.toList (c.ord id) with
    |none=>simp [hp] at hK
    |some l=>simp only [hp] at hK;exact LO (hD.2.1 id ops l hd hp) h hK VB
 |seq x y ihx ihy=>
  intro R r Z e st a w K Q h hK hQ;refine wp_seq (ihx h hK ?_);intro n e1 eJ a1 w1 h1 t1 rU;by_cases hn:n=0
  ·subst hn;exact ihy h1 rU (λn e2 eg a2 w2 h2 t2 yV=>hQ n e2 eg a2 w2 h2 (t1.trans t2) yV)
  ·rw [LP hn];have:IT n 0=false:=by rw [fm];simp [hn]
   simp only [this,cond_false] at rU;exact hQ n e1 eJ a1 w1 h1 t1 rU
 |cond x y z ihy ihz=>
  intro R r Z e st a w K Q h hK hQ;simp only [pM] at hK;obtain ⟨hx,_⟩:=h.eval x;split at hK
  ·rename_i v hv;rw [hv] at hx;have hxv:=Ff hx;refine wp_cond hxv ?_;cases hj:bx (lP y) 0&&bx (lP z) 0 with
   |false=>
    simp only [hj,cond_false] at hK;cases v with
    |true=>exact ihy h hK hQ
    |false=>exact ihz h hK hQ
   |true=>
    simp only [hj,cond_true] at hK;generalize hh:c.GG ((fD (.seq y z)).getD 0)=hn at hK;obtain ⟨Zi,e1,e2,eJ,eg,h1,t1,hφ,hk,j1,j2,eZ,iJ,hK⟩:=C2 h hK;obtain ⟨⟨n,vs⟩,hv,hK⟩:=oW hK;have hK:=PC hK;have fin: ∀n' e3 oP a3 w3,bS c Zi e3 oP a3 w3->Trans Zi.In e1.φ w e3.φ w3->eH oP [] (hn.ex n') (λvs=>some (n',vs))=some (n,vs)->Q (B8 n') a3 w3:=by
     intro n' e3 oP a3 w3 h3 t3 hv3;obtain ⟨ms,ht,NA⟩:=pW hv3;cases NA;have t3':Trans Zi.In e2.φ w e3.φ w3:=by rw [hφ];exact t3
     have jl:=j1.later t3' h3.kZ h3.defers.1 h3.size h3.defers.2.2.2;obtain ⟨s1,s2,s3⟩:=NI (hn:=hn) (e:=n);obtain ⟨e5,st5,g1,g2,g3⟩:=C3 jl h3 rfl ⟨s1,s2⟩ (s3 iJ) ht hK;refine hQ n e5 st5 a3 w3 g1 ?_ g3;rw [g2];exact t1.trans (t3.sup eZ)
    cases v with
    |true=>exact ihy h1 hv fin
    |false=>exact ihz h1 hv fin
  ·simp at hK
 |block id b ih=>
  intro R r Z e st a w K Q h hK hQ;refine wp_block (ih h hK ?_);intro n e1 eJ a1 w1 h1 t1 rU;by_cases hn:n=id+2
  ·subst hn;simp only [fm,decide_true,cond_true] at rU;have:=hQ 0 e1 eJ a1 w1 h1 t1 rU;simpa [B8,Exit.inBlock] using this
  ·simp only [fm,hn,decide_false,cond_false] at rU;have:=hQ n e1 eJ a1 w1 h1 t1 rU;match n,hn,this with
   |0,_,this=>exact this
   |1,_,this=>exact this
   |i+2,hn,this=>have hi:i≠id:=λhe=>hn (by rw [he]);simpa [B8,Exit.inBlock,hi] using this
 |loop b ih=>
  intro R r Z e st a w K Q h hK hQ;simp only [pM] at hK;generalize hh:c.E9 ((fD b).getD 0)=hn at hK;obtain ⟨Zi,e1,e2,eJ,eg,h1,t1,hφ,hk,j1,j2,eZ,iJ,hK⟩:=C2 h hK;obtain ⟨vs,ht,hK⟩:=pW hK;obtain ⟨⟨n,ms⟩,hl,hK⟩:=oW hK;obtain ⟨k,ON⟩:=Vy hl;have hK:=PC hK;refine wp_loop_rounds k ?_;have key: ∀(k:Nat) (vs:List MV) (e2 e3:Env) (oP:St) (a3:Act) (w3:World),bS c Zi e3 oP a3 w3->e3.φ=e2.φ->TO oP [] hn.outs vs->wm c Z Zi e2 (BV st eg) hn a3 w3->wm c Zi Zi e2 eg hn a3 w3->Trans Z.In e.φ w e2.φ w3-> iter (λms=>nj eg hn.outs ms λst=>pM c b (Sum (List MV) (Nat×List MV)) st λe st=>bif IT e 0 then eH st [] hn.outs λvs=>some (.inl vs) else eH st [] (hn.ex e) λvs=>some (.inr (e,vs))) k vs=some (n,ms)->Code.rounds P b Q k a3 w3:=by
   intro k;induction k with
   |zero=>intro vs e2 e3 oP a3 w3 _ _ _ _ _ _ hi;simp [iter] at hi
   |succ k ihk=>
    intro vs e2 e3 oP a3 w3 h3 hφ3 ht3 j1 j2 t3 hi;simp only [iter] at hi;obtain ⟨s1,s2,s3⟩:=Ze (hn:=hn);rw [rounds_succ];have go: ∀(res:Sum (List MV) (Nat×List MV)),(nj eg hn.outs vs λst=>pM c b (Sum (List MV) (Nat×List MV)) st λe st=>
     bif IT e 0 then eH st [] hn.outs λvs=>some (.inl vs) else eH st [] (hn.ex e) λvs=>some (.inr (e,vs)))=some res->
     (∀KC,res= .inl KC->iter (λms=>nj eg hn.outs ms λst=>pM c b (Sum (List MV) (Nat×List MV)) st λe st=>bif IT e 0 then eH st [] hn.outs λvs=>some (.inl vs) else eH st [] (hn.ex e) λvs=>some (.inr (e,vs))) k KC=some (n,ms))->
     (∀q,res= .inr q->q=(n,ms))->b.wp P (Exit.then (Code.rounds P b Q k) Q) a3 w3:=by
     intro res pK hl hr;obtain ⟨e5,st5,g1,g2,g3⟩:=C3 j2 h3 hφ3 ⟨s1,s2⟩ (s3 iJ) ht3 pK;refine ih g1 g3 ?_;intro n' e6 st6 a6 w6 h6 t6 hK6;have t6':Trans Zi.In e2.φ w3 e6.φ w6:=by rw [<-g2];exact t6
     have jl1:=j1.later t6' h6.kZ h6.defers.1 h6.size h6.defers.2.2.2;have jl2:=j2.later t6' h6.kZ h6.defers.1 h6.size h6.defers.2.2.2;by_cases hn0:n'=0
     ·subst hn0;obtain ⟨KC,ht6,hv6⟩:=pW hK6;cases hv6;exact ihk KC {e2 with φ:=e6.φ} e6 st6 a6 w6 h6 rfl ht6 jl1 jl2 (t3.trans (t6'.sup eZ)) (hl KC rfl)
     ·rw [LP hn0];have:IT n' 0=false:=by rw [fm];simp [hn0]
      simp only [this,cond_false] at hK6;obtain ⟨KC,ht6,hv6⟩:=pW hK6;cases hv6;cases hr _ rfl;obtain ⟨x1,x2,x3⟩:=NI (hn:=hn) (e:=n);obtain ⟨e7,st7,q1,q2,q3⟩:=C3 jl1 h6 rfl ⟨x1,x2⟩ (x3 iJ) ht6 hK;refine hQ n e7 st7 a6 w6 q1 ?_ q3;rw [q2];exact t3.trans (t6'.sup eZ)
    split at hi
    ·rename_i s' hs;exact go _ hs (λKC he=>by cases he;exact hi) (λq he=>by cases he)
    ·rename_i q hs;cases hi;exact go _ hs (λKC he=>by cases he) (λq he=>by cases he;rfl)
    ·cases hi
  refine key k vs e2 e1 eJ a w h1 hφ.symm ht j1 j2 ?_ ON;rw [hφ];exact t1
 |_=>intros;rename_i hK _;simp [pM] at hK
end
end Dn
/-
  Whole functions. Conditions: none.
-/
namespace Dn
open Go
section
variable {P:Program}{c:Ctx}{Z Zb Zi:bC} {e e' e3:Env}{st bY oP B:St} {a a':Act} {w w':World}{R:Type}{r:R}{Q:Exit->Act->World->Prop}{o:Oper}
theorem Fx {ts:List Nat}: ∀{n:Nat} {vs:List Value} {ms:List MV} {K:Fr->List MV->Option R},bg e.key e.φ vs ms->Hc c ts n ms K=some r-> ∃fr rest mQ uu,K fr rest=some r/\vs=mQ++uu/\mQ.length=ts.length/\bg e.key e.φ uu rest/\aN fr=adw n ts.length/\ (∀p∈fr,dq p.2=false/\cV p.2=false/\ ∃v,mQ[p.1-n]? =some v/\ab e v p.2):=by
 induction ts with
 |nil=>intro n vs ms K h hK;exact ⟨[],ms,[],vs,hK,rfl,rfl,h,rfl,by simp⟩
 |cons t ts ih=>
  intro n vs ms K h hK;simp only [Hc] at hK;cases hI:c.tv t with
  |none=>simp [hI] at hK
  |some I=>
   simp only [hI] at hK;cases ms with
   |nil=>simp [gC] at hK
   |cons m ms=>
    simp only [gC] at hK;obtain ⟨v,u,rfl,h1,h2⟩:=h;obtain ⟨s,g1,g2,hK⟩:=xq h1 hK;obtain ⟨fr,rest,mQ,uu,hK,rfl,q1,q2,q3,q4⟩:=ih h2 hK;refine ⟨(n,s)::fr,rest,v::mQ,uu,hK,rfl,by simp [q1],q2,?_,?_⟩
    ·simp only [aN,abU,acO] at q3⊢;rw [q3,agd]
    ·intro p hp;rcases bN.1 hp with rfl|hp
     ·refine ⟨?_,?_,v,by simp,g1⟩
      ·cases s<;>simp [Bx] at g2<;>rfl
      ·cases s<;>simp [Bx] at g2<;>rfl
     ·obtain ⟨k1,k2,v',k3,k4⟩:=q4 p hp;refine ⟨k1,k2,v',?_,k4⟩;have hk:p.1∈aN fr:=abW.2 ⟨p,hp,rfl⟩;rw [q3,ae6] at hk;obtain ⟨i,hi,he⟩:=hk;have:p.1-n=(p.1-(n+1))+1:=by omega
      rw [this];simpa using k3
theorem LQ {nb:List (List Kd)}: ∀{n:Nat} {vs:List Value} {ms:List MV} {K:Fr->Option R},bg e.key e.φ vs ms->Rs nb n ms K=some r-> ∃fr,K fr=some r/\vs.length=nb.length/\aN fr=adw n nb.length/\ (∀p∈fr,dq p.2=false/\(∀cs,p.2≠ .box cs)/\ ∃v,vs[p.1-n]? =some v/\ab e v p.2):=by
 induction nb with
 |nil=>
  intro n vs ms K h hK;cases ms with
  |nil=>cases h;exact ⟨[],hK,rfl,rfl,by simp⟩
  |cons m ms=>simp [Rs,gN] at hK
 |cons ks nb ih=>
  intro n vs ms K h hK;cases ms with
  |nil=>simp [Rs,gC] at hK
  |cons m ms=>
   simp only [Rs,gC] at hK;obtain ⟨v,u,rfl,h1,h2⟩:=h;unfold gP at hK;split at hK
   ·rename_i cs;obtain ⟨_,h1⟩:=h1;obtain ⟨a8,off,us,hv,hr,hφ⟩: ∃a8 off us,v= .pointer (some ⟨a8,off,none⟩)/\ga e.key e.φ us cs/\ ∀j,j<us.length->e.φ a8 (off+j)=us[j]? :=by
     generalize yt:[v]=ws at h1;cases h1 with
     |rp a8 off us _ hr hφ=>exact ⟨a8,off,us,by simpa using yt,hr,hφ⟩
    obtain ⟨ls,Km,hK⟩:=xm (e:=e) (vs:=us) hK;obtain ⟨fr,hK,q1,q3,q4⟩:=ih h2 hK;refine ⟨(n,.zp ls)::fr,hK,by simp [q1],?_,?_⟩
    ·simp only [aN,abU,acO] at q3⊢;rw [q3,agd]
    ·intro p hp;rcases bN.1 hp with rfl|hp
     ·refine ⟨rfl,λcs he=>(by cases he),v,by simp,?_⟩;simp only [ab];exact ⟨a8,off,us,hv,Km.rep hr,Km.Xx,hφ⟩
     ·obtain ⟨k1,k2,v',k3,k4⟩:=q4 p hp;refine ⟨k1,k2,v',?_,k4⟩;have hk:p.1∈aN fr:=abW.2 ⟨p,hp,rfl⟩;rw [q3,ae6] at hk;obtain ⟨i,hi,he⟩:=hk;have:p.1-n=(p.1-(n+1))+1:=by omega
      rw [this];simpa using k3
   ·simp at hK
theorem C4 {r:Fr}{t:Nat}(ht:t∈aN r):(t,aq r t)∈r:=by
 induction r with
 |nil=>simp [aN] at ht
 |cons p r ih=>
  obtain ⟨k,x⟩:=p;simp only [aq,fm];by_cases h:k=t
  ·simp [h]
  ·simp only [h,decide_false,cond_false];simp only [aN,abU,bN] at ht;exact aaW _ (ih (ht.resolve_left (λe=>h e.symm)))
def ic (tmps:Array Value):ResultVar->Sem Value
 | .tmp t=>pure (tmps.getD t undef)
 | .cell a t=>do loadVar t (<-asAddr (tmps.getD a undef))
theorem VC {rs:List ResultVar}(hT:ia P c.ti): ∀{e:Env} {st:St} {K:List MV->Option R},bS c Z e st a w->Rt c st none rs K=some r-> ∃e' bY ms vs,bS c Z e' bY a w/\Ext Z.In e e'/\(rs.mapM (ic a.tmps)).run P w= .ok vs w/\bg e'.key e'.φ vs ms/\K ms=some r:=by
 induction rs with
 |nil=>intro e st K h hK;exact ⟨e,st,[],[],h,.refl _ _,by simp,rfl,hK⟩
 |cons x rs ih=>
  intro e st K h hK;have go: ∀(s:Slot) (v:Value),ab e v s->(ic a.tmps x).run P w= .ok v w->(mW st s λm st=>Rt c st none rs λms=>K (m::ms))=some r-> ∃e' bY ms vs,bS c Z e' bY a w/\Ext Z.In e e'/\((x::rs).mapM (ic a.tmps)).run P w= .ok vs w/\bg e'.key e'.φ vs ms/\K ms=some r:=by
   intro s v hs bF hK;obtain ⟨e1,eJ,m,h1,h2,h3,h4,hK⟩:=ol h hs hK;obtain ⟨e2,eg,ms,vs,q1,q2,q3,q4,hK⟩:=ih h1 hK;refine ⟨e2,eg,m::ms,v::vs,q1,h2.trans q2,?_,⟨v,vs,rfl,?_,q4⟩,hK⟩
   ·simp [afk,bF,q3]
   ·have:=h4.mono q2.on.φ;rw [<-q2.on.key] at this;exact this
  simp only [Rt] at hK;cases x with
  |tmp t=>
   simp only at hK;have hs:=h.slot t;by_cases hb: ∃cs,aq st.fr t= .box cs
   ·obtain ⟨cs,hb⟩:=hb;rw [hb] at hK;simp [mW] at hK
   ·refine go (aq st.fr t) (a.tmps.getD t undef) ?_ rfl hK;generalize aq st.fr t=s at hs hb;cases s<;>first|exact hs|exact absurd ⟨_,rfl⟩ hb
  |cell b t=>
   simp only at hK;have hs:=h.slot b;split at hK
   ·rename_i I cs hI hb;obtain ⟨Lt,OL⟩:=bj hI;rw [hb] at hs;obtain ⟨hv,CV⟩:=hs;cases zT:eT cs||zt b with
    |true=>simp [zT] at hK
    |false=>
    obtain ⟨uJ,hpb⟩:=BY.1 zT;simp only [zT,cond_false] at hK;have hv:=hv.1 hpb;rw [sP uJ] at hv;obtain ⟨arr,T,cz,pI⟩:=CV.cells uJ;have hm:w.rangeAt (e.B b) 0 arr.toList:=by intro j v hj;rw [abR,cell_of cz];simpa using hj
    obtain ⟨v,s,h1,h2,h3,h4⟩:=jc (P:=P) (st:=st) (s:= .skip) (hT t I Lt) OL pI hm hK;refine go s v h2 ?_ h4;simpa [ic,hv,asAddr,afM,afm] using h1 w hm
   ·simp at hK
theorem LR {rs:List ResultVar}(hT:ia P c.ti)(h:bS c Z e st a w): ∀{K:List MV->Option R},O3 c st rs K=some r-> ∃ms vs,(rs.mapM (ic a.tmps)).run P w= .ok vs w/\bg e.key e.φ vs ms/\ms.length=rs.length/\K ms=some r:=by
 induction rs with
 |nil=>intro K hK;exact ⟨[],[],by simp,rfl,rfl,hK⟩
 |cons x rs ih=>
  intro K hK;have go: ∀(s:Slot) (v:Value),ab e v s->(ic a.tmps x).run P w= .ok v w->(match s with
   | .sc (.p m)=>O3 c st rs λms=>K (m::ms)
   |_=>none)=some r-> ∃ms vs,((x::rs).mapM (ic a.tmps)).run P w= .ok vs w/\bg e.key e.φ vs ms/\ms.length=(x::rs).length/\K ms=some r:=by
   intro s v hs bF hK;split at hK
   ·rename_i m;obtain ⟨ms,vs,q1,q2,q3,hK⟩:=ih hK;simp only [ab] at hs;obtain ⟨g1,g2⟩:m.one=true/\gY e.key e.φ [v] m:=hs;exact ⟨m::ms,v::vs,by simp [afk,bF,q1],⟨v,vs,rfl,by cases m<;>simp [MV.one] at g1<;>exact ⟨rfl,g2⟩,q2⟩,by simp [q3],hK⟩
   ·cases hK
  simp only [O3] at hK;cases x with
  |tmp t=>
   simp only at hK;have hs:=h.slot t;by_cases hb: ∃cs,aq st.fr t= .box cs
   ·obtain ⟨cs,hb⟩:=hb;rw [hb] at hK;simp at hK
   ·refine go (aq st.fr t) (a.tmps.getD t undef) ?_ rfl hK;generalize aq st.fr t=s at hs hb;cases s<;>first|exact hs|exact absurd ⟨_,rfl⟩ hb
  |cell b t=>
   simp only at hK;have hs:=h.slot b;split at hK
   ·rename_i I cs hI hb;obtain ⟨Lt,OL⟩:=bj hI;rw [hb] at hs;obtain ⟨hv,CV⟩:=hs;cases zT:eT cs||zt b with
    |true=>simp [zT] at hK
    |false=>
    obtain ⟨uJ,hpb⟩:=BY.1 zT;simp only [zT,cond_false] at hK;have hv:=hv.1 hpb;rw [sP uJ] at hv;obtain ⟨arr,T,cz,pI⟩:=CV.cells uJ;have hm:w.rangeAt (e.B b) 0 arr.toList:=by intro j v hj;rw [abR,cell_of cz];simpa using hj
    obtain ⟨v,s,h1,h2,h3,h4⟩:=jc (P:=P) (st:=st) (s:= .skip) (hT t I Lt) OL pI hm hK;refine go s v h2 ?_ h4;simpa [ic,hv,asAddr,afM,afm] using h1 w hm
   ·simp at hK
theorem VD {x:ResultVar}{rs:List ResultVar}{ty:Nat}{I:TI}{K:List MV->Option R}(hI:c.tv ty=some I)(hT:ia P c.ti)(zJ:Z.cy=[])(h:bS c Z e st a w)(hK:Rt c st (some ty) (x::rs) K=some r): ∃v xs us ms,((x::rs).mapM (ic a.tmps)).run P w= .ok (v::us) w/\cu c Z.nc e w v ⟨ty,false,xs⟩/\bg e.key e.φ us ms/\ms.length=rs.length/\K (.fresh xs::ms)=some r:=by
 obtain ⟨lQ,hc⟩:=bj hI;have go: ∀(s:Slot) (v:Value),ab e v s->(ic a.tmps x).run P w= .ok v w->(match s with
  | .sc (.own f)=>(match aI st.aP f with|some o=>bif o.ei||!IT o.ty ty then none else O3 c st rs λms=>K (.fresh o.xs::ms)|none=>none)
  | .sc .nil=>O3 c st rs λms=>K (.fresh []::ms)
  |_=>none)=some r-> ∃v xs us ms,((x::rs).mapM (ic a.tmps)).run P w= .ok (v::us) w/\cu c Z.nc e w v ⟨ty,false,xs⟩/\bg e.key e.φ us ms/\ms.length=rs.length/\K (.fresh xs::ms)=some r:=by
  intro s v hs bF hK;have hr: ∀{us:List Value},(rs.mapM (ic a.tmps)).run P w= .ok us w->((x::rs).mapM (ic a.tmps)).run P w= .ok (v::us) w:=λh=>by simp [afk,bF,h]
  split at hK
  ·rename_i f;cases hf:aI st.aP f with
   |none=>simp [hf] at hK
   |some o=>
    simp only [hf] at hK;cases hb:o.ei||!IT o.ty ty with
    |true=>simp [hb] at hK
    |false=>simp only [hb,cond_false] at hK;obtain ⟨ms,us,q1,q2,q3,hK⟩:=LR hT h hK;obtain ⟨h1,h2⟩:=BY.1 hb;have iJ:o.ty=ty:=AI (by simpa using h2);obtain ⟨hv,_⟩:=rW h hs hf;obtain ⟨J,cells,k1,k2,k3,k4,k5⟩:=(h.iK f o hf).row;refine ⟨v,o.xs,us,ms,hr q1,⟨J,cells,by rw [<-iJ];exact k1,k2,by rw [hv,<-iJ];exact k3,k4,λa8 hb=> ?_⟩,q2,q3,hK⟩;rw [hv] at hb;obtain ⟨q1,q2,_⟩:=k5 a8 hb;refine ⟨OJ q1 (by rw [zJ];simp),λoff u hu=> ?_,λhc=>hc.elim⟩;have:=(q2 off u hu).1;rw [h1] at this;cases this
  ·obtain ⟨ms,us,q1,q2,q3,hK⟩:=LR hT h hK;simp only [ab] at hs;have hs:[v]=[acY none 0 0]:=hs;simp at hs;refine ⟨v,[],us,ms,hr q1,⟨I,[],lQ,hc,by rw [hs];exact World.ownsRow_nil w 0 ty I.size,rfl,λa8 hb=> ?_⟩,q2,q3,hK⟩;rw [hs] at hb;simp [AS] at hb
  ·cases hK
 simp only [Rt] at hK;cases x with
 |tmp t=>
  simp only at hK;have hs:=h.slot t;by_cases hb: ∃cs,aq st.fr t= .box cs
  ·obtain ⟨cs,hb⟩:=hb;rw [hb] at hK;simp at hK
  ·refine go (aq st.fr t) (a.tmps.getD t undef) ?_ rfl hK;generalize aq st.fr t=s at hs hb;cases s<;>first|exact hs|exact absurd ⟨_,rfl⟩ hb
 |cell b t=>
  simp only at hK;have hs:=h.slot b;split at hK
  ·rename_i I cs hI hb;obtain ⟨Lt,OL⟩:=bj hI;rw [hb] at hs;obtain ⟨hv,CV⟩:=hs;cases zT:eT cs||zt b with
   |true=>simp [zT] at hK
   |false=>
   obtain ⟨uJ,hpb⟩:=BY.1 zT;simp only [zT,cond_false] at hK;have hv:=hv.1 hpb;rw [sP uJ] at hv;obtain ⟨arr,T,cz,pI⟩:=CV.cells uJ;have hm:w.rangeAt (e.B b) 0 arr.toList:=by intro j v hj;rw [abR,cell_of cz];simpa using hj
   obtain ⟨v,s,h1,h2,h3,h4⟩:=jc (P:=P) (st:=st) (s:= .skip) (hT t I Lt) OL pI hm hK;refine go s v h2 ?_ h4;simpa [ic,hv,asAddr,afM,afm] using h1 w hm
  ·simp at hK
theorem Zf {X:Code->St->(Nat->St->Option MV)->Option MV}(hX: ∀(b:Code){r:MV}{Z:bC}{e:Env}{st:St}{a:Act}{w:World}{K:Nat->St->Option MV}{Q:Exit->Act->World->Prop},bS c Z e st a w->X b st K=some r-> (∀n e' bY a' w',bS c Z e' bY a' w'->Trans Z.In e.φ w e'.φ w'->K n bY=some r->Q (B8 n) a' w')->b.wp P Q a w)
 {f:FuncId} {fn:Func} {bV:List (List Kd)} {ms:List MV} {m:MV} (hG:Good P c) (hf:P.funcs[f]? =some fn) (zV:(fn.name== "runtime.NumGoroutine")=false)
 (hn:c.n=fn.ntmps) (pJ:fn.params.size+bV.length<=fn.ntmps) (hg:c.dA (c.key f)=false) {fresh:Option Nat} (zo: ∀ty,fresh=some ty->ty=c.nU (c.key f)/\1<=fn.results.toList.length/\ ∃I,c.tv ty=some I) (hb:X6 X c bV fresh fn ms=some m):gh P c f ms m:=by
 intro φ w Z vs hz dL iQ;simp only [dS,hg,abP,if_false] at dL;unfold X6 at hb;cases je:fn.body with
 |none=>simp [je] at hb
 |some b=>
  simp only [je] at hb;have bF:(callFunc f vs.toArray).run P w= .ok (.enter f vs.toArray) w:=by
   have Hi: ¬fn.name= "runtime.NumGoroutine" :=by simpa using zV
   simp [callFunc,hf,Hi,je]
  unfold dR;rw [bF];refine calls_of_wp hf je ?_;let e:Env:=na c.key φ;have dL:bg e.key e.φ vs ms:=dL;obtain ⟨fr,rest,mQ,uu,hb,rfl,l1,a2,k1,s1⟩:=Fx dL hb;obtain ⟨pT,hb,l2,k2,s2⟩:=LQ a2 hb;simp only [xg] at hb;have htn:(mQ++uu).toArray.size=fn.params.size+bV.length:=by simp [l1,l2]
  let a:Act:={tmps:=(mQ++uu).toArray++ae7 (fn.ntmps-(mQ++uu).toArray.size) undef,defers:=[]}
  have KE: ∀(t:Nat) (v:Value),(mQ++uu)[t]? =some v->a.tmps.getD t undef=v:=by intro t v ht;have cI:t<(mQ++uu).length:=(abO.1 ht).1;rw [ab7];show (((mQ++uu).toArray++ae7 _ undef)[t]?).getD undef=v;rw [adh (by simpa using cI)];simp only [List.getElem?_toArray];rw [ht];rfl
  have HJ: ∀t,dq (aq (fr++pT) t)=false/\(∀cs,aq (fr++pT) t≠ .box cs)/\ab e (a.tmps.getD t undef) (aq (fr++pT) t):=by
   intro t;rw [zE];by_cases h1:t∈aN fr
   ·simp only [h1,if_true];obtain ⟨g1,g2,v,g3,g4⟩:=s1 _ (C4 h1);refine ⟨g1,?_,?_⟩
    ·intro cs hc;simp only [hc,cV] at g2;cases g2
    ·rw [KE t v ?_];exact g4;have cI:t<mQ.length:=(abO.1 g3).1;rw [ach cI];exact g3
   ·simp only [h1,if_false];by_cases h2:t∈aN pT
    ·obtain ⟨g1,g2,v,g3,g4⟩:=s2 _ (C4 h2);refine ⟨g1,g2,?_⟩;rw [KE t v ?_];exact g4;have hk:=h2;rw [k2,ae6] at hk;obtain ⟨i,hi,he⟩:=hk;have zM:fn.params.size=mQ.length:=by rw [l1];simp
     rw [ab8 (by omega),<-zM];exact g3
    ·rw [su _ _ h2];exact ⟨rfl,λcs hc=>(by cases hc),by simp [ab]⟩
  have Zg: ∀t cs,aq (fr++pT) t= .box cs->False:=λt cs hc=>(HJ t).2.1 cs hc;have oO:bS c (bC.plain Z) e ⟨[],[],fr++pT,[]⟩ a w:=by
   refine ⟨⟨rfl,rfl,rfl,λt ht=>by simp [bC.plain] at ht⟩,?_,rfl,rfl,?_,?_,λt=>wo (HJ t).1,λf o ho=>by simp [aI] at ho,λt t' cs fU h1=>(Zg t cs h1).elim,λt cs f o h1=>(Zg t cs h1).elim,λf f' o o' k h1=>by simp [aI] at h1,iQ,hz⟩
   ·show ((mQ++uu).toArray++ae7 (fn.ntmps-(mQ++uu).toArray.size) undef).size=c.n;rw [Array.size_append,Array.size_replicate,htn,hn];omega
   ·show (aN (fr++pT)).Nodup;have:aN (fr++pT)=aN fr++aN pT:=by simp [aN]
    rw [this,k1,k2];have:adw 0 fn.params.toList.length++adw fn.params.size bV.length=adw 0 (fn.params.toList.length+bV.length):=by have:=List.range'_append_1 (s:=0) (m:=fn.params.toList.length) (n:=bV.length);simpa using this
    rw [this];exact List.nodup_range'
   ·intro t;obtain ⟨g1,g2,g3⟩:=HJ t;show bW _ e w t _ (aq (fr++pT) t);generalize aq (fr++pT) t=s at g1 g2 g3;cases s<;>first|exact g3|exact absurd rfl (g2 _)
  refine hX b oO hb ?_;intro n e' bY a' w' h' t' hK;cases hle:aec n 1 with
  |false=>simp [hle] at hK
  |true=>
   simp only [hle,cond_true] at hK;have aop: ∃φ' us,Trans Z e'.φ w' φ' w'/\oS φ' w'/\(fn.results.toList.mapM (ic a'.tmps)).run P w'= .ok us w'/\jR c Z φ' w' (c.key f) (if h:us.toArray.size=1 then us.toArray[0] else .tuple us.toArray) m:=by
    cases fresh with
    |some ty=>
     obtain ⟨h1,h2,I,h3⟩:=zo ty rfl;match hrs:fn.results.toList,h2 with
     |x::rs,_=>
      rw [hrs] at hK;obtain ⟨v,xs,us,ms,g1,g2,g4,g5,g3⟩:=VD (P:=P) h3 hG.ti rfl h' hK;have g2':cu c (bC.plain Z) (na c.key e'.φ) w' v ⟨c.nU (c.key f),false,xs⟩:=by rw [<-h1];exact g2.env (e':=na c.key e'.φ) h'.key.symm rfl
      rw [h'.key] at g4;refine ⟨e'.φ,v::us,.refl _ _ _,h'.kZ,g1,?_⟩;cases ms with
      |nil=>have g3:some (MV.fresh xs)=some m:=g3;cases g3;have:us=[]:=g4;subst this;simp only [adr,afe,dite_true];exact g2'
      |cons m1 ms=>have g3:some (MV.b8 (.fresh xs::m1::ms))=some m:=g3;cases g3;obtain ⟨u1,us1,rfl,g6,g7⟩:=g4;rw [dif_neg (by simp)];exact ⟨v,u1::us1,rfl,g2',u1,us1,rfl,g6,g7⟩
    |none=>
    obtain ⟨e2,eg,ns,us,q1,q2,q3,q4,hK⟩:=VC (P:=P) hG.ti h' hK;refine ⟨e2.φ,us,q2.tr,q1.kZ,q3,?_⟩;have ON:e2.key=c.key:=q1.key;rw [ON] at q4;split at hK
    ·rename_i m';cases hK;obtain ⟨v,u,rfl,g1,g2⟩:=q4;have g2:u=[]:=g2;subst g2;simp only [adr,afe,dite_true];cases m<;>first|exact g1|exact absurd g1.1 (by simp [MV.one])
    ·rename_i ns' cR;cases hK;have cR:us.toArray.size≠1:=by
      intro h1;cases us with
      |nil=>simp at h1
      |cons v us=>
       cases us with
       |cons=>simp at h1
       |nil=>
        cases ns with
        |nil=>cases q4
        |cons m1 ns1=>
         obtain ⟨v',u',h2,g1,g2⟩:=q4;simp at h2;obtain ⟨rfl,rfl⟩:=h2;cases ns1 with
         |nil=>exact cR m1 rfl
         |cons=>obtain ⟨_,_,h3,_⟩:=g2;simp at h3
     rw [dif_neg cR];exact Nt.args (by simpa using q4)
   obtain ⟨φ2,us,p1,p2,q3,p4⟩:=aop;have pK:(results fn a'.tmps).run P w'= .ok (if h:us.toArray.size=1 then us.toArray[0] else .tuple us.toArray) w':=by
    have hm:(fn.results.mapM (ic a'.tmps)).run P w'= .ok us.toArray w':=by rw [Array.mapM_eq_mapM_toList];simp [q3]
    have Tu:results fn a'.tmps=(do let vs<-fn.results.mapM (ic a'.tmps);pure (if h:vs.size=1 then vs[0] else .tuple vs)):=by unfold results;congr 1
    rw [Tu];simp [hm]
   have PE: ∃φ',Trans Z φ w φ' w'/\oS φ' w'/\jR c Z φ' w' (c.key f) (if h:us.toArray.size=1 then us.toArray[0] else .tuple us.toArray) m:=⟨φ2,t'.trans p1,p2,p4⟩
   match n,hle with
   |0,_=>exact ⟨h'.defers.1,_,pK,_,rfl,PE.imp λφ' h=>⟨h.1,h.2.1,.plain h.2.2⟩⟩
   |1,_=>exact ⟨h'.defers.1,_,pK,_,rfl,PE.imp λφ' h=>⟨h.1,h.2.1,.plain h.2.2⟩⟩
   |n+2,hle=>simp [aec] at hle
theorem acQ {f:FuncId}{fn:Func}{bV:List (List Kd)}{ms:List MV}{m:MV}(hG:Good P c)(hD:TU P c)(hf:P.funcs[f]? =some fn)(zV:(fn.name== "runtime.NumGoroutine")=false)
 (hn:c.n=fn.ntmps) (pJ:fn.params.size+bV.length<=fn.ntmps) (hg:c.dA (c.key f)=false) {fresh:Option Nat} (zo: ∀ty,fresh=some ty->ty=c.nU (c.key f)/\1<=fn.results.toList.length/\ ∃I,c.tv ty=some I) (hb:Lp c bV fresh fn ms=some m):gh P c f ms m:=
 Zf (λb {r Z e st a w K Q} h hK hQ=>TV hG hD b h hK hQ) hG hf zV hn pJ hg zo hb
end
end Dn
/-
  What arguments read as: values of their types. Conditions: none.
-/
namespace Dn
open Go Go.WideShapes
def Em (W:World):Ph:=λb o=>W.cell? ⟨b,o,none⟩
theorem Zh (W:World):oS (Em W) W:=λb o v h=>h
def NK (P:Program):List Field->Nat->Nat->Bool
 |[],o,n=>IT o n
 |f::fs,o,n=>IT f.offset o&&NK P fs (o+P.cellsOf f.type) n
def okT (P:Program):Nat->TypeId->Bool
 |0,_=>false
 |d+1,t=>match P.underlying t with
  |some .bool=>true
  |some (.int _)=>true
  |some .string=>true
  |some (.slice e)=>okT P d e&&aec 1 (P.cellsOf e)
  |some (.struct fs)=>NK P fs.toList 0 (P.cellsOf t)&&fs.toList.all λf=>okT P d f.type
  |some (.array n e)=>IT n 32&&(match P.underlying e with|some (.int .u8)=>true|_=>false)&&IT (P.cellsOf e) 1&&IT (P.cellsOf t) 32
  |_=>false
def ME (P:Program)(F:TypeId->List MV->Prop)(e:TypeId)(x:MV):Prop:=match P.underlying e with
 |some (.struct _)=> ∃cs,x= .agg cs/\F e cs
 |_=>F e [x]
def FT (F:TypeId->List MV->Prop):List TypeId->List MV->Prop
 |[],ms=>ms=[]
 |t::ts,ms=> ∃a b,ms=a++b/\F t a/\FT F ts b
def MT (P:Program):Nat->TypeId->List MV->Prop
 |0,_,_=>False
 |d+1,t,ms=>match P.underlying t with
  |some .bool=> ∃b,ms=[.b b]
  |some (.int k)=> ∃n,ms=[.i k n]/\(Lit.int k n).wf=true
  |some .string=> ∃l:List UInt8,ms=[.s l]/\l.length<=maxLen
  |some (.slice e)=> ∃xs,ms=[.list xs]/\xs.length<=maxLen/\ ∀x∈xs,ME P (MT P d) e x
  |some (.struct fs)=>FT (MT P d) (fs.toList.map (·.type)) ms
  |some (.array _ _)=> ∃h,ms=[.h h]
  |_=>False
section
variable {H:Type}{enc:TypeId×Value->H}{P:Program}{W:World}{base:Nat}{sp:Nat->Bool}{held:Bool}{key:Nat->Nat}
theorem ga.append {key:Nat->Nat} {φ:Ph}{ms ns:List MV}: ∀{vs us:List Value},ga key φ vs ms->ga key φ us ns->ga key φ (vs++us) (ms++ns):=by
 induction ms with
 |nil=>intro vs us h h';cases h;simpa using h'
 |cons m ms ih=>
  intro vs us h h';cases h with
  |cons v _ vs _ h1 h2=>rw [adn];exact .cons v m _ _ h1 (ih h2 h')
theorem ga.Zj {key:Nat->Nat} {φ:Ph}{v:Value}{m:MV}(h:gY key φ [v] m):ga key φ [v] [m]:=by have:=ga.cons [v] m [] [] h .nil;simpa using this
theorem ga.single {key:Nat->Nat} {φ:Ph}{vs:List Value}{m:MV}(h:ga key φ vs [m]):gY key φ vs m:=by
 cases h with
 |cons v _ vs _ h1 h2=>cases h2;simpa using h1
theorem En {a:Addr}{n:Nat}{cs:List Value}(h:W.cells? base a n=some cs):cs.length=n/\ ∀j,j<n->W.cell? (a.add j)=cs[j]? :=by
 unfold World.cells? at h;split at h
 ·have hl:=mapM_some_length h;refine ⟨by simpa using hl,λj hj=> ?_⟩;exact mapM_some_get h j j (by simp [hj])
 ·cases h
theorem PF {F:TypeId->List MV->Prop}{fuel:Nat}{cs:List Value}: ∀(fs:List Field) (o n:Nat) (xs:List (DataW H×List MemPlace)),NK P fs o n=true->cs.length=n-> (∀(i:Nat) (f:Field),fs[i]? =some f->DataW.trod enc P W base sp held fuel f.type ((cs.drop f.offset).take (P.cellsOf f.type))=xs[i]?)->xs.length=fs.length-> (∀f∈fs,∀fU x,DataW.trod enc P W base sp held fuel f.type fU=some x-> ∃ms,ga key (Em W) fU ms/\F f.type ms)-> ∃ms,ga key (Em W) (cs.drop o) ms/\FT F (fs.map (·.type)) ms:=by
 intro fs;induction fs with
 |nil=>intro o n xs hc hl _ _ _;have:o=n:=AI hc;subst this;refine ⟨[],?_,rfl⟩;rw [<-hl,List.drop_length];exact .nil
 |cons f fs ih=>
  intro o n xs hc hl hx hxl hF;simp only [NK,sh] at hc;have ho:=AI hc.1;cases xs with
  |nil=>simp at hxl
  |cons x xs=>have h0:=hx 0 f rfl;rw [ho] at h0;obtain ⟨m1,r1,t1⟩:=hF f (by simp) _ x (by simpa using h0);obtain ⟨m2,r2,t2⟩:=ih (o+P.cellsOf f.type) n xs hc.2 hl (λi g hg=>by have:=hx (i+1) g (by simpa using hg);simpa using this) (by simpa using hxl) (λg hg=>hF g (by simp [hg]));refine ⟨m1++m2,?_,m1,m2,rfl,t1,t2⟩;have:=r1.append r2;rw [<-List.drop_drop,ae8] at this;exact this
theorem Zk: ∀(fuel D:Nat) (t:TypeId) (cs:List Value) (x:DataW H×List MemPlace),okT P D t=true->DataW.trod enc P W base sp held fuel t cs=some x-> ∃ms,ga key (Em W) cs ms/\MT P fuel t ms:=by
 intro fuel;induction fuel with
 |zero=>intro D t cs x _ h;simp [DataW.trod] at h
 |succ fuel ih=>
  intro D t cs x hD h;cases D with
  |zero=>simp [okT] at hD
  |succ D=>
   unfold okT at hD;cases hu:P.underlying t with
   |none=>simp [hu] at hD
   |some d=>
    cases d<;>simp only [hu] at hD<;>try (cases hD;done)
    case bool=>obtain ⟨b,rfl,_⟩:=DataW.trod_bool hu h;exact ⟨[.b b],.Zj (.b b),by simp only [MT,hu];exact ⟨b,rfl⟩⟩
    case int k=>obtain ⟨n,rfl,_,hw⟩:=DataW.trod_int hu h;exact ⟨[.i k n],.Zj (.i k n),by simp only [MT,hu];exact ⟨n,rfl,hw⟩⟩
    case string=>obtain ⟨s,rfl,_,hw⟩:=DataW.trod_string hu h;exact ⟨[.s s.data.toList],.Zj (.s s),by simp only [MT,hu];exact ⟨_,rfl,by simpa using hw⟩⟩
    case struct fs=>
     obtain ⟨xs,n,hn,_,hl,hxl,hx⟩:=DataW.trod_struct hu h;have hn:n=fuel:=by omega
     subst hn;simp only [sh] at hD;obtain ⟨ms,r1,t1⟩:=PF (F:=MT P n) (key:=key) fs.toList 0 (P.cellsOf t) xs hD.1 hl (λi f hf=>hx i f (by simpa using hf)) (by simpa using hxl) (λf hf fU x' h'=>ih D f.type fU x' (afX.1 hD.2 f hf) h');exact ⟨ms,by simpa using r1,by simp only [MT,hu];exact t1⟩
    case slice e=>
     simp only [sh] at hD;have eD:1<=P.cellsOf e:=acv hD.2;rcases DataW.trod_slice hu h with ⟨rfl,_⟩|⟨a,len,cap,elems,rest,n,hn,rfl,_,_,hlc,CD,hel,hx,_⟩
     ·refine ⟨[.list []],.Zj (.list none 0 [] 0 0 0 (λ_=>[]) (by simp) (by simp) (by simp) (by simp) (by simp)),?_⟩;simp only [MT,hu];exact ⟨[],rfl,age _,by simp⟩
     ·have hn:n=fuel:=by omega
      subst hn;have jd: ∀i,i<len-> ∃fU m,W.cells? base (a.add (i *P.cellsOf e)) (P.cellsOf e)=some fU/\gY key (Em W) fU m/\ME P (MT P n) e m:=by
       intro i hi;have h1:=hx i hi;cases hc:W.cells? base (a.add (i *P.cellsOf e)) (P.cellsOf e) with
       |none=>
        rw [hc] at h1;have:elems[i]? =none:=by simpa using h1.symm
        rw [adk] at this;omega
       |some fU=>
        rw [hc] at h1;have cI:i<elems.length:=by omega
        rw [By cI] at h1;obtain ⟨ms,r1,t1⟩:=ih D e fU _ hD.1 (by simpa using h1);have oT:=hD.1;by_cases hs: ∃fs,P.underlying e=some (.struct fs)
        ·obtain ⟨fs,hs⟩:=hs;exact ⟨fU,.agg ms,rfl,.agg fU ms r1,by simp only [ME,hs];exact ⟨ms,rfl,t1⟩⟩
        ·have h1m: ∃m,ms=[m]:=by
          cases n with
          |zero=>exact t1.elim
          |succ n=>
           simp only [MT] at t1;cases hue:P.underlying e with
           |none=>simp [hue] at t1
           |some de=>
            cases de<;>simp only [hue] at t1<;>first
             |exact t1.elim
             |(obtain ⟨y,hy,_⟩:=t1;exact ⟨_,hy⟩)
             |(obtain ⟨y,hy⟩:=t1;exact ⟨_,hy⟩)
             |exact absurd ⟨_,hue⟩ hs
         obtain ⟨m,rfl⟩:=h1m;refine ⟨fU,m,rfl,r1.single,?_⟩;unfold ME;cases hue:P.underlying e with
         |none=>exact t1
         |some de=>cases de<;>first|exact t1|exact absurd ⟨_,hue⟩ hs
      let f:Nat->List Value:=λi=>(W.cells? base (a.add (i *P.cellsOf e)) (P.cellsOf e)).getD [];let g:Nat->MV:=λi=>if hi:i<len then adX (abV (jd i hi)) else default
      have OQ: ∀i,i<len->W.cells? base (a.add (i *P.cellsOf e)) (P.cellsOf e)=some (f i)/\gY key (Em W) (f i) (g i)/\ME P (MT P n) e (g i):=by
       intro i hi;have hsp:=abV (abV (jd i hi));have hf:f i=adX (jd i hi):=by show (W.cells? base (a.add (i *P.cellsOf e)) (P.cellsOf e)).getD []=_;exact congrArg (λo=>o.getD []) hsp.1
       have hg:g i=adX (abV (jd i hi)):=by show (if hi:i<len then _ else _)=_;rw [dif_pos hi]
       rw [hf,hg];exact hsp
      have afl:0<len->a=⟨a.block,a.off,none⟩:=by
       intro h0;obtain ⟨h1,_,_⟩:=OQ 0 h0;obtain ⟨oq,hcg⟩:=En h1;have:=hcg 0 (by omega);rw [Nat.zero_mul] at this;have hz:(a.add 0).add 0=a:=rfl;rw [hz] at this;have cI:0<(f 0).length:=by omega
       rw [By cI] at this;unfold World.cell? at this;split at this
       ·cases hsp:a.spot with
        |none=>cases a;simp at hsp;subst hsp;rfl
        |some s=>simp [hsp] at this
       ·cases this
      have ajU: ∀i j,i<len->j<P.cellsOf e->Em W a.block (a.off+i *P.cellsOf e+j)=(f i)[j]? :=by intro i j hi hj;obtain ⟨h1,_,_⟩:=OQ i hi;obtain ⟨oq,hcg⟩:=En h1;have:=hcg j hj;rw [<-this];unfold Em;congr 1;have ha:=afl (by omega);rw [ha];rw [agN,agN]
      refine ⟨[.list ((afA len).map g)],.Zj ?_,?_⟩
      ·have hlen:((afA len).map g).length=len:=by simp
       have:=gY.list (key:=key) (φ:=Em W) (some a) cap ((afA len).map g) a.block a.off (P.cellsOf e) f (by rw [hlen];exact hlc) (λh0=>by rw [hlen] at h0;exact congrArg some (afl h0)) (λi hi=>by rw [hlen] at hi;exact (En (OQ i hi).1).1) (λi j hi hj=>ajU i j (by rw [hlen] at hi;exact hi) hj) (λi hi=>by simp at hi;simpa using (OQ i hi).2.1);rw [hlen] at this;exact this
      ·simp only [MT,hu];refine ⟨_,rfl,by simp;omega,λy hy=> ?_⟩;obtain ⟨i,hi,rfl⟩:=abW.1 hy;exact (OQ i (by simpa using hi)).2.2
    case array n e=>
     simp only [sh] at hD;obtain ⟨⟨⟨h1,h2⟩,h3⟩,h4⟩:=hD;have h1:=AI h1;have h3:=AI h3;have h4:=AI h4;subst h1;obtain ⟨xs,m,hm,_,hl,hxl,hx⟩:=DataW.trod_array hu h;rw [h4] at hl;split at h2
     ·rename_i hue;have rL: ∀i (hi:i<cs.length),∃b:UInt8,cs[i]= .int .u8 (b.toNat:Int):=by
       intro i hi;have RE:i<32:=by omega
       have:=hx i RE;rw [h3,Nat.mul_one] at this;have Lu:(cs.drop i).take 1=[cs[i]]:=by rw [List.take_one,List.head?_drop,By hi];rfl
       rw [Lu,By (by omega)] at this;obtain ⟨k,hk,_,hw⟩:=DataW.trod_int hue this;simp only [OF,and_true] at hk;refine ⟨adv k.toNat,?_⟩;rw [hk];simp only [Lit.wf,sh,decide_eq_true_eq] at hw;have Yo:IntKind.u8.min=0:=by decide
       have aor:IntKind.u8.max=255:=by decide
       rw [Yo,aor] at hw;congr 1;have:(adv k.toNat).toNat=k.toNat:=by rw [UInt8.toNat_ofNat'];omega
       rw [this];omega
      have: ∃l:List UInt8,cs=l.map λb=>ags .u8 (b.toNat:Int):=by
       clear hx hl h;induction cs with
       |nil=>exact ⟨[],rfl⟩
       |cons c cs ihc=>obtain ⟨b,hb⟩:=rL 0 (by simp);obtain ⟨l,hl⟩:=ihc (λi hi=>by have:=rL (i+1) (by simpa using hi);simpa using this);exact ⟨b::l,by simp at hb;rw [hb,hl];rfl⟩
      obtain ⟨l,rfl⟩:=this;have agO:l.length=32:=by simpa using hl
      refine ⟨[.h ⟨l,agO⟩],?_,by simp only [MT,hu];exact ⟨_,rfl⟩⟩;have:=ga.cons (key:=key) (φ:=Em W) _ (.h ⟨l,agO⟩) [] [] (.h ⟨l,agO⟩) .nil;simpa using this
     ·cases h2
theorem Zl {r:Reach}{b0 D:Nat}{t:TypeId}{v:Value}{d:DataW H}{ps:List MemPlace}(hD:okT P D t=true)(hv:afP P W r b0 t v)(h:DataW.Trod enc P W base sp held t v d ps): ∃m n,di key (Em W) v m/\ME P (MT P n) t m:=by
 obtain ⟨fuel,hf⟩:=h;obtain ⟨ms,r1,t1⟩:=Zk (key:=key) fuel D t _ _ hD hf;cases fuel with
 |zero=>exact t1.elim
 |succ fuel=>
  have t2:=t1;simp only [MT] at t1;cases hu:P.underlying t with
  |none=>simp [hu] at t1
  |some k=>
   simp only [hu] at t1;cases k<;>simp only at t1<;>try (exact t1.elim)
   case bool=>obtain ⟨b,rfl⟩:=t1;obtain ⟨b',rfl⟩:=okWide_bool hu hv;refine ⟨.b b,fuel+1,⟨rfl,r1.single⟩,by unfold ME;simp only [hu];exact t2⟩
   case int k=>obtain ⟨n,rfl,_⟩:=t1;obtain ⟨n',rfl⟩:=okWide_int hu hv;refine ⟨.i k n,fuel+1,⟨rfl,r1.single⟩,by unfold ME;simp only [hu];exact t2⟩
   case string=>obtain ⟨l,rfl,_⟩:=t1;obtain ⟨s',rfl⟩:=okWide_string hu hv;refine ⟨.s l,fuel+1,⟨rfl,r1.single⟩,by unfold ME;simp only [hu];exact t2⟩
   case slice e=>
    obtain ⟨xs,rfl,_⟩:=t1;have hvc:v.cells.toList=[v]:=by simp only [afP,hu,Cell.okWide] at hv;cases v<;>simp_all [Cell.ok,ac5]
    rw [hvc] at r1;refine ⟨.list xs,fuel+1,⟨rfl,r1.single⟩,by unfold ME;simp only [hu];exact t2⟩
   case struct fs=>obtain ⟨arr,rfl,_⟩:=okWide_struct hu hv;refine ⟨.agg ms,fuel+1,⟨arr,rfl,by simpa [ac5] using r1⟩,by unfold ME;simp only [hu];exact ⟨ms,rfl,t2⟩⟩
   case array n e=>
    obtain ⟨h,rfl⟩:=t1;have: ∃arr,v= .agg arr:=by simp only [afP,hu] at hv;obtain ⟨arr,rfl,_⟩:=hv;exact ⟨arr,rfl⟩
    obtain ⟨arr,rfl⟩:=this;refine ⟨.h h,fuel+1,?_,by unfold ME;simp only [hu];exact t2⟩;have hr:=r1.single;simp only [ac5] at hr;generalize yt:arr.toList=vs at hr;cases hr;show Value.agg arr= .agg _;rw [<-yt]
end
end Dn
