import Derived.Test.YteakdlhhamgfbaaDoorDnB
import Derived.Laws.Sem
import Derived.ProofKit
import Derived.OpenShut
import Derived.Laws.CopyRow
import Derived.Lib.AppendZerosOnto
import Derived.Lib.Overlaps
import Derived.Laws.Externs
import Derived.Lib.SlTrimSet
import Derived.Lib.Bytealg
import Derived.Shelf.Strings.Split
import Derived.Shelf.Strings.SlTrimAscii
import Derived.Shelf.Strings.Runes
import Derived.Lib.IndexBytes
import Derived.Control
import Derived.LaidLaws
import Derived.Deep.DeepLaidRun
import Derived.Handed
import Derived.JoinedOf
import Derived.KernelRfl
/-
  Whole functions. Conditions: none.
-/
set_option linter.unusedSimpArgs false
set_option linter.unusedVariables false
namespace Dn
open Go
section
variable {P:Program} {c:Ctx} {Z Zb Zi:aJ} {e e' e3:Env} {st aR gV B:St} {a a':Act} {w w':World} {R:Type} {r:R} {Q:Exit→Act→World→Prop} {o:Oper}
theorem xf {ts:List Nat}: ∀{n:Nat} {vs:List Value} {ms:List MV} {K:Fr→List MV→Option R},aK e.key e.φ vs ms→vh c ts n ms K=some r→
 ∃fr rest mu pB,K fr rest=some r∧vs=mu++pB∧mu.length=ts.length∧aK e.key e.φ pB rest∧ap fr=List.range' n ts.length∧
  (∀p∈fr,bE p.2=false∧bn p.2=false∧ ∃v,mu[p.1-n]? =some v∧aa e v p.2):=by
 induction ts with
 |nil=>intro n vs ms K h hK;exact ⟨[],ms,[],vs,hK,rfl,rfl,h,rfl,by simp⟩
 |cons t ts ih=>
  intro n vs ms K h hK
  simp only [vh] at hK
  cases hI:c.tv t with
  |none=>simp [hI] at hK
  |some I=>
   simp only [hI] at hK
   cases ms with
   |nil=>simp [gC] at hK
   |cons m ms=>
    simp only [gC] at hK
    obtain ⟨v,u,rfl,h1,h2⟩:=h
    obtain ⟨s,g1,g2,hK⟩:=lU h1 hK
    obtain ⟨fr,rest,mu,pB,hK,rfl,q1,q2,q3,q4⟩:=ih h2 hK
    refine ⟨(n,s)::fr,rest,v::mu,pB,hK,rfl,by simp [q1],q2,?_,?_⟩
    ·simp only [ap,List.map_cons,List.length_cons] at q3⊢
     rw [q3,List.range'_succ]
    ·intro p hp
     rcases List.mem_cons.1 hp with rfl|hp
     ·refine ⟨?_,?_,v,by simp,g1⟩
      ·cases s<;>simp [n7] at g2<;>rfl
      ·cases s<;>simp [n7] at g2<;>rfl
     ·obtain ⟨k1,k2,v',k3,k4⟩:=q4 p hp
      refine ⟨k1,k2,v',?_,k4⟩
      have hk:p.1∈ap fr:=List.mem_map.2 ⟨p,hp,rfl⟩
      rw [q3,List.mem_range'] at hk
      obtain ⟨i,hi,he⟩:=hk
      have:p.1-n=(p.1-(n+1))+1:=by omega
      rw [this];simpa using k3
theorem AM {fe:List (List Kd)}: ∀{n:Nat} {vs:List Value} {ms:List MV} {K:Fr→Option R},aK e.key e.φ vs ms→z8 fe n ms K=some r→
 ∃fr,K fr=some r∧vs.length=fe.length∧ap fr=List.range' n fe.length∧
  (∀p∈fr,bE p.2=false∧(∀cs,p.2≠ .box cs)∧ ∃v,vs[p.1-n]? =some v∧aa e v p.2):=by
 induction fe with
 |nil=>
  intro n vs ms K h hK
  cases ms with
  |nil=>cases h;exact ⟨[],hK,rfl,rfl,by simp⟩
  |cons m ms=>simp [z8,gN] at hK
 |cons ks fe ih=>
  intro n vs ms K h hK
  cases ms with
  |nil=>simp [z8,gC] at hK
  |cons m ms=>
   simp only [z8,gC] at hK
   obtain ⟨v,u,rfl,h1,h2⟩:=h
   unfold gP at hK
   split at hK
   ·rename_i cs
    obtain ⟨_,h1⟩:=h1
    obtain ⟨ax,off,us,hv,hr,hφ⟩: ∃ax off us,v= .pointer (some ⟨ax,off,none⟩)∧c7 e.key e.φ us cs∧ ∀j,j<us.length→e.φ ax (off+j)=us[j]? :=by
     generalize oW:[v]=ws at h1
     cases h1 with
     |rp ax off us _ hr hφ=>exact ⟨ax,off,us,by simpa using oW,hr,hφ⟩
    obtain ⟨ls,tl,hK⟩:=lQ (e:=e) (vs:=us) hK
    obtain ⟨fr,hK,q1,q3,q4⟩:=ih h2 hK
    refine ⟨(n,.mQ ls)::fr,hK,by simp [q1],?_,?_⟩
    ·simp only [ap,List.map_cons,List.length_cons] at q3⊢
     rw [q3,List.range'_succ]
    ·intro p hp
     rcases List.mem_cons.1 hp with rfl|hp
     ·refine ⟨rfl,fun cs he=>(by cases he),v,by simp,?_⟩
      simp only [aa]
      exact ⟨ax,off,us,hv,tl.Jq hr,tl.Bz,hφ⟩
     ·obtain ⟨k1,k2,v',k3,k4⟩:=q4 p hp
      refine ⟨k1,k2,v',?_,k4⟩
      have hk:p.1∈ap fr:=List.mem_map.2 ⟨p,hp,rfl⟩
      rw [q3,List.mem_range'] at hk
      obtain ⟨i,hi,he⟩:=hk
      have:p.1-n=(p.1-(n+1))+1:=by omega
      rw [this];simpa using k3
   ·simp at hK
theorem xg {r:Fr} {t:Nat} (ht:t∈ap r):(t,ae r t)∈r:=by
 induction r with
 |nil=>simp [ap] at ht
 |cons p r ih=>
  obtain ⟨k,x⟩:=p
  simp only [ae,cE]
  by_cases h:k=t
  ·simp [h]
  ·simp only [h,decide_false,cond_false]
   simp only [ap,List.map_cons,List.mem_cons] at ht
   exact List.mem_cons_of_mem _ (ih (ht.resolve_left (fun e=>h e.symm)))
def eN (tmps:Array Value):ResultVar→Sem Value
 | .tmp t=>pure (tmps.getD t undef)
 | .cell a t=>do loadVar t (←asAddr (tmps.getD a undef))
theorem AN {rs:List ResultVar} (hT:fp P c.ti): ∀{e:Env} {st:St} {K:List MV→Option R},aO c Z e st a w→yc c st none rs K=some r→
 ∃e' aR ms vs,aO c Z e' aR a w∧Ext Z.In e e'∧(rs.mapM (eN a.tmps)).run P w= .ok vs w∧aK e'.key e'.φ vs ms∧K ms=some r:=by
 induction rs with
 |nil=>intro e st K h hK;exact ⟨e,st,[],[],h,.refl _ _,by simp,rfl,hK⟩
 |cons x rs ih=>
  intro e st K h hK
  have go: ∀(s:Slot) (v:Value),aa e v s→(eN a.tmps x).run P w= .ok v w→(iR st s fun m st=>yc c st none rs fun ms=>K (m::ms))=some r→
   ∃e' aR ms vs,aO c Z e' aR a w∧Ext Z.In e e'∧((x::rs).mapM (eN a.tmps)).run P w= .ok vs w∧aK e'.key e'.φ vs ms∧K ms=some r:=by
   intro s v hs aX hK
   obtain ⟨e1,bw,m,h1,h2,h3,h4,hK⟩:=iA h hs hK
   obtain ⟨e2,cn,ms,vs,q1,q2,q3,q4,hK⟩:=ih h1 hK
   refine ⟨e2,cn,m::ms,v::vs,q1,h2.trans q2,?_,⟨v,vs,rfl,?_,q4⟩,hK⟩
   ·simp [List.mapM_cons,aX,q3]
   ·have:=h4.mono q2.on.φ
    rw [←q2.on.key] at this;exact this
  simp only [yc] at hK
  cases x with
  |tmp t=>
   simp only at hK
   have hs:=h.slot t
   by_cases hb: ∃cs,ae st.fr t= .box cs
   ·obtain ⟨cs,hb⟩:=hb
    rw [hb] at hK
    simp [iR] at hK
   ·refine go (ae st.fr t) (a.tmps.getD t undef) ?_ rfl hK
    generalize ae st.fr t=s at hs hb
    cases s<;>first|exact hs|exact absurd ⟨_,rfl⟩ hb
  |cell b t=>
   simp only at hK
   have hs:=h.slot b
   split at hK
   ·rename_i I cs hI hb
    obtain ⟨wh,Ci⟩:=aN hI
    rw [hb] at hs
    obtain ⟨hv,qf⟩:=hs
    cases rv:ct cs||om b with
    |true=>simp [rv] at hK
    |false=>
    obtain ⟨lc,Kg⟩:=Bool.or_eq_false_iff.1 rv
    simp only [rv,cond_false] at hK
    have hv:=hv.1 Kg
    rw [kH lc] at hv
    obtain ⟨arr,T,bW,ji⟩:=qf.cells lc
    have hm:w.rangeAt (e.B b) 0 arr.toList:=by
     intro j v hj
     rw [Nat.zero_add,cell_of bW];simpa using hj
    obtain ⟨v,s,h1,h2,h3,h4⟩:=dP (P:=P) (st:=st) (s:= .skip) (hT t I wh) Ci ji hm hK
    refine go s v h2 ?_ h4
    simpa [eN,hv,asAddr,Instr.loadAt,Instr.sureAddr] using h1 w hm
   ·simp at hK
theorem uA {rs:List ResultVar} (hT:fp P c.ti) (h:aO c Z e st a w): ∀{K:List MV→Option R},wD c st rs K=some r→
 ∃ms vs,(rs.mapM (eN a.tmps)).run P w= .ok vs w∧aK e.key e.φ vs ms∧ms.length=rs.length∧K ms=some r:=by
 induction rs with
 |nil=>intro K hK;exact ⟨[],[],by simp,rfl,rfl,hK⟩
 |cons x rs ih=>
  intro K hK
  have go: ∀(s:Slot) (v:Value),aa e v s→(eN a.tmps x).run P w= .ok v w→(match s with
   | .sc (.p m)=>wD c st rs fun ms=>K (m::ms)
   |_=>none)=some r→ ∃ms vs,((x::rs).mapM (eN a.tmps)).run P w= .ok vs w∧aK e.key e.φ vs ms∧ms.length=(x::rs).length∧K ms=some r:=by
   intro s v hs aX hK
   split at hK
   ·rename_i m
    obtain ⟨ms,vs,q1,q2,q3,hK⟩:=ih hK
    simp only [aa] at hs
    obtain ⟨g1,g2⟩:m.one=true∧eJ e.key e.φ [v] m:=hs
    exact ⟨m::ms,v::vs,by simp [List.mapM_cons,aX,q1],⟨v,vs,rfl,by cases m<;>simp [MV.one] at g1<;>exact ⟨rfl,g2⟩,q2⟩,by simp [q3],hK⟩
   ·cases hK
  simp only [wD] at hK
  cases x with
  |tmp t=>
   simp only at hK
   have hs:=h.slot t
   by_cases hb: ∃cs,ae st.fr t= .box cs
   ·obtain ⟨cs,hb⟩:=hb
    rw [hb] at hK
    simp at hK
   ·refine go (ae st.fr t) (a.tmps.getD t undef) ?_ rfl hK
    generalize ae st.fr t=s at hs hb
    cases s<;>first|exact hs|exact absurd ⟨_,rfl⟩ hb
  |cell b t=>
   simp only at hK
   have hs:=h.slot b
   split at hK
   ·rename_i I cs hI hb
    obtain ⟨wh,Ci⟩:=aN hI
    rw [hb] at hs
    obtain ⟨hv,qf⟩:=hs
    cases rv:ct cs||om b with
    |true=>simp [rv] at hK
    |false=>
    obtain ⟨lc,Kg⟩:=Bool.or_eq_false_iff.1 rv
    simp only [rv,cond_false] at hK
    have hv:=hv.1 Kg
    rw [kH lc] at hv
    obtain ⟨arr,T,bW,ji⟩:=qf.cells lc
    have hm:w.rangeAt (e.B b) 0 arr.toList:=by
     intro j v hj
     rw [Nat.zero_add,cell_of bW];simpa using hj
    obtain ⟨v,s,h1,h2,h3,h4⟩:=dP (P:=P) (st:=st) (s:= .skip) (hT t I wh) Ci ji hm hK
    refine go s v h2 ?_ h4
    simpa [eN,hv,asAddr,Instr.loadAt,Instr.sureAddr] using h1 w hm
   ·simp at hK
theorem AO {x:ResultVar} {rs:List ResultVar} {ty:Nat} {I:TI} {K:List MV→Option R} (hI:c.tv ty=some I) (hT:fp P c.ti) (nd:Z.aY=[]) (h:aO c Z e st a w) (hK:yc c st (some ty) (x::rs) K=some r):
 ∃v xs us ms,((x::rs).mapM (eN a.tmps)).run P w= .ok (v::us) w∧bu c Z.nc e w v ⟨ty,false,xs⟩∧aK e.key e.φ us ms∧ms.length=rs.length∧K (.fresh xs::ms)=some r:=by
 obtain ⟨jF,hc⟩:=aN hI
 have go: ∀(s:Slot) (v:Value),aa e v s→(eN a.tmps x).run P w= .ok v w→(match s with
  | .sc (.own f)=>(match aj st.ao f with|some o=>bif o.bU||!Nat.beq o.ty ty then none else wD c st rs fun ms=>K (.fresh o.xs::ms)|none=>none)
  | .sc .nil=>wD c st rs fun ms=>K (.fresh []::ms)
  |_=>none)=some r→ ∃v xs us ms,((x::rs).mapM (eN a.tmps)).run P w= .ok (v::us) w∧bu c Z.nc e w v ⟨ty,false,xs⟩∧aK e.key e.φ us ms∧ms.length=rs.length∧K (.fresh xs::ms)=some r:=by
  intro s v hs aX hK
  have hr: ∀{us:List Value},(rs.mapM (eN a.tmps)).run P w= .ok us w→((x::rs).mapM (eN a.tmps)).run P w= .ok (v::us) w:=fun h=>by simp [List.mapM_cons,aX,h]
  split at hK
  ·rename_i f
   cases hf:aj st.ao f with
   |none=>simp [hf] at hK
   |some o=>
    simp only [hf] at hK
    cases hb:o.bU||!Nat.beq o.ty ty with
    |true=>simp [hb] at hK
    |false=>
     simp only [hb,cond_false] at hK
     obtain ⟨ms,us,q1,q2,q3,hK⟩:=uA hT h hK
     obtain ⟨h1,h2⟩:=Bool.or_eq_false_iff.1 hb
     have dg:o.ty=ty:=Nat.eq_of_beq_eq_true (by simpa using h2)
     obtain ⟨hv,_⟩:=jn h hs hf
     obtain ⟨J,cells,k1,k2,k3,k4,k5⟩:=(h.dA f o hf).row
     refine ⟨v,o.xs,us,ms,hr q1,⟨J,cells,by rw [←dg];exact k1,k2,by rw [hv,←dg];exact k3,k4,fun ax hb=> ?_⟩,q2,q3,hK⟩
     rw [hv] at hb
     obtain ⟨q1,q2,_⟩:=k5 ax hb
     refine ⟨wc q1 (by rw [nd];simp),fun off u hu=> ?_,fun hc=>hc.elim⟩
     have:=(q2 off u hu).1
     rw [h1] at this;cases this
  ·obtain ⟨ms,us,q1,q2,q3,hK⟩:=uA hT h hK
   simp only [aa] at hs
   have hs:[v]=[Value.slice none 0 0]:=hs
   simp at hs
   refine ⟨v,[],us,ms,hr q1,⟨I,[],jF,hc,by rw [hs];exact World.ownsRow_nil w 0 ty I.size,rfl,fun ax hb=> ?_⟩,q2,q3,hK⟩
   rw [hs] at hb;simp [Value.ownBlock] at hb
  ·cases hK
 simp only [yc] at hK
 cases x with
 |tmp t=>
  simp only at hK
  have hs:=h.slot t
  by_cases hb: ∃cs,ae st.fr t= .box cs
  ·obtain ⟨cs,hb⟩:=hb
   rw [hb] at hK
   simp at hK
  ·refine go (ae st.fr t) (a.tmps.getD t undef) ?_ rfl hK
   generalize ae st.fr t=s at hs hb
   cases s<;>first|exact hs|exact absurd ⟨_,rfl⟩ hb
 |cell b t=>
  simp only at hK
  have hs:=h.slot b
  split at hK
  ·rename_i I cs hI hb
   obtain ⟨wh,Ci⟩:=aN hI
   rw [hb] at hs
   obtain ⟨hv,qf⟩:=hs
   cases rv:ct cs||om b with
   |true=>simp [rv] at hK
   |false=>
   obtain ⟨lc,Kg⟩:=Bool.or_eq_false_iff.1 rv
   simp only [rv,cond_false] at hK
   have hv:=hv.1 Kg
   rw [kH lc] at hv
   obtain ⟨arr,T,bW,ji⟩:=qf.cells lc
   have hm:w.rangeAt (e.B b) 0 arr.toList:=by
    intro j v hj
    rw [Nat.zero_add,cell_of bW];simpa using hj
   obtain ⟨v,s,h1,h2,h3,h4⟩:=dP (P:=P) (st:=st) (s:= .skip) (hT t I wh) Ci ji hm hK
   refine go s v h2 ?_ h4
   simpa [eN,hv,asAddr,Instr.loadAt,Instr.sureAddr] using h1 w hm
  ·simp at hK
theorem Dj {X:Code→St→(Nat→St→Option MV)→Option MV} (hX: ∀(b:Code) {r:MV} {Z:aJ} {e:Env} {st:St} {a:Act} {w:World} {K:Nat→St→Option MV} {Q:Exit→Act→World→Prop},aO c Z e st a w→X b st K=some r→
 (∀n e' aR a' w',aO c Z e' aR a' w'→Trans Z.In e.φ w e'.φ w'→K n aR=some r→Q (oE n) a' w')→b.wp P Q a w)
 {f:FuncId} {fn:Func} {bk:List (List Kd)} {ms:List MV} {m:MV} (hG:Good P c) (hf:P.funcs[f]? =some fn) (xh:(fn.name== "runtime.NumGoroutine")=false)
 (hn:c.n=fn.ntmps) (jZ:fn.params.size+bk.length≤fn.ntmps) (hg:c.cy (c.key f)=false) {fresh:Option Nat} (tx: ∀ty,fresh=some ty→ty=c.hO (c.key f)∧1≤fn.results.toList.length∧ ∃I,c.tv ty=some I) (hb:B8 X c bk fresh fn ms=some m):gj P c f ms m:=by
 intro φ w Z vs hz ea pg
 simp only [cS,hg,Bool.false_eq_true,if_false] at ea
 unfold B8 at hb
 cases sD:fn.body with
 |none=>simp [sD] at hb
 |some b=>
  simp only [sD] at hb
  have aX:(callFunc f vs.toArray).run P w= .ok (.enter f vs.toArray) w:=by
   have Af: ¬fn.name= "runtime.NumGoroutine" :=by simpa using xh
   simp [callFunc,hf,Af,sD]
  unfold en
  rw [aX]
  refine calls_of_wp hf sD ?_
  let e:Env:=li c.key φ
  have ea:aK e.key e.φ vs ms:=ea
  obtain ⟨fr,rest,mu,pB,hb,rfl,l1,a2,k1,s1⟩:=xf ea hb
  obtain ⟨mO,hb,l2,k2,s2⟩:=AM a2 hb
  simp only [mY] at hb
  have PC:(mu++pB).toArray.size=fn.params.size+bk.length:=by simp [l1,l2]
  let a:Act:={tmps:=(mu++pB).toArray++Array.replicate (fn.ntmps-(mu++pB).toArray.size) undef,defers:=[]}
  have zr: ∀(t:Nat) (v:Value),(mu++pB)[t]? =some v→a.tmps.getD t undef=v:=by
   intro t v ht
   have dJ:t<(mu++pB).length:=(List.getElem?_eq_some_iff.1 ht).1
   rw [Array.getD_eq_getD_getElem?]
   show (((mu++pB).toArray++Array.replicate _ undef)[t]?).getD undef=v
   rw [Array.getElem?_append_left (by simpa using dJ)]
   simp only [List.getElem?_toArray]
   rw [ht];rfl
  have Dk: ∀t,bE (ae (fr++mO) t)=false∧(∀cs,ae (fr++mO) t≠ .box cs)∧aa e (a.tmps.getD t undef) (ae (fr++mO) t):=by
   intro t
   rw [qy]
   by_cases h1:t∈ap fr
   ·simp only [h1,if_true]
    obtain ⟨g1,g2,v,g3,g4⟩:=s1 _ (xg h1)
    refine ⟨g1,?_,?_⟩
    ·intro cs hc;simp only [hc,bn] at g2;cases g2
    ·rw [zr t v ?_];exact g4
     have dJ:t<mu.length:=(List.getElem?_eq_some_iff.1 g3).1
     rw [List.getElem?_append_left dJ];exact g3
   ·simp only [h1,if_false]
    by_cases h2:t∈ap mO
    ·obtain ⟨g1,g2,v,g3,g4⟩:=s2 _ (xg h2)
     refine ⟨g1,g2,?_⟩
     rw [zr t v ?_];exact g4
     have hk:=h2
     rw [k2,List.mem_range'] at hk
     obtain ⟨i,hi,he⟩:=hk
     have qc:fn.params.size=mu.length:=by rw [l1];simp
     rw [List.getElem?_append_right (by omega),←qc];exact g3
    ·rw [kY _ _ h2]
     exact ⟨rfl,fun cs hc=>(by cases hc),by simp [aa]⟩
  have Dl: ∀t cs,ae (fr++mO) t= .box cs→False:=fun t cs hc=>(Dk t).2.1 cs hc
  have iB:aO c (aJ.plain Z) e ⟨[],[],fr++mO,[]⟩ a w:=by
   refine ⟨⟨rfl,rfl,rfl,fun t ht=>by simp [aJ.plain] at ht⟩,?_,rfl,rfl,?_,?_,fun t=>nI (Dk t).1,fun f o ho=>by simp [aj] at ho,fun t t' cs cJ h1=>(Dl t cs h1).elim,
    fun t cs f o h1=>(Dl t cs h1).elim,fun f f' o o' k h1=>by simp [aj] at h1,pg,hz⟩
   ·show ((mu++pB).toArray++Array.replicate (fn.ntmps-(mu++pB).toArray.size) undef).size=c.n
    rw [Array.size_append,Array.size_replicate,PC,hn];omega
   ·show (ap (fr++mO)).Nodup
    have:ap (fr++mO)=ap fr++ap mO:=by simp [ap]
    rw [this,k1,k2]
    have:List.range' 0 fn.params.toList.length++List.range' fn.params.size bk.length=List.range' 0 (fn.params.toList.length+bk.length):=by
     have:=List.range'_append_1 (s:=0) (m:=fn.params.toList.length) (n:=bk.length)
     simpa using this
    rw [this];exact List.nodup_range'
   ·intro t
    obtain ⟨g1,g2,g3⟩:=Dk t
    show aP _ e w t _ (ae (fr++mO) t)
    generalize ae (fr++mO) t=s at g1 g2 g3
    cases s<;>first|exact g3|exact absurd rfl (g2 _)
  refine hX b iB hb ?_
  intro n e' aR a' w' h' t' hK
  cases hle:Nat.ble n 1 with
  |false=>simp [hle] at hK
  |true=>
   simp only [hle,cond_true] at hK
   have MK: ∃φ' us,Trans Z e'.φ w' φ' w'∧r5 φ' w'∧(fn.results.toList.mapM (eN a'.tmps)).run P w'= .ok us w'∧iW c Z φ' w' (c.key f) (if h:us.toArray.size=1 then us.toArray[0] else .tuple us.toArray) m:=by
    cases fresh with
    |some ty=>
     obtain ⟨h1,h2,I,h3⟩:=tx ty rfl
     match PD:fn.results.toList,h2 with
     |x::rs,_=>
      rw [PD] at hK
      obtain ⟨v,xs,us,ms,g1,g2,g4,g5,g3⟩:=AO (P:=P) h3 hG.ti rfl h' hK
      have K1:bu c (aJ.plain Z) (li c.key e'.φ) w' v ⟨c.hO (c.key f),false,xs⟩:=by
       rw [←h1]
       exact g2.env (e':=li c.key e'.φ) h'.key.symm rfl
      rw [h'.key] at g4
      refine ⟨e'.φ,v::us,.refl _ _ _,h'.gM,g1,?_⟩
      cases ms with
      |nil=>
       have g3:some (MV.fresh xs)=some m:=g3
       cases g3
       have:us=[]:=g4
       subst this
       simp only [List.size_toArray,List.length_singleton,dite_true]
       exact K1
      |cons m1 ms=>
       have g3:some (MV.fS (.fresh xs::m1::ms))=some m:=g3
       cases g3
       obtain ⟨u1,N1,rfl,g6,g7⟩:=g4
       rw [dif_neg (by simp)]
       exact ⟨v,u1::N1,rfl,K1,u1,N1,rfl,g6,g7⟩
    |none=>
    obtain ⟨e2,cn,ns,us,q1,q2,q3,q4,hK⟩:=AN (P:=P) hG.ti h' hK
    refine ⟨e2.φ,us,q2.tr,q1.gM,q3,?_⟩
    have BD:e2.key=c.key:=q1.key
    rw [BD] at q4
    split at hK
    ·rename_i m'
     cases hK
     obtain ⟨v,u,rfl,g1,g2⟩:=q4
     have g2:u=[]:=g2
     subst g2
     simp only [List.size_toArray,List.length_singleton,dite_true]
     cases m<;>first|exact g1|exact absurd g1.1 (by simp [MV.one])
    ·rename_i QR b7
     cases hK
     have b7:us.toArray.size≠1:=by
      intro h1
      cases us with
      |nil=>simp at h1
      |cons v us=>
       cases us with
       |cons=>simp at h1
       |nil=>
        cases ns with
        |nil=>cases q4
        |cons m1 PE=>
         obtain ⟨v',u',h2,g1,g2⟩:=q4
         simp at h2
         obtain ⟨rfl,rfl⟩:=h2
         cases PE with
         |nil=>exact b7 m1 rfl
         |cons=>obtain ⟨_,_,h3,_⟩:=g2;simp at h3
     rw [dif_neg b7]
     exact yz.args (by simpa using q4)
   obtain ⟨φ2,us,p1,p2,q3,p4⟩:=MK
   have tF:(results fn a'.tmps).run P w'= .ok (if h:us.toArray.size=1 then us.toArray[0] else .tuple us.toArray) w':=by
    have hm:(fn.results.mapM (eN a'.tmps)).run P w'= .ok us.toArray w':=by
     rw [Array.mapM_eq_mapM_toList]
     simp [q3]
    have Gh:results fn a'.tmps=(do let vs←fn.results.mapM (eN a'.tmps);pure (if h:vs.size=1 then vs[0] else .tuple vs)):=by
     unfold results
     congr 1
    rw [Gh]
    simp [hm]
   have GA: ∃φ',Trans Z φ w φ' w'∧r5 φ' w'∧iW c Z φ' w' (c.key f) (if h:us.toArray.size=1 then us.toArray[0] else .tuple us.toArray) m:=⟨φ2,t'.trans p1,p2,p4⟩
   match n,hle with
   |0,_=>exact ⟨h'.defers.1,_,tF,_,rfl,GA.imp fun φ' h=>⟨h.1,h.2.1,.plain h.2.2⟩⟩
   |1,_=>exact ⟨h'.defers.1,_,tF,_,rfl,GA.imp fun φ' h=>⟨h.1,h.2.1,.plain h.2.2⟩⟩
   |n+2,hle=>simp [Nat.ble] at hle
theorem Ft {f:FuncId} {fn:Func} {bk:List (List Kd)} {ms:List MV} {m:MV} (hG:Good P c) (hD:Di P c) (hf:P.funcs[f]? =some fn) (xh:(fn.name== "runtime.NumGoroutine")=false)
 (hn:c.n=fn.ntmps) (jZ:fn.params.size+bk.length≤fn.ntmps) (hg:c.cy (c.key f)=false) {fresh:Option Nat} (tx: ∀ty,fresh=some ty→ty=c.hO (c.key f)∧1≤fn.results.toList.length∧ ∃I,c.tv ty=some I) (hb:uc c bk fresh fn ms=some m):gj P c f ms m:=
 Dj (fun b {r Z e st a w K Q} h hK hQ=>Fs hG hD b h hK hQ) hG hf xh hn jZ hg tx hb
end
end Dn
/-
  What arguments read as: values of their types. Conditions: none.
-/
set_option linter.unusedSimpArgs false
set_option linter.unusedVariables false
namespace Dn
open Go Go.WideShapes
def qi (W:World):Ph:=fun b o=>W.cell? ⟨b,o,none⟩
theorem Dm (W:World):r5 (qi W) W:=fun b o v h=>h
def vL (P:Program):List Field→Nat→Nat→Bool
 |[],o,n=>Nat.beq o n
 |f::fs,o,n=>Nat.beq f.offset o&&vL P fs (o+P.cellsOf f.type) n
def GB (P:Program):Nat→TypeId→Bool
 |0,_=>false
 |d+1,t=>match P.underlying t with
  |some .bool=>true
  |some (.int _)=>true
  |some .string=>true
  |some (.slice e)=>GB P d e&&Nat.ble 1 (P.cellsOf e)
  |some (.struct fs)=>vL P fs.toList 0 (P.cellsOf t)&&fs.toList.all fun f=>GB P d f.type
  |some (.array n e)=>Nat.beq n 32&&(match P.underlying e with|some (.int .u8)=>true|_=>false)&&Nat.beq (P.cellsOf e) 1&&Nat.beq (P.cellsOf t) 32
  |_=>false
def ME (P:Program) (F:TypeId→List MV→Prop) (e:TypeId) (x:MV):Prop:=
 match P.underlying e with
 |some (.struct _)=> ∃cs,x= .agg cs∧F e cs
 |_=>F e [x]
def FT (F:TypeId→List MV→Prop):List TypeId→List MV→Prop
 |[],ms=>ms=[]
 |t::ts,ms=> ∃a b,ms=a++b∧F t a∧FT F ts b
def MT (P:Program):Nat→TypeId→List MV→Prop
 |0,_,_=>False
 |d+1,t,ms=>match P.underlying t with
  |some .bool=> ∃b,ms=[.b b]
  |some (.int k)=> ∃n,ms=[.i k n]∧(Lit.int k n).wf=true
  |some .string=> ∃l:List UInt8,ms=[.s l]∧l.length≤maxLen
  |some (.slice e)=> ∃xs,ms=[.list xs]∧xs.length≤maxLen∧ ∀x∈xs,ME P (MT P d) e x
  |some (.struct fs)=>FT (MT P d) (fs.toList.map (·.type)) ms
  |some (.array _ _)=> ∃h,ms=[.h h]
  |_=>False
section
variable {H:Type} {enc:TypeId×Value→H} {P:Program} {W:World} {base:Nat} {sp:Nat→Bool} {held:Bool} {key:Nat→Nat}
theorem c7.append {key:Nat→Nat} {φ:Ph} {ms ns:List MV}: ∀{vs us:List Value},c7 key φ vs ms→c7 key φ us ns→c7 key φ (vs++us) (ms++ns):=by
 induction ms with
 |nil=>intro vs us h h';cases h;simpa using h'
 |cons m ms ih=>
  intro vs us h h'
  cases h with
  |cons v _ vs _ h1 h2=>rw [List.append_assoc];exact .cons v m _ _ h1 (ih h2 h')
theorem c7.Dp {key:Nat→Nat} {φ:Ph} {v:Value} {m:MV} (h:eJ key φ [v] m):c7 key φ [v] [m]:=by
 have:=c7.cons [v] m [] [] h .nil
 simpa using this
theorem c7.single {key:Nat→Nat} {φ:Ph} {vs:List Value} {m:MV} (h:c7 key φ vs [m]):eJ key φ vs m:=by
 cases h with
 |cons v _ vs _ h1 h2=>cases h2;simpa using h1
theorem qj {a:Addr} {n:Nat} {cs:List Value} (h:W.cells? base a n=some cs):cs.length=n∧ ∀j,j<n→W.cell? (a.add j)=cs[j]? :=by
 unfold World.cells? at h
 split at h
 ·have hl:=mapM_some_length h
  refine ⟨by simpa using hl,fun j hj=> ?_⟩
  exact mapM_some_get h j j (by simp [hj])
 ·cases h
theorem xi {F:TypeId→List MV→Prop} {fuel:Nat} {cs:List Value}: ∀(fs:List Field) (o n:Nat) (xs:List (DataW H×List MemPlace)),vL P fs o n=true→cs.length=n→
 (∀(i:Nat) (f:Field),fs[i]? =some f→DataW.trod enc P W base sp held fuel f.type ((cs.drop f.offset).take (P.cellsOf f.type))=xs[i]?)→xs.length=fs.length→
 (∀f∈fs,∀cJ x,DataW.trod enc P W base sp held fuel f.type cJ=some x→ ∃ms,c7 key (qi W) cJ ms∧F f.type ms)→
 ∃ms,c7 key (qi W) (cs.drop o) ms∧FT F (fs.map (·.type)) ms:=by
 intro fs
 induction fs with
 |nil=>
  intro o n xs hc hl _ _ _
  have:o=n:=Nat.eq_of_beq_eq_true hc
  subst this
  refine ⟨[],?_,rfl⟩
  rw [←hl,List.drop_length];exact .nil
 |cons f fs ih=>
  intro o n xs hc hl hx Hy hF
  simp only [vL,Bool.and_eq_true] at hc
  have ho:=Nat.eq_of_beq_eq_true hc.1
  cases xs with
  |nil=>simp at Hy
  |cons x xs=>
   have h0:=hx 0 f rfl
   rw [ho] at h0
   obtain ⟨m1,r1,t1⟩:=hF f (by simp) _ x (by simpa using h0)
   obtain ⟨m2,r2,t2⟩:=ih (o+P.cellsOf f.type) n xs hc.2 hl (fun i g hg=>by have:=hx (i+1) g (by simpa using hg);simpa using this) (by simpa using Hy) (fun g hg=>hF g (by simp [hg]))
   refine ⟨m1++m2,?_,m1,m2,rfl,t1,t2⟩
   have:=r1.append r2
   rw [←List.drop_drop,List.take_append_drop] at this
   exact this
theorem Dq: ∀(fuel D:Nat) (t:TypeId) (cs:List Value) (x:DataW H×List MemPlace),GB P D t=true→DataW.trod enc P W base sp held fuel t cs=some x→
 ∃ms,c7 key (qi W) cs ms∧MT P fuel t ms:=by
 intro fuel
 induction fuel with
 |zero=>intro D t cs x _ h;simp [DataW.trod] at h
 |succ fuel ih=>
  intro D t cs x hD h
  cases D with
  |zero=>simp [GB] at hD
  |succ D=>
   unfold GB at hD
   cases hu:P.underlying t with
   |none=>simp [hu] at hD
   |some d=>
    cases d<;>simp only [hu] at hD<;>try (cases hD;done)
    case bool=>
     obtain ⟨b,rfl,_⟩:=DataW.trod_bool hu h
     exact ⟨[.b b],.Dp (.b b),by simp only [MT,hu];exact ⟨b,rfl⟩⟩
    case int k=>
     obtain ⟨n,rfl,_,hw⟩:=DataW.trod_int hu h
     exact ⟨[.i k n],.Dp (.i k n),by simp only [MT,hu];exact ⟨n,rfl,hw⟩⟩
    case string=>
     obtain ⟨s,rfl,_,hw⟩:=DataW.trod_string hu h
     exact ⟨[.s s.data.toList],.Dp (.s s),by simp only [MT,hu];exact ⟨_,rfl,by simpa using hw⟩⟩
    case struct fs=>
     obtain ⟨xs,n,hn,_,hl,Hy,hx⟩:=DataW.trod_struct hu h
     have hn:n=fuel:=by omega
     subst hn
     simp only [Bool.and_eq_true] at hD
     obtain ⟨ms,r1,t1⟩:=xi (F:=MT P n) (key:=key) fs.toList 0 (P.cellsOf t) xs hD.1 hl (fun i f hf=>hx i f (by simpa using hf)) (by simpa using Hy)
      (fun f hf cJ x' h'=>ih D f.type cJ x' (List.all_eq_true.1 hD.2 f hf) h')
     exact ⟨ms,by simpa using r1,by simp only [MT,hu];exact t1⟩
    case slice e=>
     simp only [Bool.and_eq_true] at hD
     have ek:1≤P.cellsOf e:=Nat.le_of_ble_eq_true hD.2
     rcases DataW.trod_slice hu h with ⟨rfl,_⟩|⟨a,len,cap,elems,rest,n,hn,rfl,_,_,PF,Bv,ID,hx,_⟩
     ·refine ⟨[.list []],.Dp (.list none 0 [] 0 0 0 (fun _=>[]) (by simp) (by simp) (by simp) (by simp) (by simp)),?_⟩
      simp only [MT,hu]
      exact ⟨[],rfl,Nat.zero_le _,by simp⟩
     ·have hn:n=fuel:=by omega
      subst hn
      have ej: ∀i,i<len→ ∃cJ m,W.cells? base (a.add (i *P.cellsOf e)) (P.cellsOf e)=some cJ∧eJ key (qi W) cJ m∧ME P (MT P n) e m:=by
       intro i hi
       have h1:=hx i hi
       cases hc:W.cells? base (a.add (i *P.cellsOf e)) (P.cellsOf e) with
       |none=>
        rw [hc] at h1
        have:elems[i]? =none:=by simpa using h1.symm
        rw [List.getElem?_eq_none_iff] at this
        omega
       |some cJ=>
        rw [hc] at h1
        have dJ:i<elems.length:=by omega
        rw [List.getElem?_eq_getElem dJ] at h1
        obtain ⟨ms,r1,t1⟩:=ih D e cJ _ hD.1 (by simpa using h1)
        have HE:=hD.1
        by_cases hs: ∃fs,P.underlying e=some (.struct fs)
        ·obtain ⟨fs,hs⟩:=hs
         exact ⟨cJ,.agg ms,rfl,.agg cJ ms r1,by simp only [ME,hs];exact ⟨ms,rfl,t1⟩⟩
        ·have PG: ∃m,ms=[m]:=by
          cases n with
          |zero=>exact t1.elim
          |succ n=>
           simp only [MT] at t1
           cases Gm:P.underlying e with
           |none=>simp [Gm] at t1
           |some de=>
            cases de<;>simp only [Gm] at t1<;>first
             |exact t1.elim
             |(obtain ⟨y,hy,_⟩:=t1;exact ⟨_,hy⟩)
             |(obtain ⟨y,hy⟩:=t1;exact ⟨_,hy⟩)
             |exact absurd ⟨_,Gm⟩ hs
         obtain ⟨m,rfl⟩:=PG
         refine ⟨cJ,m,rfl,r1.single,?_⟩
         unfold ME
         cases Gm:P.underlying e with
         |none=>exact t1
         |some de=>cases de<;>first|exact t1|exact absurd ⟨_,Gm⟩ hs
      let f:Nat→List Value:=fun i=>(W.cells? base (a.add (i *P.cellsOf e)) (P.cellsOf e)).getD []
      let g:Nat→MV:=fun i=>if hi:i<len then Classical.choose (Classical.choose_spec (ej i hi)) else default
      have wk: ∀i,i<len→W.cells? base (a.add (i *P.cellsOf e)) (P.cellsOf e)=some (f i)∧eJ key (qi W) (f i) (g i)∧ME P (MT P n) e (g i):=by
       intro i hi
       have Fu:=Classical.choose_spec (Classical.choose_spec (ej i hi))
       have hf:f i=Classical.choose (ej i hi):=by
        show (W.cells? base (a.add (i *P.cellsOf e)) (P.cellsOf e)).getD []=_
        exact congrArg (fun o=>o.getD []) Fu.1
       have hg:g i=Classical.choose (Classical.choose_spec (ej i hi)):=by
        show (if hi:i<len then _ else _)=_
        rw [dif_pos hi]
       rw [hf,hg];exact Fu
      have GC:0<len→a=⟨a.block,a.off,none⟩:=by
       intro h0
       obtain ⟨h1,_,_⟩:=wk 0 h0
       obtain ⟨km,ML⟩:=qj h1
       have:=ML 0 (by omega)
       rw [Nat.zero_mul] at this
       have hz:(a.add 0).add 0=a:=rfl
       rw [hz] at this
       have dJ:0<(f 0).length:=by omega
       rw [List.getElem?_eq_getElem dJ] at this
       unfold World.cell? at this
       split at this
       ·cases Fu:a.spot with
        |none=>cases a;simp at Fu;subst Fu;rfl
        |some s=>simp [Fu] at this
       ·cases this
      have Kh: ∀i j,i<len→j<P.cellsOf e→qi W a.block (a.off+i *P.cellsOf e+j)=(f i)[j]? :=by
       intro i j hi hj
       obtain ⟨h1,_,_⟩:=wk i hi
       obtain ⟨km,ML⟩:=qj h1
       have:=ML j hj
       rw [←this]
       unfold qi
       congr 1
       have ha:=GC (by omega)
       rw [ha]
       rw [Addr.add_mid,Addr.add_mid]
      refine ⟨[.list ((List.range len).map g)],.Dp ?_,?_⟩
      ·have hlen:((List.range len).map g).length=len:=by simp
       have:=eJ.list (key:=key) (φ:=qi W) (some a) cap ((List.range len).map g) a.block a.off (P.cellsOf e) f (by rw [hlen];exact PF) (fun h0=>by rw [hlen] at h0;exact congrArg some (GC h0))
        (fun i hi=>by rw [hlen] at hi;exact (qj (wk i hi).1).1) (fun i j hi hj=>Kh i j (by rw [hlen] at hi;exact hi) hj)
        (fun i hi=>by simp at hi;simpa using (wk i hi).2.1)
       rw [hlen] at this
       exact this
      ·simp only [MT,hu]
       refine ⟨_,rfl,by simp;omega,fun y hy=> ?_⟩
       obtain ⟨i,hi,rfl⟩:=List.mem_map.1 hy
       exact (wk i (by simpa using hi)).2.2
    case array n e=>
     simp only [Bool.and_eq_true] at hD
     obtain ⟨⟨⟨h1,h2⟩,h3⟩,h4⟩:=hD
     have h1:=Nat.eq_of_beq_eq_true h1
     have h3:=Nat.eq_of_beq_eq_true h3
     have h4:=Nat.eq_of_beq_eq_true h4
     subst h1
     obtain ⟨xs,m,hm,_,hl,Hy,hx⟩:=DataW.trod_array hu h
     rw [h4] at hl
     split at h2
     ·rename_i Gm
      have ml: ∀i (hi:i<cs.length),∃b:UInt8,cs[i]= .int .u8 (b.toNat:Int):=by
       intro i hi
       have yk:i<32:=by omega
       have:=hx i yk
       rw [h3,Nat.mul_one] at this
       have ES:(cs.drop i).take 1=[cs[i]]:=by
        rw [List.take_one,List.head?_drop,List.getElem?_eq_getElem hi];rfl
       rw [ES,List.getElem?_eq_getElem (by omega)] at this
       obtain ⟨k,hk,_,hw⟩:=DataW.trod_int Gm this
       simp only [List.cons.injEq,and_true] at hk
       refine ⟨UInt8.ofNat k.toNat,?_⟩
       rw [hk]
       simp only [Lit.wf,Bool.and_eq_true,decide_eq_true_eq] at hw
       have Cr:IntKind.u8.min=0:=by decide
       have MM:IntKind.u8.max=255:=by decide
       rw [Cr,MM] at hw
       congr 1
       have:(UInt8.ofNat k.toNat).toNat=k.toNat:=by
        rw [UInt8.toNat_ofNat'];omega
       rw [this];omega
      have: ∃l:List UInt8,cs=l.map fun b=>Value.int .u8 (b.toNat:Int):=by
       clear hx hl h
       induction cs with
       |nil=>exact ⟨[],rfl⟩
       |cons c cs PH=>
        obtain ⟨b,hb⟩:=ml 0 (by simp)
        obtain ⟨l,hl⟩:=PH (fun i hi=>by have:=ml (i+1) (by simpa using hi);simpa using this)
        exact ⟨b::l,by simp at hb;rw [hb,hl];rfl⟩
      obtain ⟨l,rfl⟩:=this
      have HS:l.length=32:=by simpa using hl
      refine ⟨[.h ⟨l,HS⟩],?_,by simp only [MT,hu];exact ⟨_,rfl⟩⟩
      have:=c7.cons (key:=key) (φ:=qi W) _ (.h ⟨l,HS⟩) [] [] (.h ⟨l,HS⟩) .nil
      simpa using this
     ·cases h2
theorem Dr {r:Reach} {b0 D:Nat} {t:TypeId} {v:Value} {d:DataW H} {ps:List MemPlace} (hD:GB P D t=true) (hv:Value.okWide P W r b0 t v) (h:DataW.Trod enc P W base sp held t v d ps):
 ∃m n,dt key (qi W) v m∧ME P (MT P n) t m:=by
 obtain ⟨fuel,hf⟩:=h
 obtain ⟨ms,r1,t1⟩:=Dq (key:=key) fuel D t _ _ hD hf
 cases fuel with
 |zero=>exact t1.elim
 |succ fuel=>
  have t2:=t1
  simp only [MT] at t1
  cases hu:P.underlying t with
  |none=>simp [hu] at t1
  |some k=>
   simp only [hu] at t1
   cases k<;>simp only at t1<;>try (exact t1.elim)
   case bool=>
    obtain ⟨b,rfl⟩:=t1
    obtain ⟨b',rfl⟩:=okWide_bool hu hv
    refine ⟨.b b,fuel+1,⟨rfl,r1.single⟩,by unfold ME;simp only [hu];exact t2⟩
   case int k=>
    obtain ⟨n,rfl,_⟩:=t1
    obtain ⟨n',rfl⟩:=okWide_int hu hv
    refine ⟨.i k n,fuel+1,⟨rfl,r1.single⟩,by unfold ME;simp only [hu];exact t2⟩
   case string=>
    obtain ⟨l,rfl,_⟩:=t1
    obtain ⟨s',rfl⟩:=okWide_string hu hv
    refine ⟨.s l,fuel+1,⟨rfl,r1.single⟩,by unfold ME;simp only [hu];exact t2⟩
   case slice e=>
    obtain ⟨xs,rfl,_⟩:=t1
    have PI:v.cells.toList=[v]:=by
     simp only [Value.okWide,hu,Cell.okWide] at hv
     cases v<;>simp_all [Cell.ok,Value.cells]
    rw [PI] at r1
    refine ⟨.list xs,fuel+1,⟨rfl,r1.single⟩,by unfold ME;simp only [hu];exact t2⟩
   case struct fs=>
    obtain ⟨arr,rfl,_⟩:=okWide_struct hu hv
    refine ⟨.agg ms,fuel+1,⟨arr,rfl,by simpa [Value.cells] using r1⟩,by unfold ME;simp only [hu];exact ⟨ms,rfl,t2⟩⟩
   case array n e=>
    obtain ⟨h,rfl⟩:=t1
    have: ∃arr,v= .agg arr:=by
     simp only [Value.okWide,hu] at hv
     obtain ⟨arr,rfl,_⟩:=hv
     exact ⟨arr,rfl⟩
    obtain ⟨arr,rfl⟩:=this
    refine ⟨.h h,fuel+1,?_,by unfold ME;simp only [hu];exact t2⟩
    have hr:=r1.single
    simp only [Value.cells] at hr
    generalize oW:arr.toList=vs at hr
    cases hr
    show Value.agg arr= .agg _
    rw [←oW]
end
end Dn
/-
  A law of plain data, out of its function's contract. Conditions: none.
-/
set_option linter.unusedSimpArgs false
set_option linter.unusedVariables false
namespace Dn
open Go Go.WideShapes Go.ChangeShapes Go.RowKit
section
variable {H:Type} {enc:TypeId×Value→H} {P:Program} {W W':World} {c:Ctx}
theorem oh (hl:laidOutB P=true) (hb:Below W.heap.size W W'): ∀{ts:List TypeId} {vs:List Value} {ds:List (DataW H)} {ps:List MemPlace},(∀t∈ts,P.readableRec t=true∧t<P.types.size)→
 DataW.TrodAll enc P W 0 (fun _=>true) true ts vs ds ps→(∀x∈ps,x.block<W.heap.size)→DataW.TrodAll enc P W' 0 (fun b=>decide (b<W.heap.size)) true ts vs ds ps
 |[],[],[],_,_,h,_=>h
 |t::ts,v::vs,d::ds,_,ht,⟨p,q,h1,h2,e⟩,hs=>
  ⟨p,q,Below.trod hl (ht t (by simp)).1 (ht t (by simp)).2 h1 hb (fun x hx=>hs x (by rw [e];exact List.mem_append_left _ hx)),
   oh hl hb (fun u hu=>ht u (by simp [hu])) h2 (fun x hx=>hs x (by rw [e];exact List.mem_append_right _ hx)),e⟩
def pC (P:Program):List TypeId→List MV→Prop
 |[],ms=>ms=[]
 |t::ts,ms=> ∃m r,ms=m::r∧(∃n,ME P (MT P n) t m)∧pC P ts r
theorem uB {base:Nat} {sp:Nat→Bool} {held:Bool} {key:Nat→Nat} {r:Reach} {b0:Nat}: ∀{ts:List TypeId} {vs:List Value} {ds:List (DataW H)} {ps:List MemPlace},(∀t∈ts,∃D,GB P D t=true)→
 (∀(j:Nat) t v,ts[j]? =some t→vs[j]? =some v→Value.okWide P W r b0 t v)→DataW.TrodAll enc P W base sp held ts vs ds ps→ ∃ms,aK key (qi W) vs ms∧pC P ts ms∧ds.length=ts.length
 |[],[],[],_,_,_,_=>⟨[],rfl,rfl,rfl⟩
 |t::ts,v::vs,d::ds,_,ht,hv,⟨p,q,h1,h2,e⟩=>by
  obtain ⟨D,hD⟩:=ht t (by simp)
  obtain ⟨m,n,r1,t1⟩:=Dr (key:=key) hD (hv 0 t v rfl rfl) h1
  obtain ⟨ms,r2,t2,hl⟩:=uB (key:=key) (fun u hu=>ht u (by simp [hu])) (fun j u x hu hx=>hv (j+1) u x (by simpa using hu) (by simpa using hx)) h2
  exact ⟨m::ms,⟨v,vs,rfl,r1,r2⟩,⟨m,ms,rfl,⟨n,t1⟩,t2⟩,by simp [hl]⟩
theorem AP {fn:Func} {f:FuncId} {s:ChangeSpec} {args:Array Value} {ds gs:List (DataW H)} {before:List MemPlace} {tb:TypeId} {base:Nat} (hf:P.funcs[f]? =some fn) (sD:fn.body.isSome=true) (xh:(fn.name== "runtime.NumGoroutine")=false)
 (hl:laidOutB P=true) (Ki: ∀t∈fn.params.toList,(∃D,GB P D t=true)∧P.readableRec t=true∧t<P.types.size) (tF:fn.resultTypes= #[tb]) (C3:P.underlying tb=some .bool) (hv:s.vars=[])
 (IL: ∀ds:List (DataW H),ds.length=fn.params.toList.length→s.fn H ds={results:=[.lit (.bool true)],args:=ds})
 (vB: ∀(j:Nat) t v,fn.params[j]? =some t→args[j]? =some v→Value.okWide P W .any base t v)
 (hW:DataW.Whole enc P fn.params.toList s.vars false W args.toList ds gs before) (hg:c.cy (c.key f)=false)
 (mn: ∀ms,pC P fn.params.toList ms→gj P c f ms (.b true)):
 Calls P f args W fun e W'=> ∃v,e= .returned v∧s.post enc P fn false true false false W args v W':=by
 have N2:=hW
 obtain ⟨p,q,hA,hV,rfl,II,KW⟩:=hW
 rw [hv] at hV
 obtain ⟨rfl,rfl⟩:=trodVars_none hV
 have dJ: ∀x∈p,x.block<W.heap.size:=fun x hx=>by simpa using N2.lt x (by simp [hx])
 obtain ⟨ms,r1,t1,AQ⟩:=uB (key:=c.key) (fun t ht=>(Ki t ht).1) (fun j t v h1 h2=>vB j t v (by simpa using h1) (by simpa using h2)) hA
 have hc:=mn ms t1 (qi W) W (fun b=>W.heap.size≤b) args.toList (fun b hb=>hb) (by simp only [cS,hg,Bool.false_eq_true,if_false];exact r1) (Dm W)
 have aX:(callFunc f args).run P W= .ok (.enter f args) W:=by
  have Af: ¬fn.name= "runtime.NumGoroutine" :=by simpa using xh
  cases hb:fn.body with
  |none=>rw [hb] at sD;cases sD
  |some b=>simp [callFunc,hf,Af,hb]
 unfold en at hc
 rw [Array.toArray_toList,aX] at hc
 refine hc.mono ?_
 rintro x W' ⟨v,rfl,φ',ht,pg,hr⟩
 have L1:v= .bool true:=by
  obtain ⟨_,hr⟩:=hr
  generalize oW:[v]=vs at hr
  cases hr;simpa using oW
 subst L1
 have Ds:Below W.heap.size W W':=⟨ht.rest.1,ht.rest.2.1,ht.rest.2.2.1,ht.size,fun k hk=>ht.heap k (by omega) hk⟩
 have HT:=IL (ds++[]) (by simpa using AQ)
 refine ⟨_,rfl,ds,[],_,[],p,[],N2,?_,?_,?_,Ds.frame _,fun h=>by cases h⟩
 ·rw [HT,tF]
  exact trodAll_mk1 (shut_bool C3 _)
 ·rw [HT]
  simpa using oh hl Ds (fun t ht=>(Ki t ht).2) hA dJ
 ·rw [HT,hv];rfl
end
end Dn
/-
  A program's type table, looked through. Conditions: none.
-/
set_option linter.unusedSimpArgs false
set_option linter.unusedVariables false
set_option linter.constructorNameAsVariable false
namespace Dn
open Go
theorem Dt {a b:Kd} (h:F9 a b=true):a=b:=by
 cases a<;>cases b<;>simp [F9,kB] at h<;>first|rfl|(subst h;rfl)
def eO:List Kd→Kd→Bool
 |[k],k'=>F9 k k'
 |_,_=>false
theorem bX {l:List Kd} {k:Kd} (h:eO l k=true):l=[k]:=by
 cases l with
 |nil=>simp [eO] at h
 |cons a l=>cases l with
  |nil=>simp only [eO] at h;rw [Dt h]
  |cons=>simp [eO] at h
def qN:List Nat→List Nat→Bool
 |[],[]=>true
 |a::l,b::m=>Nat.beq a b&&qN l m
 |_,_=>false
theorem sE {l m:List Nat} (h:qN l m=true):l=m:=by
 induction l generalizing m with
 |nil=>cases m<;>simp [qN] at h;rfl
 |cons a l ih=>
  cases m with
  |nil=>simp [qN] at h
  |cons b m=>
   simp only [qN,Bool.and_eq_true] at h
   rw [Nat.eq_of_beq_eq_true h.1,ih h.2]
def l6 {α:Type}:List α→Bool
 |[]=>true
 |_=>false
theorem iu {α:Type} {l:List α} (h:l6 l=true):l=[]:=by cases l<;>simp [l6] at h;rfl
def vM (ti:Nat→Option TI) (t:Nat):Bool:=match ti t with|some J=>l6 J.a7&&Nat.ble 1 J.size|none=>false
theorem uC {ti:Nat→Option TI} {t:Nat} (h:vM ti t=true): ∃J,ti t=some J∧J.a7=[]∧0<J.size:=by
 unfold vM at h
 cases hJ:ti t with
 |none=>simp [hJ] at h
 |some J=>
  simp only [hJ,Bool.and_eq_true] at h
  exact ⟨J,rfl,iu h.1,Nat.le_of_ble_eq_true h.2⟩
def sF:List Value→Nat→Bool
 |[],n=>Nat.beq n 0
 | .int .u8 k::r,n+1=>decide (k=0)&&sF r n
 |_,_=>false
theorem xj {l:List Value} {n:Nat} (h:sF l n=true):l=List.replicate n (.int .u8 0):=by
 induction l generalizing n with
 |nil=>have:=Nat.eq_of_beq_eq_true h;subst this;rfl
 |cons v l ih=>
  cases n with
  |zero=>cases v<;>simp [sF] at h
  |succ n=>
   unfold sF at h
   split at h
   ·rename_i h1;simp at h1
   ·rename_i k _ _ h1 h2
    simp only [List.cons.injEq] at h1
    obtain ⟨rfl,rfl⟩:=h1
    cases h2
    simp only [Bool.and_eq_true,decide_eq_true_eq] at h
    rw [h.1,ih h.2];rfl
   ·cases h
def qk:List ah→ah→Bool
 |[.nil],.nil=>true
 |[.p (.b false)],.p (.b false)=>true
 |[.p (.i k n)],.p (.i k' m)=>kB k k'&&decide (n=m)
 |[.p (.s [])],.p (.s [])=>true
 |_,_=>false
theorem nJ {l:List ah} {x:ah} (h:qk l x=true):l=[x]:=by
 unfold qk at h
 split at h<;>first|rfl|skip
 ·simp [kB] at h;rw [h.1,h.2]
 ·cases h
def Du:List ah→Bool
 |[.hs x]=>decide (x=dW.zero)
 |_=>false
theorem Dv {l:List ah} (h:Du l=true):l=[.hs dW.zero]:=by
 unfold Du at h
 split at h
 ·rw [of_decide_eq_true h]
 ·cases h
def Dw (ti:Nat→Option TI) (P:Program) (I:TI) (z:Option Value):TypeDesc→Bool
 | .struct fs=>I.st&&l6 I.a7&&Nat.ble 1 I.size&&Nat.beq (rb I.lay) I.size&&qN (fs.toList.map (·.offset)) I.wm&&qN (fs.toList.map (·.type)) I.zX&&
  (fs.toList.all fun f=>vM ti f.type)&&(match z with|some (.agg cs)=>kj I.zero cs.toList&&Nat.beq cs.size I.size|_=>false)
 | .tuple ts=>qN I.a7 ts.toList&&!l6 I.a7&&l6 I.lay&&!I.st
 | .slice el=>!I.st&&l6 I.a7&&Nat.beq I.size 1&&Nat.beq I.elem el&&vM ti el&&(match z with|some (.slice none 0 0)=>true|_=>false)&&qk I.zero .nil&&eO I.lay .l
 | .array n el=>!I.st&&l6 I.a7&&Nat.beq I.size 32&&Nat.beq n 32&&Nat.beq I.elem el&&(match P.underlying el with|some (.int .u8)=>true|_=>false)&&(match P.info? el with|some i=>Nat.beq i.size 1|none=>false)&&
  eO I.lay .h&&Du I.zero&&(match z with|some (.agg cs)=>sF cs.toList 32|_=>false)
 | .bool=>!I.st&&l6 I.a7&&Nat.beq I.size 1&&eO I.lay .b&&qk I.zero (.p (.b false))&&(match z with|some (.bool false)=>true|_=>false)
 | .int k=>!I.st&&l6 I.a7&&Nat.beq I.size 1&&eO I.lay (.i k)&&qk I.zero (.p (.i k 0))&&(match z with|some (.int k' n)=>kB k' k&&decide (n=0)|_=>false)
 | .string=>!I.st&&l6 I.a7&&Nat.beq I.size 1&&eO I.lay .s&&qk I.zero (.p (.s []))&&(match z with|some (.string b)=>l6 b.data.toList|_=>false)
 |_=>!I.st&&l6 I.a7&&Nat.beq I.size 1&&eO I.lay .raw&&(match z with|some v=>v.oneCell'&&kj I.zero [v]|none=>false)
theorem Dx {ti:Nat→Option TI} {P:Program} {I:TI} {z:Option Value} {d:TypeDesc} (h:Dw ti P I z d=true):jD ti P I z d:=by
 cases d<;>simp only [Dw,Bool.and_eq_true,Bool.not_eq_true'] at h<;>simp only [jD]
 case struct fs=>
  obtain ⟨⟨⟨⟨⟨⟨⟨h1,h2⟩,h3⟩,h4⟩,h5⟩,h6⟩,h7⟩,h8⟩:=h
  refine ⟨h1,iu h2,⟨Nat.le_of_ble_eq_true h3,Nat.eq_of_beq_eq_true h4⟩,sE h5,sE h6,fun k f hk=> ?_,?_⟩
  ·exact uC (List.all_eq_true.1 h7 f (by
    have:fs.toList[k]? =some f:=by simpa using hk
    exact List.mem_of_getElem? this))
  ·split at h8
   ·rename_i cs
    simp only [Bool.and_eq_true] at h8
    exact ⟨cs,rfl,h8.1,Nat.eq_of_beq_eq_true h8.2⟩
   ·cases h8
 case tuple ts=>
  obtain ⟨⟨⟨h1,h2⟩,h3⟩,h4⟩:=h
  exact ⟨sE h1,fun he=>(by rw [he] at h2;simp [l6] at h2),iu h3,h4⟩
 case slice el=>
  obtain ⟨⟨⟨⟨⟨⟨⟨h1,h2⟩,h3⟩,h4⟩,h5⟩,h6⟩,h7⟩,h8⟩:=h
  refine ⟨h1,iu h2,Nat.eq_of_beq_eq_true h3,Nat.eq_of_beq_eq_true h4,uC h5,?_,nJ h7,.l,bX h8,rfl⟩
  split at h6
  ·rfl
  ·cases h6
 case array n el=>
  obtain ⟨⟨⟨⟨⟨⟨⟨⟨⟨h1,h2⟩,h3⟩,h4⟩,h5⟩,h6⟩,h7⟩,h8⟩,h9⟩,HU⟩:=h
  refine ⟨h1,iu h2,Nat.eq_of_beq_eq_true h3,Nat.eq_of_beq_eq_true h4,Nat.eq_of_beq_eq_true h5,?_,bX h8,Dv h9,?_⟩
  ·split at h6
   ·rename_i hu
    split at h7
    ·rename_i i hi;exact ⟨i,hu,hi,Nat.eq_of_beq_eq_true h7⟩
    ·cases h7
   ·cases h6
  ·split at HU
   ·rename_i cs
    have:=xj HU
    congr 1
    congr 1
    apply Array.toList_inj.1
    rw [this];rfl
   ·cases HU
 case bool=>
  obtain ⟨⟨⟨⟨⟨h1,h2⟩,h3⟩,h4⟩,h5⟩,h6⟩:=h
  refine ⟨h1,iu h2,Nat.eq_of_beq_eq_true h3,bX h4,nJ h5,?_⟩
  split at h6
  ·rfl
  ·cases h6
 case int k=>
  obtain ⟨⟨⟨⟨⟨h1,h2⟩,h3⟩,h4⟩,h5⟩,h6⟩:=h
  refine ⟨h1,iu h2,Nat.eq_of_beq_eq_true h3,bX h4,nJ h5,?_⟩
  split at h6
  ·simp only [kB,Bool.and_eq_true,decide_eq_true_eq] at h6
   rw [h6.1,h6.2]
  ·cases h6
 case string=>
  obtain ⟨⟨⟨⟨⟨h1,h2⟩,h3⟩,h4⟩,h5⟩,h6⟩:=h
  refine ⟨h1,iu h2,Nat.eq_of_beq_eq_true h3,bX h4,nJ h5,?_⟩
  split at h6
  ·rename_i b;exact ⟨b,rfl,iu h6⟩
  ·cases h6
 all_goals
  obtain ⟨⟨⟨⟨h1,h2⟩,h3⟩,h4⟩,h5⟩:=h
  refine ⟨h1,iu h2,Nat.eq_of_beq_eq_true h3,bX h4,?_⟩
  split at h5
  ·rename_i v
   simp only [Bool.and_eq_true] at h5
   exact ⟨v,rfl,h5.1,h5.2⟩
  ·cases h5
def HV (ti:Nat→Option TI) (P:Program) (t:Nat) (I:TI):Bool:=
 match P.underlying t,P.info? t with
 |some d,some i=>(!l6 I.a7||(Nat.beq i.size I.size&&Nat.beq i.bytes I.bytes))&&Dw ti P I i.zero d
 |_,_=>false
theorem Fv {ti:Nat→Option TI} {P:Program} {t:Nat} {I:TI} (h:HV ti P t I=true):gU ti P t I:=by
 unfold HV at h
 split at h
 ·rename_i d i hu hi
  simp only [Bool.and_eq_true,Bool.or_eq_true,Bool.not_eq_true'] at h
  refine ⟨d,i,hu,hi,fun hc=> ?_,Dx h.2⟩
  rcases h.1 with h1|h1
  ·rw [hc] at h1;simp [l6] at h1
  ·exact ⟨Nat.eq_of_beq_eq_true h1.1,Nat.eq_of_beq_eq_true h1.2⟩
 ·cases h
def mw:List (Nat×TI)→Nat→Option TI
 |[],_=>none
 |(k,s)::r,t=>bif Nat.beq k t then some s else mw r t
def MN (P:Program) (Ew:List (Nat×TI)):Bool:=Ew.all fun p=>HV (mw Ew) P p.1 p.2
theorem uD {l:List (Nat×TI)} {t:Nat} {I:TI} (h:mw l t=some I):(t,I)∈l:=by
 induction l with
 |nil=>simp [mw] at h
 |cons p l ih=>
  obtain ⟨k,s⟩:=p
  simp only [mw,cE] at h
  by_cases hk:k=t
  ·subst hk;simp at h;subst h;simp
  ·simp only [hk,decide_false,cond_false] at h
   exact List.mem_cons_of_mem _ (ih h)
theorem Fw {P:Program} {Ew:List (Nat×TI)} (h:MN P Ew=true):fp P (mw Ew):=fun t I hI=>Fv (List.all_eq_true.1 h (t,I) (uD hI))
end Dn
/-
  Comparing values of plain types. Conditions: none.
-/
set_option linter.unusedSimpArgs false
set_option linter.unusedVariables false
set_option linter.constructorNameAsVariable false
namespace Dn
open Go
def Fx:List Kd→List Kd
 |[]=>[]
 | .h::r=>List.replicate 32 (.i .u8)++Fx r
 |k::r=>k::Fx r
def vN:Kd→Value→Bool
 | .b,.bool _=>true
 | .i k,.int k' _=>decide (k'=k)
 | .s,.string _=>true
 |_,_=>false
def dI:List Kd→List Value→Prop
 |[],vs=>vs=[]
 |k::ks,vs=> ∃v r,vs=v::r∧vN k v=true∧dI ks r
def Dy:Value→Value→Bool
 | .bool a,.bool b=>decide (a=b)
 | .int _ a,.int _ b=>decide (a=b)
 | .string a,.string b=>decide (a.data.toList=b.data.toList)
 |_,_=>false
def eo:List Value→List Value→Bool
 |[],[]=>true
 |x::xs,y::ys=>Dy x y&&eo xs ys
 |_,_=>false
theorem kv {xs ys us vs:List Value} (h:xs.length=ys.length):eo (xs++us) (ys++vs)=(eo xs ys&&eo us vs):=by
 induction xs generalizing ys with
 |nil=>cases ys with|nil=>simp [eo]|cons=>simp at h
 |cons x xs ih=>cases ys with|nil=>simp at h|cons y ys=>simp only [List.cons_append,eo,ih (by simpa using h),Bool.and_assoc]
theorem dI.length {ks:List Kd}: ∀{vs:List Value},dI ks vs→vs.length=ks.length:=by
 induction ks with
 |nil=>intro vs h;cases h;rfl
 |cons k ks ih=>intro vs h;obtain ⟨v,r,rfl,_,h2⟩:=h;simp [ih h2]
theorem dI.append {ks js:List Kd}: ∀{vs us:List Value},dI ks vs→dI js us→dI (ks++js) (vs++us):=by
 induction ks with
 |nil=>intro vs us h h';cases h;simpa using h'
 |cons k ks ih=>intro vs us h h';obtain ⟨v,r,rfl,h1,h2⟩:=h;exact ⟨v,r++us,rfl,h1,ih h2 h'⟩
theorem dI.split {ks js:List Kd}: ∀{vs:List Value},dI (ks++js) vs→dI ks (vs.take ks.length)∧dI js (vs.drop ks.length):=by
 induction ks with
 |nil=>intro vs h;exact ⟨by simp [dI],by simpa using h⟩
 |cons k ks ih=>
  intro vs h
  obtain ⟨v,r,rfl,h1,h2⟩:=h
  obtain ⟨h3,h4⟩:=ih h2
  exact ⟨⟨v,_,rfl,h1,h3⟩,by simpa using h4⟩
theorem sG (x:dW):dI (List.replicate 32 (.i .u8)) (aD x):=by
 have: ∀(l:List UInt8),dI (List.replicate l.length (.i .u8)) (l.map fun b=>Value.int .u8 (b.toNat:Int)):=by
  intro l
  induction l with
  |nil=>rfl
  |cons b l ih=>exact ⟨_,_,rfl,by simp [vN],ih⟩
 have h:=this x.l
 rw [x.h] at h
 exact h
theorem uE (x y:dW):eo (aD x) (aD y)=decide (x=y):=by
 have: ∀(l m:List UInt8),l.length=m.length→eo (l.map fun b=>Value.int .u8 (b.toNat:Int)) (m.map fun b=>Value.int .u8 (b.toNat:Int))=decide (l=m):=by
  intro l
  induction l with
  |nil=>intro m h;cases m with|nil=>rfl|cons=>simp at h
  |cons b l ih=>
   intro m h
   cases m with
   |nil=>simp at h
   |cons b' m=>
    simp only [List.map_cons,eo,Dy,ih m (by simpa using h),List.cons.injEq]
    have:((b.toNat:Int)=(b'.toNat:Int))↔b=b':=by
     constructor
     ·intro he;apply UInt8.toNat_inj.1;omega
     ·intro he;rw [he]
    simp [this]
 rw [aD,aD,this x.l y.l (by rw [x.h,y.h])]
 by_cases h:x=y
 ·subst h;simp
 ·have:x.l≠y.l:=fun he=>h (dW.ext' he)
  simp [h,this]
section
variable {e:Env}
theorem uF {lay:List Kd}: ∀{ls:List ah} {vs:List Value},af e vs ls→cm lay ls=true→dI (Fx lay) vs:=by
 induction lay with
 |nil=>
  intro ls vs h hf
  cases ls with
  |nil=>cases h;rfl
  |cons=>simp [cm] at hf
 |cons k lay ih=>
  intro ls vs h hf
  cases ls with
  |nil=>simp [cm] at hf
  |cons l ls=>
   simp only [cm] at hf
   cases h1:fL k l with
   |false=>simp [h1] at hf
   |true=>
    simp only [h1,cond_true] at hf
    obtain ⟨v,u,rfl,g1,g2⟩:=h
    have hr:=ih g2 hf
    have one: ∀m:MV,∀kd:Kd,l= .p m→(∀w:List Value,eJ e.key e.φ w m→ ∃x,w=[x]∧vN kd x=true)→dI (kd::Fx lay) (v++u):=by
     intro m kd hl hm
     subst hl
     obtain ⟨x,rfl,hx⟩:=hm v g1.2
     exact ⟨x,u,rfl,hx,hr⟩
    cases k<;>cases l<;>simp only [fL] at h1<;>try (cases h1;done)
    ·rename_i m
     cases m<;>simp only [fL] at h1<;>try (cases h1;done)
     exact one _ _ rfl (fun w hw=>by cases hw;exact ⟨_,rfl,rfl⟩)
    ·rename_i k m
     cases m<;>simp only [fL] at h1<;>try (cases h1;done)
     exact one _ _ rfl (fun w hw=>by cases hw;exact ⟨_,rfl,h1⟩)
    ·rename_i m
     cases m<;>simp only [fL] at h1<;>try (cases h1;done)
     exact one _ _ rfl (fun w hw=>by cases hw;exact ⟨_,rfl,rfl⟩)
    ·rename_i x
     have g1:v=aD x:=g1
     subst g1
     exact (sG x).append hr
theorem tH {l l':ah} {v v':List Value} {b:Bool} (h:al e v l) (h':al e v' l') (hb:pV l l'=some b):eo v v'=b∧v.length=v'.length:=by
 unfold pV at hb
 split at hb
 ·obtain ⟨_,h⟩:=h;obtain ⟨_,h'⟩:=h'
  cases h;cases h'
  simp at hb;exact ⟨by simp [eo,Dy,←hb],rfl⟩
 ·obtain ⟨_,h⟩:=h;obtain ⟨_,h'⟩:=h'
  cases h;cases h'
  rename_i k x k' y _ _
  cases hk:decide (k=k') with
  |false=>simp [hk] at hb
  |true=>simp [hk] at hb;exact ⟨by simp [eo,Dy,←hb],rfl⟩
 ·obtain ⟨_,h⟩:=h;obtain ⟨_,h'⟩:=h'
  cases h;cases h'
  simp at hb;exact ⟨by simp [eo,Dy,←hb],rfl⟩
 ·rename_i x y
  have h:v=aD x:=h
  have h':v'=aD y:=h'
  subst h;subst h'
  simp at hb
  exact ⟨by rw [uE,←hb],by rw [bo,bo]⟩
 ·cases hb
theorem Dz {ls:List ah}: ∀{mE:List ah} {vs xR:List Value} {b:Bool},af e vs ls→af e xR mE→dG ls mE=some b→eo vs xR=b:=by
 induction ls with
 |nil=>
  intro mE vs xR b h h' hb
  cases mE with
  |nil=>cases h;cases h';simp [dG] at hb;subst hb;rfl
  |cons l' mE=>simp [dG] at hb
 |cons l ls ih=>
  intro mE vs xR b h h' hb
  cases mE with
  |nil=>simp [dG] at hb
  |cons l' mE=>
   obtain ⟨v,u,rfl,h1,h2⟩:=h
   obtain ⟨v',u',rfl,rr,Al⟩:=h'
   have two: ∀x y,pV l l'=some x→dG ls mE=some y→b=(x&&y)→eo (v++u) (v'++u')=b:=by
    intro x y hx hy CR
    obtain ⟨g1,g2⟩:=tH h1 rr hx
    rw [kv g2,g1,ih h2 Al hy,CR]
   cases ls with
   |nil=>
    cases mE with
    |nil=>
     have hb:pV l l'=some b:=hb
     exact two b true hb rfl (by simp)
    |cons p q=>
     simp only [dG] at hb
     split at hb
     ·rename_i x y hx hy;exact two x y hx hy (by simpa using hb.symm)
     ·cases hb
   |cons p q=>
    simp only [dG] at hb
    split at hb
    ·rename_i x y hx hy;exact two x y hx hy (by simpa using hb.symm)
    ·cases hb
end
def kL (F:TypeId→Option (List Kd)) (P:Program):List Field→Nat→Nat→Option (List Kd)
 |[],o,n=>bif Nat.beq o n then some [] else none
 |f::fs,o,n=>match F f.type with
  |some ks=>bif Nat.beq f.offset o&&Nat.beq ks.length (P.cellsOf f.type)&&!(f.name== "_") then (match kL F P fs (o+ks.length) n with|some r=>some (ks++r)|none=>none) else none
  |none=>none
def xl:Nat→List Kd→List Kd
 |0,_=>[]
 |n+1,ks=>ks++xl n ks
def fG (P:Program):Nat→TypeId→Option (List Kd)
 |0,_=>none
 |d+1,t=>match P.underlying t with
  |some .bool=>some [.b]
  |some (.int k)=>some [.i k]
  |some .string=>some [.s]
  |some (.array n e)=>match fG P d e with
   |some ks=>bif Nat.beq ks.length (P.cellsOf e)&&(match P.info? e with|some _=>true|none=>false) then some (xl n ks) else none
   |none=>none
  |some (.struct fs)=>bif P.stoodInHeld t then none else kL (fG P d) P fs.toList 0 (P.cellsOf t)
  |_=>none
def tI:TypeDesc→Bool
 | .struct _=>true
 | .array _ _=>true
 |_=>false
theorem sH {F:TypeId→Option (List Kd)} {P:Program}: ∀(fs:List Field) (o n:Nat) (ks:List Kd),kL F P fs o n=some ks→o+ks.length=n:=by
 intro fs
 induction fs with
 |nil=>
  intro o n ks hk
  simp only [kL] at hk
  cases hb:Nat.beq o n with
  |false=>simp [hb] at hk
  |true=>simp [hb] at hk;subst hk;simpa using Nat.eq_of_beq_eq_true hb
 |cons f fs PJ=>
  intro o n ks hk
  simp only [kL] at hk
  cases hf:F f.type with
  |none=>simp [hf] at hk
  |some js=>
   simp only [hf] at hk
   cases hc:Nat.beq f.offset o&&Nat.beq js.length (P.cellsOf f.type)&&!(f.name== "_") with
   |false=>simp [hc] at hk
   |true=>
    simp only [hc,cond_true] at hk
    cases hr:kL F P fs (o+js.length) n with
    |none=>simp [hr] at hk
    |some rs=>
     simp only [hr,Option.some.injEq] at hk
     subst hk
     have:=PJ _ _ _ hr
     simp only [List.length_append];omega
def j8 (P:Program) (t:TypeId) (v:Value) (cs:List Value):Prop:=
 match P.underlying t with
 |some (.struct _)|some (.array _ _)=>v= .agg cs.toArray
 |_=>cs=[v]
theorem xm (n:Nat) (ks:List Kd):(xl n ks).length=n *ks.length:=by
 induction n with
 |zero=>simp [xl]
 |succ n ih=>simp only [xl,List.length_append,ih,Nat.succ_mul];omega
section
variable {P:Program} {w:World}
theorem nK {t:TypeId} {xs:Array Value} {off:Nat} {n:Nat} {d:TypeDesc} (hu:P.underlying t=some d) (hn:P.cellsOf t=n) (ej:tI d=false→n=1) (hl:off+n≤xs.size):
 ∃v,(Go.part t xs off).run P w= .ok v w∧j8 P t v ((xs.toList.drop off).take n):=by
 obtain ⟨i,hi⟩:=info_of_underlying hu
 have jZ:i.size=n:=by rw [←hn];simp [Program.cellsOf,hi]
 cases hd:tI d with
 |true=>
  refine ⟨.agg (xs.extract off (off+n)),?_,?_⟩
  ·cases d<;>simp [tI] at hd<;>simp [Go.part,isAgg,run_underlying hu,Go.sizeOf,typeInfo,hi,jZ]
  ·have he:(xs.extract off (off+n))=((xs.toList.drop off).take n).toArray:=by
    apply Array.toList_inj.1
    rw [Array.toList_extract];simp [List.extract]
   unfold j8
   cases d<;>simp [tI] at hd<;>simp only [hu]<;>rw [he]
 |false=>
  have wg:=ej hd
  subst wg
  have dJ:off<xs.size:=by omega
  refine ⟨xs[off],?_,?_⟩
  ·cases d<;>simp [tI] at hd<;>simp [Go.part,isAgg,run_underlying hu,dJ]
  ·have he:(xs.toList.drop off).take 1=[xs[off]]:=by
    rw [List.take_one,List.head?_drop];simp [dJ]
   unfold j8
   cases d<;>simp [tI] at hd<;>simp only [hu]<;>exact he
theorem AR {F:TypeId→Option (List Kd)} {dd:Nat} {xs ys:Array Value}: ∀(fs:List Field) (o n:Nat) (ks:List Kd),kL F P fs o n=some ks→xs.size=n→ys.size=n→dI ks (xs.toList.drop o)→dI ks (ys.toList.drop o)→
 (∀f∈fs,∀js,F f.type=some js→(∃d,P.underlying f.type=some d∧(tI d=false→js.length=1))∧
  ∀(x y:Value) (us vs:List Value),j8 P f.type x us→j8 P f.type y vs→dI js us→dI js vs→(Op.equalIn dd f.type x y).run P w= .ok (eo us vs) w)→
 (Op.eqFields dd xs ys fs).run P w= .ok (eo (xs.toList.drop o) (ys.toList.drop o)) w:=by
 intro fs
 induction fs with
 |nil=>
  intro o n ks hk hx hy _ _ _
  simp only [kL] at hk
  cases hb:Nat.beq o n with
  |false=>simp [hb] at hk
  |true=>
   have hb:=Nat.eq_of_beq_eq_true hb
   have h1:xs.toList.drop o=[]:=List.drop_eq_nil_of_le (by simp [hx,hb])
   have h2:ys.toList.drop o=[]:=List.drop_eq_nil_of_le (by simp [hy,hb])
   rw [h1,h2]
   simp [Op.eqFields,eo]
 |cons f fs ih=>
  intro o n ks hk hx hy fx fy hF
  simp only [kL] at hk
  cases hf:F f.type with
  |none=>simp [hf] at hk
  |some js=>
   simp only [hf] at hk
   cases hc:Nat.beq f.offset o&&Nat.beq js.length (P.cellsOf f.type)&&!(f.name== "_") with
   |false=>simp [hc] at hk
   |true=>
    simp only [hc,cond_true] at hk
    simp only [Bool.and_eq_true,Bool.not_eq_true'] at hc
    obtain ⟨⟨h1,h2⟩,h3⟩:=hc
    have h1:=Nat.eq_of_beq_eq_true h1
    have h2:=Nat.eq_of_beq_eq_true h2
    have h3:f.name≠ "_" :=by intro he;rw [he] at h3;simp at h3
    cases hr:kL F P fs (o+js.length) n with
    |none=>simp [hr] at hk
    |some rs=>
     simp only [hr,Option.some.injEq] at hk
     subst hk
     obtain ⟨Kj,Kk⟩:=fx.split
     obtain ⟨Kl,Km⟩:=fy.split
     rw [List.drop_drop] at Kk Km
     have lx:=fx.length
     have ly:=fy.length
     simp only [List.length_drop,List.length_append,Array.length_toList] at lx ly
     obtain ⟨⟨d,hu,ej⟩,ei⟩:=hF f (by simp) js hf
     by_cases hz:o+js.length≤xs.size∧o+js.length≤ys.size
     ·obtain ⟨x,px,wx⟩:=nK (w:=w) (xs:=xs) (off:=f.offset) hu h2.symm ej (by rw [h1];exact hz.1)
      obtain ⟨y,py,wy⟩:=nK (w:=w) (xs:=ys) (off:=f.offset) hu h2.symm ej (by rw [h1];exact hz.2)
      rw [h1] at wx wy
      have he:=ei x y _ _ wx wy Kj Kl
      have uG:=ih (o+js.length) n rs hr hx hy Kk Km (fun g hg=>hF g (by simp [hg]))
      simp only [Op.eqFields,h3,ne_eq,not_false_eq_true,if_true,Sem.run_bind,px,py,he,Result.andThen_ok]
      have sr:eo (xs.toList.drop o) (ys.toList.drop o)=(eo ((xs.toList.drop o).take js.length) ((ys.toList.drop o).take js.length)&&eo (xs.toList.drop (o+js.length)) (ys.toList.drop (o+js.length))):=by
       rw [←List.drop_drop,←List.drop_drop,←kv (by rw [Kj.length,Kl.length]),List.take_append_drop,List.take_append_drop]
      rw [sr]
      cases eo ((xs.toList.drop o).take js.length) ((ys.toList.drop o).take js.length)
      ·simp
      ·simpa using uG
     ·exfalso
      have:=sH _ _ _ _ hr
      omega
theorem DA {e:TypeId} {dd:Nat} {xs ys:Array Value} {js:List Kd} (Aj:js.length=P.cellsOf e) (hd: ∃d,P.underlying e=some d∧(tI d=false→js.length=1))
 (ei: ∀(x y:Value) (us vs:List Value),j8 P e x us→j8 P e y vs→dI js us→dI js vs→(Op.equalIn dd e x y).run P w= .ok (eo us vs) w):
 ∀(m i:Nat),xs.size=(i+m) *js.length→ys.size=(i+m) *js.length→dI (xl m js) (xs.toList.drop (i *js.length))→dI (xl m js) (ys.toList.drop (i *js.length))→
 (Op.eqItems dd e (P.cellsOf e) xs ys (List.range' i m)).run P w= .ok (eo (xs.toList.drop (i *js.length)) (ys.toList.drop (i *js.length))) w:=by
 intro m
 induction m with
 |zero=>
  intro i hx hy _ _
  have h1:xs.toList.drop (i *js.length)=[]:=List.drop_eq_nil_of_le (by simp [hx])
  have h2:ys.toList.drop (i *js.length)=[]:=List.drop_eq_nil_of_le (by simp [hy])
  rw [h1,h2]
  simp [Op.eqItems,eo]
 |succ m ih=>
  intro i hx hy fx fy
  simp only [xl] at fx fy
  obtain ⟨Kj,Kk⟩:=fx.split
  obtain ⟨Kl,Km⟩:=fy.split
  have hmul:i *js.length+js.length=(i+1) *js.length:=by rw [Nat.succ_mul]
  rw [List.drop_drop,hmul] at Kk Km
  obtain ⟨d,hu,ej⟩:=hd
  have hle:(i+1) *js.length≤(i+(m+1)) *js.length:=Nat.mul_le_mul_right _ (by omega)
  obtain ⟨x,px,wx⟩:=nK (w:=w) (xs:=xs) (off:=i *js.length) hu Aj.symm ej (by omega)
  obtain ⟨y,py,wy⟩:=nK (w:=w) (xs:=ys) (off:=i *js.length) hu Aj.symm ej (by omega)
  have he:=ei x y _ _ wx wy Kj Kl
  have uG:=ih (i+1) (by rw [hx];congr 1;omega) (by rw [hy];congr 1;omega) Kk Km
  rw [List.range'_succ]
  simp only [Op.eqItems,Sem.run_bind,←Aj,px,py,he,Result.andThen_ok]
  have sr:eo (xs.toList.drop (i *js.length)) (ys.toList.drop (i *js.length))=(eo ((xs.toList.drop (i *js.length)).take js.length) ((ys.toList.drop (i *js.length)).take js.length)&&eo (xs.toList.drop ((i+1) *js.length)) (ys.toList.drop ((i+1) *js.length))):=by
   rw [←hmul,←List.drop_drop,←List.drop_drop,←kv (by rw [Kj.length,Kl.length]),List.take_append_drop,List.take_append_drop]
  rw [sr]
  cases eo ((xs.toList.drop (i *js.length)).take js.length) ((ys.toList.drop (i *js.length)).take js.length)
  ·simp
  ·rw [←Aj] at uG;simpa using uG
theorem uH: ∀(d:Nat) (t:TypeId) (ks:List Kd),fG P d t=some ks→ ∃k,P.underlying t=some k∧(tI k=false→ks.length=1):=by
 intro d t ks h
 cases d with
 |zero=>simp [fG] at h
 |succ d=>
  simp only [fG] at h
  cases hu:P.underlying t with
  |none=>simp [hu] at h
  |some k=>
   refine ⟨k,rfl,fun ha=> ?_⟩
   cases k<;>simp only [hu] at h<;>first
    |(simp only [Option.some.injEq] at h;subst h;rfl)
    |(cases h;done)
    |(simp [tI] at ha;done)
theorem qO: ∀(d:Nat) (t:TypeId) (ks:List Kd),fG P d t=some ks→ ∀(m:Nat) (x y:Value) (us vs:List Value),j8 P t x us→j8 P t y vs→dI ks us→dI ks vs→
 (Op.equalIn (m+d) t x y).run P w= .ok (eo us vs) w:=by
 intro d
 induction d with
 |zero=>intro t ks h;simp [fG] at h
 |succ d ih=>
  intro t ks h m x y us vs hx hy fx fy
  simp only [fG] at h
  have PK:m+(d+1)=(m+d)+1:=rfl
  rw [PK]
  cases hu:P.underlying t with
  |none=>simp [hu] at h
  |some k=>
   cases k<;>simp only [hu] at h<;>try (cases h;done)
   case bool=>
    simp only [Option.some.injEq] at h;subst h
    simp only [j8,hu] at hx hy
    subst hx;subst hy
    obtain ⟨v,r,h1,h2,h3⟩:=fx
    obtain ⟨v',r',rr,Al,Gk⟩:=fy
    simp at h1 rr
    obtain ⟨rfl,_⟩:=h1
    obtain ⟨rfl,_⟩:=rr
    cases x<;>simp [vN] at h2
    cases y<;>simp [vN] at Al
    rename_i a b
    rw [run_equalIn_bool' w _ t a b hu]
    simp [eo,Dy]
    cases a<;>cases b<;>rfl
   case int k=>
    simp only [Option.some.injEq] at h;subst h
    simp only [j8,hu] at hx hy
    subst hx;subst hy
    obtain ⟨v,r,h1,h2,h3⟩:=fx
    obtain ⟨v',r',rr,Al,Gk⟩:=fy
    simp at h1 rr
    obtain ⟨rfl,_⟩:=h1
    obtain ⟨rfl,_⟩:=rr
    cases x<;>simp [vN] at h2
    cases y<;>simp [vN] at Al
    subst h2;subst Al
    rw [run_equalIn_int w _ t _ _ _ _ hu]
    simp only [eo,Dy,Bool.and_true]
    congr 1
   case string=>
    simp only [Option.some.injEq] at h;subst h
    simp only [j8,hu] at hx hy
    subst hx;subst hy
    obtain ⟨v,r,h1,h2,h3⟩:=fx
    obtain ⟨v',r',rr,Al,Gk⟩:=fy
    simp at h1 rr
    obtain ⟨rfl,_⟩:=h1
    obtain ⟨rfl,_⟩:=rr
    cases x<;>simp [vN] at h2
    cases y<;>simp [vN] at Al
    rw [run_equalIn_string w _ t _ _ hu]
    simp only [eo,Dy,Bool.and_true,toList_data]
    congr 1
    exact Bool.beq_eq_decide_eq _ _
   case array n e=>
    cases K8:fG P d e with
    |none=>simp [K8] at h
    |some js=>
     simp only [K8] at h
     cases hc:Nat.beq js.length (P.cellsOf e)&&(match P.info? e with|some _=>true|none=>false) with
     |false=>simp [hc] at h
     |true=>
      simp only [hc,cond_true,Option.some.injEq] at h
      subst h
      simp only [Bool.and_eq_true] at hc
      have Aj:=Nat.eq_of_beq_eq_true hc.1
      obtain ⟨i,hi⟩: ∃i,P.info? e=some i:=by
       cases hi:P.info? e with
       |none=>rw [hi] at hc;simp at hc
       |some i=>exact ⟨i,rfl⟩
      simp only [j8,hu] at hx hy
      subst hx;subst hy
      rw [run_equalIn_array w (m+d) us.toArray vs.toArray hu hi,List.range_eq_range']
      have l1:=fx.length
      have l2:=fy.length
      rw [xm] at l1 l2
      have:=DA (w:=w) (xs:=us.toArray) (ys:=vs.toArray) (js:=js) (dd:=m+d) Aj (uH d e js K8) (fun x y us vs a b c d'=>ih e js K8 m x y us vs a b c d') n 0 (by simpa using l1) (by simpa using l2) (by simpa using fx) (by simpa using fy)
      simpa using this
   case struct fs=>
    cases cK:P.stoodInHeld t with
    |true=>simp [cK] at h
    |false=>
     simp only [cK,cond_false] at h
     simp only [j8,hu] at hx hy
     subst hx;subst hy
     have C7:P.fieldsOf t=fs:=by simp [Program.fieldsOf,hu]
     rw [run_equalIn_struct w (m+d) t us.toArray vs.toArray (by rw [C7];exact hu) cK,C7]
     have hl:=sH _ _ _ _ h
     have:=AR (w:=w) (dd:=m+d) (xs:=us.toArray) (ys:=vs.toArray) fs.toList 0 (P.cellsOf t) ks h (by simp [fx.length];omega) (by simp [fy.length];omega) (by simpa using fx) (by simpa using fy)
      (fun f hf js N3=>⟨uH d f.type js N3,fun x y us vs a b c d'=>ih f.type js N3 m x y us vs a b c d'⟩)
     simpa using this
end
theorem zI {l m:List Kd} (h:ra l m=true):l=m:=by
 induction l generalizing m with
 |nil=>cases m<;>simp [ra] at h;rfl
 |cons a l ih=>
  cases m with
  |nil=>simp [ra] at h
  |cons b m=>
   simp only [ra,Bool.and_eq_true] at h
   rw [Dt h.1,ih h.2]
def yM:List Kd→Bool
 |[]=>true
 | .l::_=>false
 | .raw::_=>false
 |_::r=>yM r
def N4 (P:Program) (t:Nat) (I:TI):Bool:=
 !yM I.lay||!l6 I.a7||((match fG P 20 t with|some ks=>ra ks (Fx I.lay)|none=>false)&&!P.eqGuardType P.depth t&&
  (match P.underlying t with|some (.struct _)=>I.st|some (.array _ _)=>!I.st&&eO I.lay .h|some .bool=>!I.st&&eO I.lay .b|some (.int k)=>!I.st&&eO I.lay (.i k)|some .string=>!I.st&&eO I.lay .s|_=>false))
def HW (P:Program) (Ew:List (Nat×TI)):Bool:=Ew.all fun p=>N4 P p.1 p.2
theorem AU {lay:List Kd}: ∀{ls:List ah},cm lay ls=true→yM lay=true:=by
 induction lay with
 |nil=>intro ls _;rfl
 |cons k lay ih=>
  intro ls h
  cases ls with
  |nil=>simp [cm] at h
  |cons l ls=>
   simp only [cm] at h
   cases h1:fL k l with
   |false=>simp [h1] at h
   |true=>
    simp only [h1,cond_true] at h
    have:=ih h
    cases k<;>first|exact this|(cases l<;>simp [fL] at h1)
theorem AV {t:TypeId} {x y:Value} (h:(∃b,x= .bool b)∨ ∃cs,x= .agg cs) (op:BinOp):
 (op= .eql→binOp op t x y=(do pure (.bool (←Op.equal t x y))))∧(op= .neq→binOp op t x y=(do pure (.bool (!(←Op.equal t x y))))):=by
 rcases h with ⟨b,rfl⟩|⟨cs,rfl⟩<;>refine ⟨?_,?_⟩<;>rintro rfl<;>cases y<;>rfl
theorem AW {P:Program} {Ew:List (Nat×TI)} (h:HW P Ew=true):Ae P (mw Ew):=by
 intro t I hI hc e w vx vy sx sy b rx ry fx fy HX HY hb n1 n2
 have hr:=List.all_eq_true.1 h (t,I) (uD hI)
 simp only [N4,AU fx,Bool.not_true,Bool.false_or] at hr
 rw [hc] at hr
 simp only [l6,Bool.not_true,Bool.false_or,Bool.and_eq_true,Bool.not_eq_true'] at hr
 obtain ⟨⟨hk,hg⟩,hd⟩:=hr
 cases Aq:fG P 20 t with
 |none=>simp [Aq] at hk
 |some ks=>
  simp only [Aq] at hk
  have hk:=zI hk
  subst hk
  have cells: ∀(v:Value) (s:Slot),aa e v s→cm I.lay (ak s)=true→fb I.st s=true→(∃us,j8 P t v us∧af e us (ak s))∧((∃b,v= .bool b)∨(∃cs,v= .agg cs)∨(∃k n,s= .sc (.p (.i k n)))∨ ∃l,s= .sc (.p (.s l))):=by
   intro v s hv hf hs
   cases s<;>simp only [fb] at hs<;>try (cases hs;done)
   ·rename_i l
    have cK:I.st=false:=by simpa using hs
    cases hu:P.underlying t with
    |none=>simp [hu] at hd
    |some d=>
     simp only [hu] at hd
     cases d<;>simp only [cK,Bool.not_false,Bool.true_and] at hd<;>try (cases hd;done)
     ·have hl:=bX hd
      rw [hl] at hf
      simp only [ak,cm] at hf
      cases l<;>simp [fL] at hf
      rename_i m
      cases m<;>simp [fL] at hf
      have:=qz hv
      exact ⟨⟨[v],by simp [j8,hu],[v],[],rfl,hv,rfl⟩,.inl ⟨_,this⟩⟩
     ·have hl:=bX hd
      rw [hl] at hf
      simp only [ak,cm] at hf
      cases l<;>simp [fL] at hf
      rename_i m
      cases m<;>simp [fL] at hf
      exact ⟨⟨[v],by simp [j8,hu],[v],[],rfl,hv,rfl⟩,.inr (.inr (.inl ⟨_,_,rfl⟩))⟩
     ·have hl:=bX hd
      rw [hl] at hf
      simp only [ak,cm] at hf
      cases l<;>simp [fL] at hf
      rename_i m
      cases m<;>simp [fL] at hf
      exact ⟨⟨[v],by simp [j8,hu],[v],[],rfl,hv,rfl⟩,.inr (.inr (.inr ⟨_,rfl⟩))⟩
     ·have hl:=bX hd
      rw [hl] at hf
      simp only [ak,cm] at hf
      cases l<;>simp [fL] at hf
      rename_i x
      have hv:v= .agg (aD x).toArray:=hv
      exact ⟨⟨aD x,by simp [j8,hu,hv],aD x,[],by simp,rfl,rfl⟩,.inr (.inl ⟨_,hv⟩)⟩
   ·rename_i cs
    cases hu:P.underlying t with
    |none=>simp [hu] at hd
    |some d=>
     simp only [hu] at hd
     cases d<;>simp only [hs,Bool.not_true,Bool.false_and] at hd<;>try (cases hd;done)
     obtain ⟨arr,hv,ji⟩:=hv
     exact ⟨⟨arr.toList,by simp [j8,hu,hv],ji⟩,.inr (.inl ⟨_,hv⟩)⟩
  obtain ⟨⟨us,wx,lx⟩,kx⟩:=cells vx sx rx fx HX
  obtain ⟨⟨vs,wy,ly⟩,ky⟩:=cells vy sy ry fy HY
  have ei:(Op.equal t vx vy).run P w= .ok b w:=by
   have:=qO (P:=P) (w:=w) 20 t _ Aq 9980 vx vy us vs wx wy (uF lx fx) (uF ly fy)
   rw [Dz lx ly hb] at this
   exact this
  refine ⟨ei,fun x y op=> ?_⟩
  have N5:(∃b,vx= .bool b)∨ ∃cs,vx= .agg cs:=by
   rcases kx with h1|h1|⟨k,n,h1⟩|⟨l,h1⟩
   ·exact .inl h1
   ·exact .inr h1
   ·exfalso
    subst h1
    cases hu:P.underlying t with
    |none=>simp [hu] at hd
    |some d=>
     simp only [ak] at fx fy hb
     cases DB:I.lay with
     |nil=>rw [DB] at fx;simp [cm] at fx
     |cons k0 r0=>
      rw [DB] at fx fy
      simp only [cm] at fx
      cases k0<;>simp [fL] at fx
      obtain ⟨QS,HZ⟩:=fx
      have HZ:r0=[]:=by cases r0<;>simp [cm] at HZ;rfl
      subst HZ
      cases sy<;>simp only [fb] at HX HY<;>try (cases HY;done)
      ·rename_i l
       simp only [ak,cm] at fy
       cases l<;>simp [fL] at fy
       rename_i m
       cases m<;>simp [fL] at fy
       exact n1 _ _ _ _ rfl rfl
      ·rw [HY] at HX;cases HX
   ·exfalso
    subst h1
    simp only [ak] at fx fy hb
    cases DB:I.lay with
    |nil=>rw [DB] at fx;simp [cm] at fx
    |cons k0 r0=>
     rw [DB] at fx fy
     simp only [cm] at fx
     cases k0<;>simp [fL] at fx
     have HZ:r0=[]:=by cases r0<;>simp [cm] at fx;rfl
     subst HZ
     cases sy<;>simp only [fb] at HX HY<;>try (cases HY;done)
     ·rename_i l
      simp only [ak,cm] at fy
      cases l<;>simp [fL] at fy
      rename_i m
      cases m<;>simp [fL] at fy
      exact n2 _ _ rfl rfl
     ·rw [HY] at HX;cases HX
  refine ⟨?_,AV N5 op⟩
  have He:P.eqGuardType P.depth t=false:=hg
  rcases N5 with ⟨bb,rfl⟩|⟨cs,rfl⟩
  ·cases op<;>rfl
  ·cases vy<;>cases op<;>first|rfl|(simp [eqGuard,He])
end Dn
/-
  A program's types of maps, looked through. Conditions: none.
-/
set_option linter.unusedSimpArgs false
set_option linter.unusedVariables false
set_option linter.constructorNameAsVariable false
namespace Dn
open Go
theorem vO {lay:List Kd}: ∀{ks:List MV},bC lay ks=true→dI (Fx lay) (ks.flatMap pR):=by
 induction lay with
 |nil=>intro ks h;cases ks with|nil=>rfl|cons=>simp [bC] at h
 |cons k lay ih=>
  intro ks h
  cases ks with
  |nil=>simp [bC] at h
  |cons m ks=>
   simp only [bC,Bool.and_eq_true] at h
   have h2:=ih h.2
   have h1:=h.1
   cases k<;>cases m<;>simp only [p0] at h1<;>try (cases h1;done)
   ·exact ⟨_,_,rfl,rfl,h2⟩
   ·exact ⟨_,_,rfl,h1,h2⟩
   ·exact ⟨_,_,rfl,rfl,h2⟩
   ·exact (sG _).append h2
theorem Fy {lay:List Kd}: ∀{a b:List MV},bC lay a=true→bC lay b=true→eo (a.flatMap pR) (b.flatMap pR)=dB b a:=by
 induction lay with
 |nil=>
  intro a b ha hb
  cases a<;>cases b<;>simp [bC] at ha hb
  rfl
 |cons k lay ih=>
  intro a b ha hb
  cases a with
  |nil=>simp [bC] at ha
  |cons x a=>
   cases b with
   |nil=>simp [bC] at hb
   |cons y b=>
    simp only [bC,Bool.and_eq_true] at ha hb
    have ih:=ih ha.2 hb.2
    have h1:=ha.1
    have h2:=hb.1
    cases k<;>cases x<;>simp only [p0] at h1<;>try (cases h1;done)
    all_goals cases y<;>simp only [p0] at h2<;>try (cases h2;done)
    ·rename_i p q
     simp only [List.flatMap_cons,pR,List.cons_append,List.nil_append,eo,Dy,dB,tq,ih]
     congr 1;rw [decide_eq_decide];exact eq_comm
    ·rename_i k1 p k2 q
     have e1:=of_decide_eq_true h1
     have e2:=of_decide_eq_true h2
     subst e1;subst e2
     simp only [List.flatMap_cons,pR,List.cons_append,List.nil_append,eo,Dy,dB,tq,ih,decide_true,Bool.true_and]
     congr 1;rw [decide_eq_decide];exact eq_comm
    ·rename_i p q
     simp only [List.flatMap_cons,pR,List.cons_append,List.nil_append,eo,Dy,dB,tq,ih]
     congr 1;rw [decide_eq_decide];simp [eq_comm]
    ·rename_i p q
     simp only [List.flatMap_cons,pR,dB,tq]
     rw [kv (by rw [bo,bo]),uE,ih]
     congr 1;rw [decide_eq_decide];exact eq_comm
def ql:TypeDesc→Bool
 | .bool| .int _| .string=>true
 |_=>false
def Kn (P:Program) (n:Nat) (fs:List Field):Bool:=fs.all fun f=>(match P.underlying f.type with|some d=>ql d|none=>false)&&Nat.ble (f.offset+1) n
def GD (P:Program) (kt:Nat) (I:TI):Bool:=match P.underlying kt with
 |some .bool=>!I.st&&eO I.lay .b
 |some (.int k)=>!I.st&&eO I.lay (.i k)
 |some .string=>!I.st&&eO I.lay .s
 |some (.struct fs)=>I.st&&(match fG P 20 kt with|some ks=>ra ks (Fx I.lay)|none=>false)&&Kn P (Fx I.lay).length fs.toList
 |_=>false
def GF (b:Bool):Option Value→Bool
 |some (.bool false)=>b
 |some (.int .i64 n)=>!b&&decide (n=0)
 |_=>false
def Ko (P:Program) (ti:Nat→Option TI) (t kt:Nat) (b:Bool):Bool:=match P.underlying t with
 |some (.map K9 el)=>Nat.beq K9 kt&&(match P.info? el with|some i=>GF b i.zero|none=>false)&&(match ti kt with|some I=>l6 I.a7&&GD P kt I|none=>false)
 |_=>false
def sI:List (Nat×(Nat×Bool))→Nat→Option (Nat×Bool)
 |[],_=>none
 |(k,s)::r,t=>bif Nat.beq k t then some s else sI r t
theorem AX {l:List (Nat×(Nat×Bool))} {t:Nat} {I:Nat×Bool} (h:sI l t=some I):(t,I)∈l:=by
 induction l with
 |nil=>simp [sI] at h
 |cons p l ih=>
  obtain ⟨k,s⟩:=p
  simp only [sI,cE] at h
  by_cases hk:k=t
  ·subst hk;simp at h;subst h;simp
  ·simp only [hk,decide_false,cond_false] at h
   exact List.mem_cons_of_mem _ (ih h)
def Fz (P:Program) (ti:Nat→Option TI) (l:List (Nat×(Nat×Bool))):Bool:=l.all fun p=>Ko P ti p.1 p.2.1 p.2.2
theorem nL {k:Kd} {ks:List MV} (h:bC [k] ks=true): ∃m,ks=[m]∧p0 k m=true:=by
 cases ks with
 |nil=>simp [bC] at h
 |cons m r=>
  cases r with
  |cons=>simp [bC] at h
  |nil=>exact ⟨m,rfl,by simpa [bC] using h⟩
theorem dQ {P:Program} {t:TypeId} {d:TypeDesc} (hu:P.underlying t=some d) (hd:ql d=true) (em:Bool) (n:Nat) (v:Value) (w:World):(Instr.checkKey em (n+1) t v).run P w= .ok () w:=by
 rw [Instr.checkKey]
 simp only [Sem.run_bind,run_underlying hu,Result.andThen]
 cases d<;>simp [ql] at hd<;>cases v<;>rfl
theorem sJ {P:Program} {t:TypeId} {d:TypeDesc} (hu:P.underlying t=some d) (hd:ql d=true) {xs:Array Value} {off:Nat} (h:off<xs.size) (w:World):(Go.part t xs off).run P w= .ok xs[off] w:=by
 cases d<;>simp [ql] at hd<;>simp [Go.part,isAgg,run_underlying hu,h]
theorem yN {P:Program} {c:Ctx} {l:List (Nat×(Nat×Bool))} (h:Fz P c.ti l=true) (hm: ∀t p,c.mt t=some p→sI l t=some p):r8 P c:=by
 intro t s hs
 unfold mC at hs
 cases BE:c.mt t with
 |none=>simp [BE] at hs
 |some p=>
  obtain ⟨kt,b⟩:=p
  simp only [BE] at hs
  cases hI:c.tv kt with
  |none=>simp [hI] at hs
  |some I=>
   simp only [hI] at hs
   cases hit:q9 ⟨I.st,I.lay,b⟩ with
   |true=>simp [hit] at hs
   |false=>
   simp only [hit,cond_false,Option.some.injEq] at hs
   subst hs
   obtain ⟨wh,Ci⟩:=aN hI
   have hb:=List.all_eq_true.1 h _ (AX (hm t _ BE))
   simp only [Ko] at hb
   split at hb
   ·rename_i K9 el hu
    simp only [Bool.and_eq_true] at hb
    obtain ⟨⟨ng,lS⟩,Hz⟩:=hb
    have ng:=Nat.eq_of_beq_eq_true ng
    subst ng
    split at lS
    ·rename_i inf MO
     rw [wh] at Hz
     simp only [Bool.and_eq_true] at Hz
     have hk:=Hz.2
     have hz: ∀w:World,(zeroValue el).run P w= .ok (nV b (dC b)) w:=by
      intro w
      have:inf.zero=some (nV b (dC b)):=by
       generalize inf.zero=z at lS
       unfold GF at lS
       split at lS
       ·subst lS;rfl
       ·simp only [Bool.and_eq_true,Bool.not_eq_true'] at lS
        obtain ⟨h1,h2⟩:=lS
        subst h1
        rw [of_decide_eq_true h2];rfl
       ·cases lS
      simp [zeroValue,typeInfo,MO,this]
     unfold GD at hk
     refine ⟨K9,el,hu,hz,?_⟩
     split at hk
     ·rename_i hd
      simp only [Bool.and_eq_true,Bool.not_eq_true'] at hk
      have hl:=bX hk.2
      refine ⟨fun em ks w hf=>dQ hd rfl em 9999 _ w,_,hd,.inl fun a b' ha rc=> ?_⟩
      rw [hl] at ha rc
      obtain ⟨x,rfl,hx⟩:=nL ha
      obtain ⟨y,rfl,hy⟩:=nL rc
      cases x<;>simp [p0] at hx
      cases y<;>simp [p0] at hy
      rename_i p q
      simp only [hk.1,cF,Instr.sameNow,dB,tq,Bool.and_true]
      congr 1;rw [Bool.eq_iff_iff];simp only [beq_iff_eq,decide_eq_true_eq];exact eq_comm
     ·rename_i k hd
      simp only [Bool.and_eq_true,Bool.not_eq_true'] at hk
      have hl:=bX hk.2
      refine ⟨fun em ks w hf=>dQ hd rfl em 9999 _ w,_,hd,.inl fun a b' ha rc=> ?_⟩
      rw [hl] at ha rc
      obtain ⟨x,rfl,hx⟩:=nL ha
      obtain ⟨y,rfl,hy⟩:=nL rc
      cases x<;>simp [p0] at hx
      cases y<;>simp [p0] at hy
      subst hx;subst hy
      rename_i p q
      simp only [hk.1,cF,Instr.sameNow,dB,tq,Bool.and_true,if_true,decide_true,Bool.true_and]
      congr 1;rw [Bool.eq_iff_iff];simp only [beq_iff_eq,decide_eq_true_eq];exact eq_comm
     ·rename_i hd
      simp only [Bool.and_eq_true,Bool.not_eq_true'] at hk
      have hl:=bX hk.2
      refine ⟨fun em ks w hf=>dQ hd rfl em 9999 _ w,_,hd,.inl fun a b' ha rc=> ?_⟩
      rw [hl] at ha rc
      obtain ⟨x,rfl,hx⟩:=nL ha
      obtain ⟨y,rfl,hy⟩:=nL rc
      cases x<;>simp [p0] at hx
      cases y<;>simp [p0] at hy
      rename_i p q
      simp only [hk.1,cF,Instr.sameNow,dB,tq,Bool.and_true]
      congr 1;rw [beq_toListBytes,ByteArray.toList_eq,ByteArray.toList_eq,Bool.eq_iff_iff];simp only [beq_iff_eq,decide_eq_true_eq,List.toList_toArray];exact eq_comm
     ·rename_i fs hd
      simp only [Bool.and_eq_true] at hk
      obtain ⟨⟨cK,Gy⟩,C7⟩:=hk
      split at Gy
      ·rename_i ks Aq
       have Gy:=zI Gy
       subst Gy
       have Kp: ∀q,cF true q= .agg (q.flatMap pR).toArray:=by intro q;rfl
       refine ⟨fun em q w hf=> ?_,_,hd,.inr fun x y hx hy=>⟨?_,fun w=> ?_⟩⟩
       ·have hlen:(q.flatMap pR).length=(Fx I.lay).length:=(vO hf).length
        rw [cK,Kp,show (10000:Nat)=9999+1 from rfl,Instr.checkKey]
        simp only [Sem.run_bind,run_underlying hd,Result.andThen_ok]
        rw [←Array.forIn_toList]
        have each: ∀f∈fs.toList,(∃d,P.underlying f.type=some d∧ql d=true)∧f.offset<(q.flatMap pR).toArray.size:=by
         intro f hf
         have:=List.all_eq_true.1 C7 f hf
         simp only [Bool.and_eq_true] at this
         obtain ⟨h1,h2⟩:=this
         split at h1
         ·rename_i d hd;exact ⟨⟨d,hd,h1⟩,by have:=Nat.le_of_ble_eq_true h2;simp only [List.size_toArray];omega⟩
         ·cases h1
        clear C7
        generalize fs.toList=L at each
        generalize (q.flatMap pR).toArray=xs at each
        induction L with
        |nil=>simp
        |cons f L ih=>
         obtain ⟨⟨d,h1,h2⟩,h3⟩:=each f (by simp)
         have ng:=dQ h1 h2 em 9998 xs[f.offset] w
         have lS:=sJ (P:=P) h1 h2 h3 w
         by_cases hn:f.name= "_"
         ·simp only [List.forIn_cons,Sem.run_bind,hn,ne_eq,not_true_eq_false,if_false,Result.andThen_ok,Sem.run_pure]
          exact ih (fun y hy=>each y (by simp [hy]))
         ·simp only [List.forIn_cons,Sem.run_bind,hn,ne_eq,not_false_eq_true,if_true,Result.andThen_ok,ng,lS,Sem.run_pure]
          exact ih (fun y hy=>each y (by simp [hy]))
       ·rw [cK,Kp,Kp];rfl
       ·rw [cK,Kp,Kp]
        have:=qO (P:=P) (w:=w) 20 K9 _ Aq 9980 (.agg (x.flatMap pR).toArray) (.agg (y.flatMap pR).toArray) (x.flatMap pR) (y.flatMap pR) (by simp [j8,hd]) (by simp [j8,hd]) (vO hx) (vO hy)
        rw [Fy hx hy] at this
        exact this
      ·cases Gy
     ·cases hk
    ·cases lS
   ·cases hb
end Dn
/-
  Functions that are handed a variable do what their abstract run says. Conditions: none.
-/
set_option linter.unusedSimpArgs false
set_option linter.unusedVariables false
namespace Dn
open Go
section
variable {P:Program} {c:Ctx} {Z:aJ} {e e':Env} {st aR:St} {a a':Act} {w w':World} {R:Type} {r:R}
end
end Dn
/-
  Operations whose order is open. Conditions: none.
-/
set_option linter.unusedSimpArgs false
set_option linter.unusedVariables false
namespace Dn
open Go
section
variable {P:Program} {c:Ctx} {ops:Array Oper} {N:Act→World→Prop}
def lm (N:Act→World→Prop):Exit→Act→World→Prop
 | .normal,a,w=>N a w
 |_,_,_=>False
def l7 (c:Ctx) (oi:Oper) (ops:Array Oper) (i:Nat):Bool:=match ops[i]? with|some o=>B1 c o||n6 oi o|none=>true
def tJ (P:Program) (c:Ctx) (ops:Array Oper) (N:Act→World→Prop) (φ:Ph):Nat→Array Bool→Act→World→Prop
 |0,listed,a,w=>Region.ready .any ops listed=[]∧N a w
 |fuel+1,listed,a,w=>(Region.ready .any ops listed=[]→N a w)∧
  ∀i∈Region.ready .any ops listed,wpOp P ops (lm N) i (fun a' w'=>((∀oi,l7 c oi ops i=true→cu c oi w w')∧r5 φ w')∧tJ P c ops N φ fuel (listed.setIfInBounds i true) a' w') a w
theorem AY {φ φ':Ph} (hp:jh φ φ'): ∀(fuel:Nat) (listed:Array Bool) (a:Act) (w:World),tJ P c ops N φ' fuel listed a w→tJ P c ops N φ fuel listed a w:=by
 intro fuel
 induction fuel with
 |zero=>intro listed a w h;exact h
 |succ fuel ih=>intro listed a w h;exact ⟨h.1,fun i hi=>wpOp_mono (fun a w h=>⟨⟨h.1.1,fun b o v hv=>h.1.2 b o v (hp b o v hv)⟩,ih _ _ _ h.2⟩) (h.2 i hi)⟩
theorem DC {φ:Ph}: ∀(fuel:Nat) (listed:Array Bool) (a:Act) (w:World),tJ P c ops N φ fuel listed a w→wpAny P .any ops (lm N) fuel listed a w:=by
 intro fuel
 induction fuel with
 |zero=>intro listed a w h;exact h
 |succ fuel ih=>intro listed a w h;exact ⟨h.1,fun i hi=>wpOp_mono (fun a w h=>ih _ _ _ h.2) (h.2 i hi)⟩
theorem yO {oi oj p:Oper} {w w':World} (h1:n6 oi p=true) (h2:n6 oj p=true) (h:cu c oi w w'):cu c oj w w':=by
 unfold n6 at h1 h2
 split at h1
 ·rename_i t t' g1 g2
  split at h2
  ·rename_i u u' g3 g4
   rw [g2] at g4
   cases g4
   have e1:=Nat.eq_of_beq_eq_true h1
   have e2:=Nat.eq_of_beq_eq_true h2
   subst e1;subst e2
   simpa [cu,AB,g1,g3] using h
  ·cases h2
 ·cases h1
theorem H0 {j:Nat} {oi oj:Oper} {v:Value} (hj:ops[j]? =some oj) (qg:oi.apart ops oj=true)
 (PL: ∀cs b,oi.op≠ .select cs b) (IU: ∀cs b,oj.op≠ .select cs b) {K:Act→World→Prop} {a:Act} {w:World} (h:wpOp P ops (lm N) j K (a.put oi.dst v) w):
 wpOp P ops (lm N) j (fun a' w'=>(execOp a'.eval oi=execOp a.eval oi∧Region.wanted oi (yielded ops a'.tmps)=Region.wanted oi (yielded ops a.tmps))∧K (a'.put oi.dst v) w') a w:=by
 obtain ⟨h1,h2,h3⟩:=Oper.apart_spec qg
 have keep: ∀(a:Act) (u:Value),execOp (a.put oj.dst u).eval oi=execOp a.eval oi∧Region.wanted oi (yielded ops (a.put oj.dst u).tmps)=Region.wanted oi (yielded ops a.tmps):=
  fun a u=>⟨execOp_put oi PL a oj.dst u h3,wanted_put oi a oj.dst u h3⟩
 unfold wpOp at *
 simp only [hj] at *
 rw [wanted_put oj a oi.dst v h1] at h
 split
 ·rename_i hw
  simp only [hw,if_true] at h
  rcases h with h|⟨Kq,DD⟩
  case inr=>obtain ⟨_,_,hf⟩:=DD;exact hf.elim
  refine .inl ?_
  unfold Oper.wp at *
  rw [execOp_put oj IU a oi.dst v h1] at h
  generalize (execOp a.eval oj).run P w=r at *
  cases r with
  |ok n w'=>
   cases n<;>simp only [Oper.upon] at h⊢
   case value u=>exact ⟨keep a u,by rw [←Act.put_comm a v u h2];exact h⟩
   case skip=>exact ⟨keep a _,by rw [←Act.put_comm a v undef h2];exact h⟩
   case defer d=>
    refine ⟨keep _ _,?_⟩
    rw [←Act.put_comm _ v undef h2,←Act.put_defers]
    exact h
   case enter f args=>
    refine Calls.mono h fun x p8 he=> ?_
    cases x with
    |returned u=>exact ⟨keep a u,by rw [←Act.put_comm a v u h2];exact he⟩
    |panicked c=>exact he
    |outgrown=>exact he
   case row row args=>exact Rows.mono h fun u p8 he=>⟨keep a u,by rw [←Act.put_comm a v u h2];exact he⟩
  |halt x w'=>
   cases x<;>simp only [Oper.upon] at h⊢
   case panic u=>exact h
 ·rename_i hw
  simp only [hw] at h
  exact ⟨keep a _,by rw [←Act.put_comm a v undef h2];exact h⟩
def zJ (P:Program) (c:Ctx) (ops:Array Oper) (φ:Ph) (o:Oper) (v:Value) (a:Act) (w:World):Prop:=
 (Region.wanted o (yielded ops a.tmps)=true∧ ∀w',(eI c o=true→(still c o=false→cu c o w w')∧r5 φ w')→(execOp a.eval o).run P w'= .ok (.value v) w')∨
 (Region.wanted o (yielded ops a.tmps)=false∧v=undef)
theorem sK {φ:Ph} {i:Nat} {oi:Oper} {v:Value} {D:List Nat} (hD: ∀j oj,j∈D→j≠i→ops[j]? =some oj→ ∃e∈oj.after,Region.binds .any e=true∧e.on∈D) (hi:ops[i]? =some oi) (xn: ∀(j:Nat) (o:Oper) cs b,ops[j]? =some o→o.op≠ .select cs b):
 ∀(fuel:Nat) (listed:Array Bool) (a:Act) (w:World),
  (∀j oj,ops[j]? =some oj→j∉D→j≠i→listed.getD j true=false→oi.apart ops oj=true∧(eI c oi=true→still c oi=false→l7 c oi ops j=true))→(∀d∈D,listed.getD d false=false)→
  i∈Region.ready .any ops listed→zJ P c ops φ oi v a w→r5 φ w→
  tJ P c ops N φ fuel (listed.setIfInBounds i true) (a.put oi.dst v) w→tJ P c ops N φ (fuel+1) listed a w:=by
 have self: ∀(fuel:Nat) (listed:Array Bool) (a:Act) (w:World),zJ P c ops φ oi v a w→r5 φ w→tJ P c ops N φ fuel (listed.setIfInBounds i true) (a.put oi.dst v) w→
  wpOp P ops (lm N) i (fun a' w'=>((∀oi,l7 c oi ops i=true→cu c oi w w')∧r5 φ w')∧tJ P c ops N φ fuel (listed.setIfInBounds i true) a' w') a w:=by
  intro fuel listed a w hy hm H
  unfold wpOp
  simp only [hi]
  rcases hy with ⟨hw,hv⟩|⟨hw,rfl⟩
  ·simp only [hw,if_true,Oper.wp,hv w (fun _=>⟨fun _=>(bH.refl w).for,hm⟩),Oper.upon]
   exact .inl ⟨⟨fun _ _=>(bH.refl w).for,hm⟩,H⟩
  ·simp only [hw,Bool.false_eq_true,if_false]
   exact ⟨⟨fun _ _=>(bH.refl w).for,hm⟩,H⟩
 intro fuel
 induction fuel with
 |zero=>
  intro listed a w _ _ hr hy hm H
  refine ⟨fun h=>(by rw [h] at hr;cases hr),fun j hj=> ?_⟩
  by_cases FA:j=i
  ·subst FA;exact self 0 listed a w hy hm H
  ·have:=ready_mono hj FA
   rw [H.1] at this
   cases this
 |succ fuel ih=>
  intro listed a w mm tK hr hy hm H
  refine ⟨fun h=>(by rw [h] at hr;cases hr),fun j hj=> ?_⟩
  by_cases FA:j=i
  ·subst FA;exact self (fuel+1) listed a w hy hm H
  ·have h1:=H.2 j (ready_mono hj FA)
   obtain ⟨FB,oj,GG,iV⟩:=mem_ready.1 hj
   have La:j∉D:=by
    intro PM
    obtain ⟨e,he,hb,j0⟩:=hD j oj PM FA GG
    have h1:=iV e he hb
    rw [tK e.on j0] at h1;cases h1
   obtain ⟨qg,BC⟩:=mm j oj GG La FA FB
   have h2:=H0 GG qg (fun cs b=>xn i oi cs b hi) (fun cs b=>xn j oj cs b GG) h1
   have Kr: ∀d∈D,(listed.setIfInBounds j true).getD d false=false:=by
    intro d hd
    rw [getD_set_ne false (fun he=>La (by rw [he];exact hd))];exact tK d hd
   have H2: ∀k ok,ops[k]? =some ok→k∉D→k≠i→(listed.setIfInBounds j true).getD k true=false→oi.apart ops ok=true∧(eI c oi=true→still c oi=false→l7 c oi ops k=true):=fun k ok hk PN PO HQ=>by
    refine mm k ok hk PN PO ?_
    by_cases Lb:j=k
    ·subst Lb;exact FB
    ·rw [getD_set_ne true Lb] at HQ;exact HQ
   refine wpOp_mono (fun a' w' h3=>⟨h3.2.1,ih (listed.setIfInBounds j true) a' w' H2 Kr (ready_mono hr (Ne.symm FA)) ?_ h3.2.1.2 ?_⟩) h2
   ·obtain ⟨⟨he,H3⟩,⟨hg,_⟩,_⟩:=h3
    rcases hy with ⟨hw,hv⟩|⟨hw,rfl⟩
    ·refine .inl ⟨by rw [H3];exact hw,fun p8 Hx=> ?_⟩
     rw [he]
     exact hv p8 (fun hl=>⟨fun hs=>(hg oi (BC hl hs)).trans ((Hx hl).1 hs),(Hx hl).2⟩)
    ·exact .inr ⟨by rw [H3];exact hw,rfl⟩
   ·rw [Array.setIfInBounds_comm _ _ FA]
    exact h3.2.2
variable {Z:aJ} {R:Type} {K:St→Option R} {r:R}
theorem AZ (op:Op):yb op=op.operands.toList:=by
 cases op<;>first|rfl|simp [yb,Op.operands,Call.operands]
 all_goals first|rfl|(rename_i c;cases c.callee<;>simp)
theorem DE (l:List Operand):wB l=l.filterMap fun| .tmp t=>some t|_=>none:=by
 induction l with
 |nil=>rfl
 |cons x l ih=>cases x<;>simp [wB,ih]
theorem uI (o:Oper):vf ops.toList o=o.looksAt ops:=by
 unfold vf Oper.looksAt
 rw [AZ,DE]
 congr 1
 cases o.guard with
 |none=>rfl
 |some g=>
  obtain ⟨g,QT⟩:=g
  simp only [Array.getElem?_toList]
  cases ops[g]? <;>rfl
theorem nM {x y:Oper} (h:vg ops.toList x y=true):x.apart ops y=true:=by
 unfold vg at h
 unfold Oper.apart
 rw [uI,uI] at h
 have hn: ∀(l:List Nat) (d:Nat),aB l d=l.contains d:=by
  intro l d
  have:=aG l d
  cases h1:aB l d<;>cases h2:l.contains d<;>simp_all
 cases hx:x.dst<;>cases hy:y.dst<;>simp_all [bne,cE]
theorem ln (e:Edge):rI e=Region.binds .any e:=by
 unfold rI Region.binds
 cases e.ground<;>rfl
structure DF (ops:Array Oper) (listed:Array Bool) (pre:List Nat):Prop where
 size:listed.size=ops.size
 mem: ∀i,i<ops.size→(listed.getD i true=true↔i∈pre)
theorem DF.set {listed:Array Bool} {pre:List Nat} {x:Nat} (h:DF ops listed pre) (hx:x<ops.size):DF ops (listed.setIfInBounds x true) (x::pre):=by
 refine ⟨by simpa using h.size,fun i hi=> ?_⟩
 by_cases BG:x=i
 ·subst BG
  have:x<listed.size:=by rw [h.size];exact hx
  simp [this]
 ·rw [getD_set_ne true BG,h.mem i hi]
  simp only [List.mem_cons]
  exact ⟨.inr,fun hh=>hh.resolve_left (fun he=>BG he.symm)⟩
theorem DF.pD {listed:Array Bool} {pre:List Nat} {i:Nat} (h:DF ops listed pre) (hi:i<ops.size):listed.getD i true=false↔i∉pre:=by
 rw [←h.mem i hi];cases listed.getD i true<;>simp
theorem DF.done {listed:Array Bool} {pre:List Nat} {i:Nat} (h:DF ops listed pre) (hi:i<ops.size):listed.getD i false=true↔i∈pre:=by
 rw [←h.mem i hi]
 have hl:i<listed.size:=by rw [h.size];exact hi
 simp [hl]
theorem nn: ∀(rest pre:List Nat),kX c ops.toList pre rest=true→ ∀z∈rest,z∉pre:=by
 intro rest
 induction rest with
 |nil=>intro pre _ z hz;cases hz
 |cons y rest PP=>
  intro pre hd z hz
  simp only [kX] at hd
  cases hy:ops.toList[y]? with
  |none=>simp [hy] at hd
  |some oy=>
   simp only [hy,Bool.and_eq_true,Bool.not_eq_true'] at hd
   rcases List.mem_cons.1 hz with rfl|hz
   ·rw [←aG,hd.1.1.1.2];simp
   ·exact fun PQ=>PP (y::pre) hd.2 z hz (by simp [PQ])
theorem tL {o:Oper} {x:Nat}: ∀(rest D0:List Nat),jy c ops.toList o D0 rest=true→(∀y,y∈D0→y≠x→ ∃p,ops[y]? =some p∧ ∃e∈p.after,Region.binds .any e=true∧e.on∈D0)→
 ∃D:List Nat,(∀y∈D0,y∈D)∧(∀y∈D,y∈D0∨y∈rest)∧(∀j oj,j∈D→j≠x→ops[j]? =some oj→ ∃e∈oj.after,Region.binds .any e=true∧e.on∈D)∧
  (∀y∈rest,y∉D→ ∃p,ops[y]? =some p∧o.apart ops p=true∧(eI c o=true→still c o=false→(B1 c p||n6 o p)=true)):=by
 intro rest
 induction rest with
 |nil=>
  intro D0 _ h0
  refine ⟨D0,fun y hy=>hy,fun y hy=> .inl hy,fun j oj hj b7 ho=> ?_,fun y hy=>by cases hy⟩
  obtain ⟨p,hp,he⟩:=h0 j hj b7
  rw [ho] at hp;cases hp;exact he
 |cons y rest ih=>
  intro D0 h h0
  simp only [jy] at h
  cases hy:ops.toList[y]? with
  |none=>simp [hy] at h
  |some p=>
   simp only [hy] at h
   have Lc:ops[y]? =some p:=by simpa using hy
   cases he:ou p (aB D0) with
   |true=>
    simp only [he,cond_true] at h
    obtain ⟨D,D1,D2,D3,D4⟩:=ih (y::D0) h (by
     intro z hz b7
     rcases List.mem_cons.1 hz with rfl|hz
     ·unfold ou at he
      obtain ⟨ed,FC,hb⟩:=List.any_eq_true.1 he
      simp only [Bool.and_eq_true,ln] at hb
      exact ⟨p,Lc,ed,by simpa using FC,hb.1,by simp [(aG _ _).1 hb.2]⟩
     ·obtain ⟨q,hq,ed,h1,h2,h3⟩:=h0 z hz b7
      exact ⟨q,hq,ed,h1,h2,by simp [h3]⟩)
    refine ⟨D,fun z hz=>D1 z (by simp [hz]),fun z hz=> ?_,D3,fun z hz Ld=> ?_⟩
    ·rcases D2 z hz with h1|h1
     ·rcases List.mem_cons.1 h1 with h1|h1
      ·exact .inr (by simp [h1])
      ·exact .inl h1
     ·exact .inr (by simp [h1])
    ·rcases List.mem_cons.1 hz with rfl|hz
     ·exact absurd (D1 z (by simp)) Ld
     ·exact D4 z hz Ld
   |false=>
    simp only [he,cond_false,Bool.and_eq_true,Bool.or_eq_true,Bool.not_eq_true'] at h
    obtain ⟨⟨h1,h2⟩,h3⟩:=h
    obtain ⟨D,D1,D2,D3,D4⟩:=ih D0 h3 h0
    refine ⟨D,D1,fun z hz=>(D2 z hz).imp id (fun h=>by simp [h]),D3,fun z hz Ld=> ?_⟩
    rcases List.mem_cons.1 hz with rfl|hz
    ·refine ⟨p,Lc,nM h1,fun hl hs=> ?_⟩
     rcases h2 with ((h2|h2)|h2)|h2
     ·rw [hl] at h2;cases h2
     ·simp [h2]
     ·rw [hs] at h2;cases h2
     ·simp [h2]
    ·exact D4 z hz Ld
def aJ.outs (Z:aJ) (bs:List Nat):aJ:={Z with In:=fun b=>Z.In b∧b∉bs,Pr:=fun b=>Z.Pr b∧b∉bs}
theorem aO.qP {Z Z':aJ} {e:Env} {st:St} {a:Act} {w:World} (h:aO c Z e st a w) (hI: ∀b,Z.In b→Z'.In b) (hP: ∀b,Z.Pr b→Z'.Pr b) (h1:Z'.bh=Z.bh) (h2:Z'.aY=Z.aY) (h3:Z'.T=Z.T) (h4:Z'.Jc=Z.Jc):aO c Z' e st a w:=by
 refine ⟨by rw [h1,h2,h3];exact h.defers,h.size,h.m,h.key,h.nodup,fun t=> ?_,h.root,fun f o ho=> ?_,h.bb,h.bf,h.ff,h.gM,fun b hb=>hI b (h.aV b hb)⟩
 ·have hs:=h.slot t
  generalize ae st.fr t=s at hs
  cases s<;>simp only [aP] at hs⊢ <;>first|exact hs|skip
  exact ⟨⟨hs.1.1,fun hp=>by rw [h1,h3];exact hs.1.2 hp⟩,⟨by rcases hs.2.aV with ⟨x,y⟩|x;exact .inl ⟨by rw [h1];exact x,hP _ y⟩;exact .inr (hI _ x),hs.2.obj,hs.2.free⟩⟩
 ·obtain ⟨I,cells,g1,g2,g3,g4,g5⟩:=(h.dA f o ho).row
  refine ⟨I,cells,g1,g2,g3,g4,fun ax hb=> ?_⟩
  obtain ⟨k1,k2,k3⟩:=g5 ax hb
  refine ⟨?_,k2,fun hc hz j hj=>k3 (by have hc:f∈Z'.aY:=hc;rw [h2] at hc;exact hc) hz j hj⟩
  rcases k1 with ⟨x,y⟩|x
  ·exact .inl ⟨by rw [h2];exact x,hP _ y⟩
  ·exact .inr (hI _ x)
theorem aO.narrow {e:Env} {st:St} {a:Act} {w w':World} {bs:List Nat} (h:aO c (Z.outs bs) e st a w) (g:bH w w') (hs:w.heap.size<w'.heap.size):aO c (Z.outs (w.heap.size::bs)) e st a w':=by
 have h':=h.grow g
 have oa: ∀b,b<w.heap.size→(Z.outs bs).In b→(Z.outs (w.heap.size::bs)).In b:=fun b hb hi=>⟨hi.1,by simp only [List.mem_cons,not_or];exact ⟨by omega,hi.2⟩⟩
 have CG: ∀b,b<w.heap.size→(Z.outs bs).Pr b→(Z.outs (w.heap.size::bs)).Pr b:=fun b hb hi=>⟨hi.1,by simp only [List.mem_cons,not_or];exact ⟨by omega,hi.2⟩⟩
 refine ⟨h'.defers,h'.size,h'.m,h'.key,h'.nodup,fun t=> ?_,h'.root,fun f o ho=> ?_,h'.bb,h'.bf,h'.ff,h'.gM,fun b hb=> ?_⟩
 ·have hs:=h.slot t
  have oY:=h'.slot t
  generalize ae st.fr t=s at hs oY
  cases s<;>simp only [aP] at hs oY⊢ <;>first|exact oY|skip
  obtain ⟨o2,k1,_⟩:=hs.2.obj
  have hl:=aH k1
  exact ⟨oY.1,⟨by rcases oY.2.aV with ⟨x,y⟩|x;exact .inl ⟨x,CG _ hl y⟩;exact .inr (oa _ hl x),oY.2.obj,oY.2.free⟩⟩
 ·obtain ⟨I,cells,g1,g2,g3,g4,g5⟩:=(h'.dA f o ho).row
  refine ⟨I,cells,g1,g2,g3,g4,fun ax hb=> ?_⟩
  obtain ⟨k1,k2,k3⟩:=g5 ax hb
  refine ⟨?_,k2,k3⟩
  have hl:ax<w.heap.size:=by
   obtain ⟨I',Co,l1,l2,l3,l4,l5⟩:=(h.dA f o ho).row
   rcases l3.2 with ⟨hv,_⟩|⟨gg,cap,dH,hv,_,hg,_⟩
   ·rw [hv] at hb;simp [Value.ownBlock] at hb
   ·rw [hv] at hb
    simp only [Value.ownBlock,Option.some.injEq] at hb
    have:=aH hg
    omega
  rcases k1 with ⟨x,y⟩|x
  ·exact .inl ⟨x,CG _ hl y⟩
  ·exact .inr (oa _ hl x)
 ·refine ⟨(h.aV b (by omega)).1,?_⟩
  simp only [List.mem_cons,not_or]
  exact ⟨by omega,(h.aV b (by omega)).2⟩
def FD (b:Nat):Value:= .pointer (some ⟨b,0,none⟩)
def lp (ops:Array Oper) (i:Nat):Option Nat:=match ops[i]? with
 |some o=>o.dst
 |none=>none
def kM (ops:Array Oper):List (Nat×Nat)→Act→Act
 |[],a=>a
 |p::r,a=>(kM ops r a).put (lp ops p.1) (FD p.2)
structure FE (c:Ctx) (Z:aJ) (ops:Array Oper) (e:Env) (w:World) (p:Nat×Nat):Prop where
 row: ∃o t I d arr T,ops[p.1]? =some o∧wC o=true∧o.op= .alloc t∧c.tv t=some I∧o.dst=some d∧w.heap[p.2]? =some (.cells arr T (0,0))∧ ∀e':Env,af e' arr.toList I.zero
 free: ∀off,e.φ p.2 off=none
 aV:Z.In p.2
theorem nN {o:Oper} (h:wC o=true): ∃t d,o.op= .alloc t∧o.dst=some d∧o.guard=none∧ ∀e∈o.after,Region.binds .any e=false:=by
 unfold wC at h
 split at h
 ·rename_i t d h1 h2 h3
  refine ⟨t,d,h1,h2,h3,fun e he=> ?_⟩
  have:=List.all_eq_true.1 h e (by simpa using he)
  simpa [ln] using this
 ·cases h
theorem yP {t:TypeId} {I:TI} (hI:c.tv t=some I) (hT:fp P c.ti): ∃i z,P.info? t=some i∧i.zero=some z∧ ∀e:Env,af e z.cells.toList I.zero:=by
 obtain ⟨jF,hc⟩:=aN hI
 obtain ⟨d,i,h1,h2,h3,h4⟩:=hT t I jF
 suffices hz: ∃z,i.zero=some z∧ ∀e:Env,af e z.cells.toList I.zero by
  obtain ⟨z,h5,h6⟩:=hz
  exact ⟨i,z,h2,h5,h6⟩
 cases d<;>simp only [jD] at h4
 case struct fs=>obtain ⟨_,_,_,_,_,_,cs,hz,hl,_⟩:=h4;exact ⟨_,hz,fun e=>by simpa [Value.cells] using eK hl⟩
 case tuple ts=>exact absurd hc h4.2.1
 case slice el=>obtain ⟨_,_,_,_,_,hz,hl,_⟩:=h4;exact ⟨_,hz,fun e=>by rw [hl];exact ⟨[.slice none 0 0],[],rfl,rfl,rfl⟩⟩
 case array n el=>obtain ⟨_,_,_,_,_,_,_,hl,hz⟩:=h4;exact ⟨_,hz,fun e=>by rw [hl];exact ⟨aD dW.zero,[],by simp [Value.cells],rfl,rfl⟩⟩
 case bool=>obtain ⟨_,_,_,_,hl,hz⟩:=h4;exact ⟨_,hz,fun e=>by rw [hl];exact ⟨[.bool false],[],rfl,⟨rfl,.b _⟩,rfl⟩⟩
 case int k=>obtain ⟨_,_,_,_,hl,hz⟩:=h4;exact ⟨_,hz,fun e=>by rw [hl];exact ⟨[.int k 0],[],rfl,⟨rfl,.i _ _⟩,rfl⟩⟩
 case string=>
  obtain ⟨_,_,_,_,hl,b,hz,hb⟩:=h4
  refine ⟨_,hz,fun e=>by rw [hl];refine ⟨[.string b],[],rfl,⟨rfl,?_⟩,rfl⟩;rw [←hb];exact .s b⟩
 all_goals
  obtain ⟨_,_,_,_,v,hz,hv,hl⟩:=h4
  refine ⟨v,hz,fun e=> ?_⟩
  have:v.cells.toList=[v]:=by cases v<;>simp_all [Value.cells,Value.oneCell']
  rw [this];exact eK hl
theorem qQ {o:Oper} (hs: ∀cs b,o.op≠ .select cs b) (a:Act): ∀(pd:List (Nat×Nat)),(∀p∈pd,∀d,lp ops p.1=some d→d∉o.looksAt ops)→
 execOp (kM ops pd a).eval o=execOp a.eval o∧Region.wanted o (yielded ops (kM ops pd a).tmps)=Region.wanted o (yielded ops a.tmps)
 |[],_=>⟨rfl,rfl⟩
 |p::r,h=>by
  obtain ⟨h1,h2⟩:=qQ hs a r (fun q hq=>h q (by simp [hq]))
  have hp:=h p (by simp)
  exact ⟨(execOp_put o hs _ _ _ hp).trans h1,(wanted_put o _ _ _ hp).trans h2⟩
theorem pE (a:Act) (y:Option Nat) (v:Value): ∀(pd:List (Nat×Nat)),(∀p∈pd,∀d,lp ops p.1=some d→y≠some d)→(kM ops pd a).put y v=kM ops pd (a.put y v)
 |[],_=>rfl
 |p::r,h=>by
  simp only [kM]
  rw [Act.put_comm _ _ _ (fun d hd=>h p (by simp) d hd),pE a y v r (fun q hq=>h q (by simp [hq]))]
theorem FF {j:Nat} {oj:Oper} {x:Option Nat} {v:Value} (hj:ops[j]? =some oj) (h1: ∀d,x=some d→d∉oj.looksAt ops) (h2: ∀d,x=some d→oj.dst≠some d)
 (IU: ∀cs b,oj.op≠ .select cs b) {K:Act→World→Prop} {a:Act} {w:World} (h:wpOp P ops (lm N) j K a w):
 wpOp P ops (lm N) j (fun a' w'=> ∃Ks,a'=Ks.put x v∧K Ks w') (a.put x v) w:=by
 unfold wpOp at *
 simp only [hj] at *
 rw [wanted_put oj a x v h1]
 split
 ·rename_i hw
  simp only [hw,if_true] at h
  rcases h with h|⟨Kq,DD⟩
  case inr=>obtain ⟨_,_,hf⟩:=DD;exact hf.elim
  refine .inl ?_
  unfold Oper.wp at *
  rw [execOp_put oj IU a x v h1]
  generalize (execOp a.eval oj).run P w=r at *
  cases r with
  |ok n w'=>
   cases n<;>simp only [Oper.upon] at h⊢
   case value u=>exact ⟨_,Act.put_comm a v u h2,h⟩
   case skip=>exact ⟨_,Act.put_comm a v undef h2,h⟩
   case defer d=>
    refine ⟨{a.put oj.dst undef with defers:=d::(a.put oj.dst undef).defers},?_,by simpa [Act.put_defers] using h⟩
    have:=Act.put_comm a v undef h2
    cases x<;>cases hd:oj.dst<;>simp_all [Act.put]
   case enter f args=>
    refine Calls.mono h fun y p8 he=> ?_
    cases y with
    |returned u=>exact ⟨_,Act.put_comm a v u h2,he⟩
    |panicked c=>exact he
    |outgrown=>exact he
   case row row args=>exact Rows.mono h fun u p8 he=>⟨_,Act.put_comm a v u h2,he⟩
  |halt y w'=>
   cases y<;>simp only [Oper.upon] at h⊢
   case panic u=>exact h
 ·rename_i hw
  simp only [hw] at h
  exact ⟨_,Act.put_comm a v undef h2,h⟩
theorem zK {j:Nat} {oj:Oper} (hj:ops[j]? =some oj) (IU: ∀cs b,oj.op≠ .select cs b) {K:Act→World→Prop} {a:Act} {w:World} (h:wpOp P ops (lm N) j K a w): ∀(pd:List (Nat×Nat)),
 (∀p∈pd,∀d,lp ops p.1=some d→d∉oj.looksAt ops∧oj.dst≠some d)→wpOp P ops (lm N) j (fun a' w'=> ∃Ks,a'=kM ops pd Ks∧K Ks w') (kM ops pd a) w
 |[],_=>wpOp_mono (fun a' w' hk=>⟨a',rfl,hk⟩) h
 |p::r,hp=>by
  have h1:=zK hj IU h r (fun q hq=>hp q (by simp [hq]))
  have h2:=FF (v:=FD p.2) hj (fun d hd=>(hp p (by simp) d hd).1) (fun d hd=>(hp p (by simp) d hd).2) IU h1
  refine wpOp_mono ?_ h2
  rintro a' w' ⟨a1,rfl,a2,rfl,hk⟩
  exact ⟨a2,rfl,hk⟩
theorem qm: ∀{l m:List Nat},l.Nodup→(∀x∈l,x∈m)→l.length≤m.length
 |[],m,_,_=>Nat.zero_le _
 |x::l,m,hn,hs=>by
  have hn:=List.nodup_cons.1 hn
  have h1:l.length≤(m.erase x).length:=qm hn.2 fun y hy=>(List.mem_erase_of_ne (fun he=>hn.1 (by rw [←he];exact hy))).2 (hs y (by simp [hy]))
  have h2:=List.length_erase_of_mem (hs x (by simp))
  have h3:0<m.length:=List.length_pos_of_mem (hs x (by simp))
  simp only [List.length_cons];omega
theorem xp {x b:Nat} {o:Oper} (N6:lp ops x=o.dst) (a:Act) (pr:List (Nat×Nat)): ∀(pl:List (Nat×Nat)),(∀p∈pl++pr,∀dd,lp ops p.1=some dd→o.dst≠some dd)→kM ops (pl++(x,b)::pr) a=kM ops (pl++pr) (a.put o.dst (FD b))
 |[],h=>by
  simp only [List.nil_append,kM,N6]
  exact pE a o.dst (FD b) pr (fun p hp=>h p (by simp [hp]))
 |q::pl,h=>by
  simp only [List.cons_append,kM]
  rw [xp N6 a pr pl (fun p hp=>h p (by simp only [List.cons_append,List.mem_cons];exact .inr hp))]
theorem DF.congr {listed:Array Bool} {l l':List Nat} (h:DF ops listed l) (he: ∀i,i∈l↔i∈l'):DF ops listed l':=⟨h.size,fun i hi=>by rw [h.mem i hi,he]⟩
theorem xq {o:Oper}: ∀(rest D:List Nat),jy c ops.toList o D rest=true→ ∀y∈rest,∀p,ops[y]? =some p→wC p=true→o.apart ops p=true:=by
 intro rest
 induction rest with
 |nil=>intro D _ y hy;cases hy
 |cons z rest ih=>
  intro D h y hy p hp tm
  simp only [jy] at h
  cases hz:ops.toList[z]? with
  |none=>simp [hz] at h
  |some q=>
   simp only [hz] at h
   cases he:ou q (aB D) with
   |true=>
    simp only [he,cond_true] at h
    rcases List.mem_cons.1 hy with rfl|hy
    ·exfalso
     have IK:ops[y]? =some q:=by simpa using hz
     rw [IK] at hp;cases hp
     obtain ⟨_,_,_,_,_,b7⟩:=nN tm
     unfold ou at he
     obtain ⟨ed,FC,hb⟩:=List.any_eq_true.1 he
     simp only [Bool.and_eq_true,ln] at hb
     rw [b7 ed (by simpa using FC)] at hb
     exact absurd hb.1 (by simp)
    ·exact ih _ h y hy p hp tm
   |false=>
    simp only [he,cond_false,Bool.and_eq_true] at h
    rcases List.mem_cons.1 hy with rfl|hy
    ·have IK:ops[y]? =some q:=by simpa using hz
     rw [IK] at hp;cases hp
     exact nM h.1.1
    ·exact ih _ h.2 y hy p hp tm
theorem sL {o p:Oper} {y:Nat} (hp:ops[y]? =some p) (h:p.apart ops o=true∨o.apart ops p=true): ∀d,lp ops y=some d→d∉o.looksAt ops∧o.dst≠some d:=by
 intro d hd
 have hd:p.dst=some d:=by simpa [lp,hp] using hd
 rcases h with h|h
 ·obtain ⟨h1,h2,h3⟩:=Oper.apart_spec h
  exact ⟨h1 d hd,h2 d hd⟩
 ·obtain ⟨h1,h2,h3⟩:=Oper.apart_spec h
  exact ⟨h3 d hd,fun he=>h2 d he hd⟩
theorem FE.later {Z:aJ} {bs:List Nat} {e e':Env} {w w':World} {p:Nat×Nat} (h:FE c Z ops e w p) (hb:p.2∈bs) (t:Trans (Z.outs bs).In e.φ w e'.φ w'):FE c Z ops e' w' p:=by
 obtain ⟨o,ty,I,d,arr,T,h1,h2,h3,h4,h5,h6,h7⟩:=h.row
 have hn: ¬(Z.outs bs).In p.2:=fun hh=>hh.2 hb
 exact ⟨⟨o,ty,I,d,arr,T,h1,h2,h3,h4,h5,by rw [t.heap _ hn (aH h6)];exact h6,h7⟩,fun off=>by rw [t.free _ off hn];exact h.free off,h.aV⟩
theorem Trans.wide {Z Z':Nat→Prop} {φ φ':Ph} {w w':World} (t:Trans Z φ w φ' w') (h: ∀b,Z b→Z' b):Trans Z' φ w φ' w':=
 ⟨t.ph,fun b hb hl=>t.heap b (fun hz=>hb (h b hz)) hl,fun b o hb=>t.free b o (fun hz=>hb (h b hz)),t.size,t.rest⟩
theorem FG (hG:Good P c) (xn: ∀(j:Nat) (o:Oper) cs b,ops[j]? =some o→o.op≠ .select cs b) {φ0:Ph} {w0:World} (hN: ∀a' w',Out c Z K r φ0 w0 a' w'→N a' w'):
 ∀(m:Nat) (rest pre:List Nat) (pd:List (Nat×Nat)) (l:List Oper) (listed:Array Bool) (e:Env) (st:St) (a:Act) (w:World),2 *rest.length-pd.length≤m→aO c (Z.outs (pd.map (·.2))) e st a w→nT c ops.toList l st K=some r→Trans Z.In φ0 w0 e.φ w→ir ops.toList rest=some l→
  kX c ops.toList pre rest=true→DF ops listed (pd.map (·.1)++pre)→(∀i,i<ops.size→i∈pre∨i∈rest)→(∀i∈pre,i<ops.size)→(∀p∈pd,p.1∈rest)→(pd.map (·.1)).Nodup→(pd.map (·.2)).Nodup→(∀p∈pd,FE c Z ops e w p)→
  pd.length≤rest.length→tJ P c ops N e.φ (rest.length-pd.length) listed (kM ops pd a) w:=by
 intro m
 induction m with
 |zero=>
  intro rest pre pd l listed e st a w hm h hK ht hp hd hL iV DG CG wg Af BB hle
  cases rest with
  |cons x rest=>simp only [List.length_cons] at hm hle;omega
  |nil=>
   cases pd with
   |cons p pd=>simp at hle
   |nil=>
    cases hp
    have h':aO c Z e st a w:=h.qP (fun b hb=>hb.1) (fun b hb=>hb.1) rfl rfl rfl rfl
    refine ⟨?_,hN a w ⟨e,st,h',ht,hK⟩⟩
    cases hr:Region.ready .any ops listed with
    |nil=>rfl
    |cons i is=>
     have hi:i∈Region.ready .any ops listed:=by rw [hr];simp
     obtain ⟨h1,o,ho,_⟩:=mem_ready.1 hi
     have dJ:i<ops.size:=(Array.getElem?_eq_some_iff.1 ho).1
     exact absurd (by simpa using (iV i dJ).resolve_right (by simp)) ((hL.pD dJ).1 h1)
 |succ m Lf=>
  intro rest pre pd l listed e st a w hm h hK ht hp hd hL iV DG CG wg Af BB hle
  cases rest with
  |nil=>
   cases pd with
   |cons p pd=>simp at hle
   |nil=>exact Lf [] pre [] l listed e st a w (by simp) h hK ht hp hd hL iV DG CG wg Af BB hle
  |cons x rest=>
   simp only [ir] at hp
   cases IV:ops.toList[x]? with
   |none=>simp [IV] at hp
   |some o=>
    cases Ex:ir ops.toList rest with
    |none=>simp [IV,Ex] at hp
    |some l'=>
     simp only [IV,Ex,Option.some.injEq] at hp
     subst hp
     have hx:ops[x]? =some o:=by simpa using IV
     have H4:x<ops.size:=(Array.getElem?_eq_some_iff.1 hx).1
     have PR:=hd
     simp only [kX,IV] at hd
     simp only [Bool.and_eq_true,Bool.not_eq_true'] at hd
     obtain ⟨⟨⟨⟨d1,d2⟩,d3⟩,d4⟩,d5⟩:=hd
     have GH:x∉pre:=by rw [←aG,d2];simp
     have MP:x∉rest:=by rw [←aG,d3];simp
     have zL: ∀i,i<ops.size→i∈x::pre∨i∈rest:=by
      intro i hi
      rcases iV i hi with h1|h1
      ·exact .inl (by simp [h1])
      ·rcases List.mem_cons.1 h1 with h1|h1
       ·exact .inl (by simp [h1])
       ·exact .inr h1
     have GI: ∀i∈x::pre,i<ops.size:=by
      intro i hi
      rcases List.mem_cons.1 hi with rfl|hi
      ·exact H4
      ·exact DG i hi
     have H5:=hK
     simp only [nT] at hK
     have DH: ∀p∈pd,∃q,ops[p.1]? =some q∧wC q=true:=fun p hp=>by
      obtain ⟨q,_,_,_,_,_,h1,h2,_⟩:=(BB p hp).row
      exact ⟨q,h1,h2⟩
     unfold zn at hK
     obtain ⟨aR,go,h',hK,hw⟩:=xa h hK
     have GJ: ∀cs b,o.op≠ .select cs b:=fun cs b=>xn x o cs b hx
     by_cases Lg:x∈pd.map (·.1)
     ·
      obtain ⟨⟨x',b⟩,Lh,MQ⟩:=List.mem_map.1 Lg
      have MQ:x'=x:=MQ
      subst MQ
      obtain ⟨o',t,I,d,arr,T,k1,k2,k3,k4,k5,k6,k7⟩:=(BB _ Lh).row
      rw [hx] at k1;cases k1
      obtain ⟨_,_,_,_,PS,b7⟩:=nN k2
      have PT:go=true:=by
       rw [←hw];simp [Region.wanted,PS]
      subst PT
      have wH:(hU o&&!eX c o)=false:=by simp [hU,k3]
      simp only [wH,cond_false] at d4
      obtain ⟨pl,pr,rfl⟩:=List.append_of_mem Lh
      have PU:b∉(pl++pr).map (·.2):=by
       have:((pl++(x',b)::pr).map (·.2)).Nodup:=Af
       simp only [List.map_append,List.map_cons,List.nodup_append,List.nodup_cons,List.mem_cons] at this
       simp only [List.map_append,List.mem_append,not_or]
       exact ⟨fun hm=>this.2.2 b hm b (by simp) rfl,this.2.1.1⟩
      have N7:x'∉(pl++pr).map (·.1):=by
       have:((pl++(x',b)::pr).map (·.1)).Nodup:=wg
       simp only [List.map_append,List.map_cons,List.nodup_append,List.nodup_cons,List.mem_cons] at this
       simp only [List.map_append,List.mem_append,not_or]
       exact ⟨fun hm=>this.2.2 x' hm x' (by simp) rfl,this.2.1.1⟩
      have xr: ∀p∈pl++pr,p∈pl++(x',b)::pr:=fun p hp=>by
       simp only [List.mem_append,List.mem_cons] at hp⊢
       rcases hp with hp|hp
       ·exact .inl hp
       ·exact .inr (.inr hp)
      have iB:aO c (Z.outs ((pl++pr).map (·.2))) e aR a w:=by
       refine h'.qP (fun u hu=>⟨hu.1,fun hm=>hu.2 ?_⟩) (fun u hu=>⟨hu.1,fun hm=>hu.2 ?_⟩) rfl rfl rfl rfl<;>
       ·obtain ⟨p,hp,rfl⟩:=List.mem_map.1 hm
        exact List.mem_map.2 ⟨p,xr p hp,rfl⟩
      have FH:b∈(pl++(x',b)::pr).map (·.2):=by simp
      have jj:iT (Z.outs ((pl++pr).map (·.2))) e w aR (FD b) (.box I.zero):=by
       refine ⟨b,by rw [kH (k7 e).nb];rfl,⟨⟨(BB _ Lh).aV,PU⟩,⟨_,k6,rfl,k7 e⟩,(BB _ Lh).free⟩,fun t' cJ oC pS=> ?_,fun f o' oB pS=> ?_⟩
       ·have hs:=h'.slot t'
        rw [oC] at hs
        rcases hs.2.aV with ⟨_,u⟩|u
        ·exact u.2 (by rw [pS];exact FH)
        ·exact u.2 (by rw [pS];exact FH)
       ·obtain ⟨I',cells,g1,g2,g3,g4,g5⟩:=(h'.dA f o' oB).row
        rcases (g5 b pS).1 with ⟨_,u⟩|u
        ·exact u.2 FH
        ·exact u.2 FH
      simp only [cond_true,IB,k3,k4] at hK
      obtain ⟨e2,cn,j1,j2,j3⟩:=bm iB jj hK
      have H6:kM ops (pl++(x',b)::pr) a=kM ops (pl++pr) (a.put o.dst (FD b)):=by
       have qg: ∀p∈pl++pr,∀dd,lp ops p.1=some dd→o.dst≠some dd:=by
        intro p hp dd PV
        obtain ⟨q,hq,tm⟩:=DH p (xr p hp)
        have yQ:p.1∈rest:=by
         rcases List.mem_cons.1 (CG p (xr p hp)) with he|he
         ·exact absurd (List.mem_map.2 ⟨p,hp,he⟩) N7
         ·exact he
        have:=List.all_eq_true.1 d4 p.1 yQ
        have Kt:ops.toList[p.1]? =some q:=by simpa using hq
        simp only [Kt,tm,cond_true,Bool.and_eq_true] at this
        exact (sL hq (.inl (nM this.1)) dd PV).2
       exact xp (by simp [lp,hx]) a pr pl qg
      rw [H6,←j3]
      have hlen:(x'::rest).length-(pl++(x',b)::pr).length=rest.length-(pl++pr).length:=by simp only [List.length_cons,List.length_append];omega
      rw [hlen]
      refine Lf rest (x'::pre) (pl++pr) l' listed e2 cn _ w ?_ j1 j2 (by rw [j3];exact ht) Ex d5 ?_ zL GI ?_ ?_ ?_ ?_ ?_
      ·simp only [List.length_cons,List.length_append] at hm⊢;omega
      ·refine hL.congr (fun i=> ?_)
       simp only [List.map_append,List.map_cons,List.mem_append,List.mem_cons]
       constructor
       ·rintro ((h1|h1|h1)|h1)
        ·exact .inl (.inl h1)
        ·exact .inr (.inl h1)
        ·exact .inl (.inr h1)
        ·exact .inr (.inr h1)
       ·rintro ((h1|h1)|h1|h1)
        ·exact .inl (.inl h1)
        ·exact .inl (.inr (.inr h1))
        ·exact .inl (.inr (.inl h1))
        ·exact .inr h1
      ·intro p hp
       rcases List.mem_cons.1 (CG p (xr p hp)) with he|he
       ·exact absurd (List.mem_map.2 ⟨p,hp,he⟩) N7
       ·exact he
      ·have:((pl++(x',b)::pr).map (·.1)).Nodup:=wg
       refine List.Nodup.sublist ?_ this
       exact List.Sublist.map _ (List.Sublist.append_left (List.sublist_cons_self _ _) pl)
      ·have:((pl++(x',b)::pr).map (·.2)).Nodup:=Af
       refine List.Nodup.sublist ?_ this
       exact List.Sublist.map _ (List.Sublist.append_left (List.sublist_cons_self _ _) pl)
      ·intro p hp
       obtain ⟨q1,q2,q3⟩:=BB p (xr p hp)
       exact ⟨q1,fun off=>by rw [j3];exact q2 off,q3⟩
      ·simp only [List.length_cons,List.length_append] at hle⊢;omega
     ·have yQ: ∀p∈pd,p.1∈rest:=fun p hp=>by
       rcases List.mem_cons.1 (CG p hp) with he|he
       ·exact absurd (List.mem_map.2 ⟨p,hp,he⟩) Lg
       ·exact he
      have JK:pd.length≤rest.length:=by
       have h1:(pd.map (·.1)).length≤rest.length:=qm wg (fun i hi=>by obtain ⟨p,hp,rfl⟩:=List.mem_map.1 hi;exact yQ p hp)
       simpa using h1
      have Ku:(x::rest).length-pd.length=(rest.length-pd.length)+1:=by simp only [List.length_cons];omega
      rw [Ku]
      have HQ:x∉pd.map (·.1)++pre:=by simp only [List.mem_append,not_or];exact ⟨Lg,GH⟩
      have vP:x∈Region.ready .any ops listed:=by
       refine mem_ready.2 ⟨(hL.pD H4).2 HQ,o,hx,fun ed FC hb=> ?_⟩
       have:=List.all_eq_true.1 d1 ed (by simpa using FC)
       simp only [ln,hb,Bool.not_true,Bool.false_or] at this
       have hm:=(aG _ _).1 this
       exact (hL.done (DG _ hm)).2 (by simp [hm])
      have next: ∀(e':Env) (cn:St) (a':Act) (w':World),aO c (Z.outs (pd.map (·.2))) e' cn a' w'→Trans (Z.outs (pd.map (·.2))).In e.φ w e'.φ w'→nT c ops.toList l' cn K=some r→tJ P c ops N e.φ (rest.length-pd.length) (listed.setIfInBounds x true) (kM ops pd a') w':=by
       intro e' cn a' w' h1 t1 jk
       refine AY t1.ph _ _ _ _ ?_
       refine Lf rest (x::pre) pd l' _ e' cn a' w' ?_ h1 jk (ht.trans (t1.wide fun b hb=>hb.1)) Ex d5 ((hL.set H4).congr fun i=> ?_) zL GI yQ wg Af (fun p hp=>(BB p hp).later (List.mem_map.2 ⟨p,hp,rfl⟩) t1) JK
       ·simp only [List.length_cons] at hm;omega
       ·simp only [List.mem_cons,List.mem_append]
        constructor
        ·rintro (h1|h1|h1)
         ·exact .inr (.inl h1)
         ·exact .inl h1
         ·exact .inr (.inr h1)
        ·rintro (h1|h1|h1)
         ·exact .inr (.inl h1)
         ·exact .inl h1
         ·exact .inr (.inr h1)
      cases wH:hU o&&!eX c o with
      |true=>
       simp only [wH,cond_true] at d4
       have qg: ∀p∈pd,∀dd,lp ops p.1=some dd→dd∉o.looksAt ops∧o.dst≠some dd:=by
        intro p hp
        obtain ⟨q,hq,tm⟩:=DH p hp
        exact sL hq (.inr (xq rest [x] d4 p.1 (yQ p hp) q hq tm))
       obtain ⟨hex,H3⟩:=qQ GJ a pd (fun p hp d hd=>(qg p hp d hd).1)
       obtain ⟨D,D1,D2,D3,D4⟩:=tL rest [x] d4 (fun y hy b7=>absurd (by simpa using hy) b7)
       have mm: ∀j oj,ops[j]? =some oj→j∉D→j≠x→listed.getD j true=false→o.apart ops oj=true∧(eI c o=true→still c o=false→l7 c o ops j=true):=by
        intro j oj GG La PW FB
        have Kv:j<ops.size:=(Array.getElem?_eq_some_iff.1 GG).1
        have PX:j∈rest:=by
         rcases zL j Kv with h1|h1
         ·rcases List.mem_cons.1 h1 with h1|h1
          ·exact absurd h1 PW
          ·exact absurd (by simp [h1]) ((hL.pD Kv).1 FB)
         ·exact h1
        obtain ⟨p,Hm,xS,PY⟩:=D4 j PX La
        rw [GG] at Hm
        cases Hm
        exact ⟨xS,fun hl hs=>by simp [l7,GG,PY hl hs]⟩
       have tK: ∀d∈D,listed.getD d false=false:=by
        have MR: ∀p∈pd,p.1∉D:=by
         intro p hp PZ
         obtain ⟨q,hq,tm⟩:=DH p hp
         obtain ⟨ed,FC,hb,_⟩:=D3 p.1 q PZ (fun he=>Lg (List.mem_map.2 ⟨p,hp,he⟩)) hq
         obtain ⟨_,_,_,_,_,b7⟩:=nN tm
         rw [b7 ed FC] at hb;cases hb
        intro d hd
        have Jd:d∉pd.map (·.1)++pre:=by
         simp only [List.mem_append,not_or]
         constructor
         ·intro hm
          obtain ⟨p,hp,rfl⟩:=List.mem_map.1 hm
          exact MR p hp hd
         ·rcases D2 d hd with h1|h1
          ·have h1:d=x:=by simpa using h1
           rw [h1];exact GH
          ·exact fun hp=>nn rest (x::pre) d5 d h1 (by simp [hp])
        by_cases AQ:d<ops.size
        ·cases hg:listed.getD d false with
         |false=>rfl
         |true=>exact absurd ((hL.done AQ).1 hg) Jd
        ·have hl: ¬d<listed.size:=by rw [hL.size];exact AQ
         simp [hl]
       cases go with
       |true=>
        simp only [cond_true] at hK
        obtain ⟨v,hv,e2,cn,k1,k2,k3⟩:=(yH (Q:=lm N) hG h' hK).Mq (by simp only [Bool.and_eq_true] at wH;exact wH.1) (by simp only [Bool.and_eq_true,Bool.not_eq_true'] at wH;exact wH.2)
        refine sK D3 hx xn (rest.length-pd.length) listed _ w mm tK vP (.inl ⟨by rw [H3];exact hw,fun w' hg=>by rw [hex];exact hv w' hg⟩) h.gM ?_
        rw [pE a o.dst v pd (fun p hp d hd=>(qg p hp d hd).2)]
        exact next e2 cn _ w k1 k2 k3
       |false=>
        simp only [cond_false] at hK
        obtain ⟨e2,cn,k1,k2,k3⟩:=bm (v:=undef) (s:= .skip) h' ⟨rfl,trivial⟩ hK
        refine sK D3 hx xn (rest.length-pd.length) listed _ w mm tK vP (.inr ⟨by rw [H3];exact hw,rfl⟩) h.gM ?_
        rw [pE a o.dst undef pd (fun p hp d hd=>(qg p hp d hd).2)]
        exact next e2 cn _ w k1 (by rw [k3];exact .refl _ _ _) k2
      |false=>
       simp only [wH,cond_false] at d4
       have qg: ∀p∈pd,∀dd,lp ops p.1=some dd→dd∉o.looksAt ops∧o.dst≠some dd:=by
        intro p hp
        obtain ⟨q,hq,tm⟩:=DH p hp
        have:=List.all_eq_true.1 d4 p.1 (yQ p hp)
        have Kt:ops.toList[p.1]? =some q:=by simpa using hq
        simp only [Kt,tm,cond_true,Bool.and_eq_true] at this
        exact sL hq (.inl (nM this.1))
       refine ⟨fun HZ=>(by rw [HZ] at vP;cases vP),fun i hi=> ?_⟩
       obtain ⟨MU,oi,FI,H7⟩:=mem_ready.1 hi
       have H8:i<ops.size:=(Array.getElem?_eq_some_iff.1 FI).1
       have oa:=(hL.pD H8).1 MU
       simp only [List.mem_append,not_or] at oa
       by_cases BG:i=x
       ·subst BG
        rw [hx] at FI;cases FI
        have iB:wpOp P ops (lm N) i (fun a' w'=>(∀oi,l7 c oi ops i=true→cu c oi w w')∧ ∃e2 cn,aO c (Z.outs (pd.map (·.2))) e2 cn a' w'∧Trans (Z.outs (pd.map (·.2))).In e.φ w e2.φ w'∧nT c ops.toList l' cn K=some r) a w:=by
         unfold wpOp
         simp only [hx]
         rw [hw]
         cases go with
         |true=>
          simp only [cond_true] at hK
          simp only [if_true]
          left
          have hd:=yH (Q:=lm N) hG h' hK
          cases BC:B1 c o with
          |true=>
           simp only [B1,Bool.or_eq_true] at BC
           refine Oper.wp_mono ?_ (hd.Mr BC)
           rintro a' w' ⟨hg,e2,cn,k1,k2,k3⟩
           exact ⟨fun _ _=>hg.for,e2,cn,k1,k2,k3⟩
          |false=>
           by_cases Et: ∃oi,n6 oi o=true
           ·obtain ⟨QU,Et⟩:=Et
            refine Oper.wp_mono ?_ (J1 (Q:=lm N) hG h' hK Et)
            rintro a' w' ⟨hg,e2,cn,k1,k2,k3⟩
            refine ⟨fun oi hh=> ?_,e2,cn,k1,k2,k3⟩
            have FI:n6 oi o=true:=by simpa [l7,hx,BC] using hh
            exact yO Et FI hg
           ·refine Oper.wp_mono ?_ hd.wp
            rintro a' w' ⟨e2,cn,k1,k2,k3⟩
            exact ⟨fun oi hh=>absurd ⟨oi,by simpa [l7,hx,BC] using hh⟩ Et,e2,cn,k1,k2,k3⟩
         |false=>
          simp only [cond_false] at hK
          simp only [Bool.false_eq_true,if_false]
          obtain ⟨e2,cn,k1,k2,k3⟩:=bm (v:=undef) (s:= .skip) h' ⟨rfl,trivial⟩ hK
          exact ⟨fun _ _=>(bH.refl w).for,e2,cn,k1,by rw [k3];exact .refl _ _ _,k2⟩
        refine wpOp_mono ?_ (zK hx GJ iB pd qg)
        rintro a' w' ⟨a2,rfl,hg,e2,cn,k1,k2,k3⟩
        exact ⟨⟨hg,fun b o v hv=>k1.gM b o v (k2.ph b o v hv)⟩,next e2 cn a2 w' k1 k2 k3⟩
       ·have MW:i∈rest:=by
         rcases zL i H8 with h1|h1
         ·rcases List.mem_cons.1 h1 with h1|h1
          ·exact absurd h1 BG
          ·exact absurd h1 oa.2
         ·exact h1
        have yR:=List.all_eq_true.1 d4 i MW
        have MX:ops.toList[i]? =some oi:=by simpa using FI
        simp only [MX] at yR
        cases tm:wC oi with
        |false=>
         exfalso
         simp only [tm,cond_false] at yR
         unfold ou at yR
         obtain ⟨ed,FC,hb⟩:=List.any_eq_true.1 yR
         simp only [Bool.and_eq_true,ln,Bool.or_eq_true,Bool.not_eq_true'] at hb
         obtain ⟨ng,lS⟩:=hb
         have DI:=H7 ed (by simpa using FC) ng
         have yv:ed.on∉pd.map (·.1)++pre:=by
          rcases lS with lS|⟨lS,Hz⟩
          ·rw [Nat.eq_of_beq_eq_true lS];exact HQ
          ·simp only [List.mem_append,not_or]
           refine ⟨fun hm=> ?_,fun hp=>nn rest (x::pre) d5 _ ((aG _ _).1 lS) (by simp [hp])⟩
           obtain ⟨p,hp,he⟩:=List.mem_map.1 hm
           obtain ⟨q,hq,P0⟩:=DH p hp
           have Kt:ops.toList[ed.on]? =some q:=by rw [←he];simpa using hq
           simp [I9,Kt,P0] at Hz
         by_cases j0:ed.on<ops.size
         ·exact yv ((hL.done j0).1 DI)
         ·have:listed.getD ed.on false=false:=by
           have hl: ¬ed.on<listed.size:=by rw [hL.size];exact j0
           simp [hl]
          rw [this] at DI;cases DI
        |true=>
         obtain ⟨t,d,q1,q2,q3,q4⟩:=nN tm
         have hI: ∃I,c.tv t=some I:=by
          simp only [tm,cond_true,Bool.and_eq_true,I8,q1] at yR
          cases P1:c.tv t with
          |none=>rw [P1] at yR;exact absurd yR.2 (by simp)
          |some I=>exact ⟨I,rfl⟩
         obtain ⟨I,hI⟩:=hI
         obtain ⟨inf,z,P2,Jf,P3⟩:=yP hI hG.ti
         have hg:bH w (w.alloc (.cells z.cells t)):= .alloc w _ _
         unfold wpOp
         simp only [FI]
         have H3:Region.wanted oi (yielded ops (kM ops pd a).tmps)=true:=by simp [Region.wanted,q3]
         simp only [H3,if_true]
         left
         have aX:(execOp (kM ops pd a).eval oi).run P w= .ok (.value (FD w.heap.size)) (w.alloc (.cells z.cells t)):=by
          simp [execOp,q1,Instr.alloc,zeroValue,typeInfo,P2,Jf,newVar,newRow,newObj,Sem.run,FD]
         unfold Oper.wp
         rw [aX]
         simp only [Oper.upon]
         refine ⟨⟨fun _ _=>hg.for,(h.grow hg).gM⟩,?_⟩
         have jZ:w.heap.size<(w.alloc (.cells z.cells t)).heap.size:=by simp
         have MY: ∀p∈pd,p.2<w.heap.size:=fun p hp=>by
          obtain ⟨_,_,_,_,_,_,_,_,_,_,_,k6,_⟩:=(BB p hp).row
          exact aH k6
         have H6:(kM ops pd a).put oi.dst (FD w.heap.size)=kM ops ((i,w.heap.size)::pd) a:=by simp [kM,lp,FI]
         rw [H6]
         have dJ:pd.length<rest.length:=by
          have h1:(i::pd.map (·.1)).length≤rest.length:=by
           refine qm (List.nodup_cons.2 ⟨oa.1,wg⟩) ?_
           intro j hj
           rcases List.mem_cons.1 hj with rfl|hj
           ·exact MW
           ·obtain ⟨p,hp,rfl⟩:=List.mem_map.1 hj;exact yQ p hp
          simp only [List.length_cons,List.length_map] at h1;omega
         have pT:rest.length-pd.length=(x::rest).length-((i,w.heap.size)::pd).length:=by simp only [List.length_cons];omega
         rw [pT]
         refine Lf (x::rest) pre ((i,w.heap.size)::pd) (o::l') _ e st a _ ?_ (h.narrow hg jZ) ?_ (ht.trans (hg.trans (fun b hb=>(h.aV b hb).1) _)) ?_ PR ?_ iV DG ?_ ?_ ?_ ?_ ?_
         ·simp only [List.length_cons] at hm⊢;omega
         ·exact H5
         ·simp [ir,IV,Ex]
         ·refine (hL.set H8).congr (fun j=> ?_)
          simp
         ·intro p hp
          rcases List.mem_cons.1 hp with rfl|hp
          ·exact List.mem_cons_of_mem _ MW
          ·exact CG p hp
         ·exact List.nodup_cons.2 ⟨oa.1,wg⟩
         ·refine List.nodup_cons.2 ⟨fun hm=> ?_,Af⟩
          obtain ⟨p,hp,he⟩:=List.mem_map.1 hm
          have:=MY p hp
          have he:p.2=w.heap.size:=he
          omega
         ·intro p hp
          rcases List.mem_cons.1 hp with rfl|hp
          ·refine ⟨⟨oi,t,I,d,z.cells,t,FI,tm,q1,hI,q2,eY w _,P3⟩,fun off=> ?_,(h.aV _ (Nat.le_refl _)).1⟩
           cases hp:e.φ w.heap.size off with
           |none=>rfl
           |some v=>
            have:=World.block_lt_of_cell? w _ (h.gM _ _ _ hp)
            simp at this
          ·obtain ⟨⟨o1,t1,I1,d1,MZ,T1,k1,k2,k3,k4,k5,k6,k7⟩,q5,q6⟩:=BB p hp
           exact ⟨⟨o1,t1,I1,d1,MZ,T1,k1,k2,k3,k4,k5,by rw [hg.kZ _ (aH k6)];exact k6,k7⟩,q5,q6⟩
         ·simp only [List.length_cons];omega
theorem xt (hG:Good P c) {ops:Array Oper} {l:List Oper} {ord:List Nat} (hd:ov c ops ord=true) (hp:ir ops.toList ord=some l) {Z:aJ} {e:Env} {st:St} {a:Act} {w:World} {R:Type} {K:St→Option R} {r:R} (h:aO c Z e st a w) (hK:nT c ops.toList l st K=some r):
 wpAny P .any ops (lm fun a' w'=>Out c Z K r e.φ w a' w') ops.size (Array.replicate ops.size false) a {w with drawn:=w.drawn+1}:=by
 simp only [ov,Bool.and_eq_true] at hd
 obtain ⟨⟨⟨JP,KY⟩,iV⟩,hd⟩:=hd
 have xn: ∀(j:Nat) (o:Oper) cs b,ops[j]? =some o→o.op≠ .select cs b:=by
  intro j o cs b ho he
  have:=List.all_eq_true.1 JP o (List.mem_of_getElem? (by simpa using ho:ops.toList[j]? =some o))
  simp [he] at this
 have GK:bH w {w with drawn:=w.drawn+1}:=⟨Nat.le_refl _,fun _ _=>rfl,rfl,rfl,rfl,fun _=>rfl⟩
 ·refine DC (c:=c) (φ:=e.φ) _ _ _ _ ?_
  have hlen:ord.length=ops.size:=by have:=Nat.eq_of_beq_eq_true KY;simpa using this
  rw [←hlen]
  have h0:aO c (Z.outs []) e st a {w with drawn:=w.drawn+1}:=(h.grow GK).qP (fun b hb=>⟨hb,by simp⟩) (fun b hb=>⟨hb,by simp⟩) rfl rfl rfl rfl
  refine FG hG xn (fun a' w' h=>h) (2 *ord.length) ord [] [] l _ e st a _ (by simp) h0 hK (GK.trans h.aV e.φ) hp hd ⟨by simp [hlen],fun i hi=> ?_⟩ (fun i hi=> .inr ((aG _ _).1 (List.all_eq_true.1 iV i (by simpa using hi)))) (by simp) (by simp) (by simp) (by simp) (by simp) (by simp)
  simp [hlen,hi]
end
end Dn
/-
  What is asked of slices.DeleteFunc, and of the function that it is handed. Conditions: none.
-/
set_option linter.unusedSimpArgs false
set_option linter.unusedVariables false
namespace Dn
open Go
structure oF (P:Program) (c:Ctx) (g:Nat) (lb:Array Value) {S:Type} (Inv:S→(Nat→Prop)→Ph→World→Prop) (step:S→MV→Option (Bool×S)):Prop where
 call: ∀{s Z φ W v x b s'},Inv s Z φ W→(∀b,W.heap.size≤b→Z b)→r5 φ W→dt c.key φ v x→step s x=some (b,s')→
  en P g (#[v]++lb) W fun r W'=>r= .bool b∧ ∃φ',Trans Z φ W φ' W'∧r5 φ' W'∧Inv s' Z φ' W'
 frame: ∀{s Z φ W W'},Inv s Z φ W→W.heap.size≤W'.heap.size→(∀b,Z b→b<W.heap.size→W'.heap[b]? =W.heap[b]?)→Inv s (fun b=>Z b∧b<W.heap.size) φ W'
 mono: ∀{s Z Z' φ W},Inv s Z φ W→(∀b,Z b→Z' b)→Inv s Z' φ W
structure FJ (c:Ctx) (ob:Option Nat) {S:Type} (Inv:S→(Nat→Prop)→Ph→World→Prop) (Z0:Nat→Prop) (φ0:Ph) (w0:World) (s:S) (Z:Nat→Prop) (φ:Ph) (W:World):Prop where
 inv:Inv s Z φ W
 new: ∀b,W.heap.size≤b→Z b
 sub: ∀b,Z b→Z0 b∨w0.heap.size≤b
 gM:r5 φ W
 tr:Trans (fun b=>(Z0 b∨w0.heap.size≤b)∨ob=some b) φ0 w0 φ W
 free: ∀b off,ob=some b→φ b off=none
structure DJ (P:Program) (c:Ctx) (h el:Nat):Prop where
 run: ∀{S:Type} {Inv:S→(Nat→Prop)→Ph→World→Prop} {step:S→MV→Option (Bool×S)} {g:Nat} {lb:Array Value},oF P c g lb Inv step→
  ∀{v0:Value} {xs ys:List MV} {w:World} {Z0:Nat→Prop} {φ0:Ph} {s0 s':S},(∀x∈xs,∃ms,x= .agg ms)→bu c (aJ.plain fun b=>v0.ownBlock=some b) (li c.key φ0) w v0 ⟨el,false,xs⟩→(∀b,v0.ownBlock=some b→ ¬Z0 b)→
  Inv s0 Z0 φ0 w→(∀b,w.heap.size≤b→Z0 b)→r5 φ0 w→EC step s0 xs=some (ys,s')→
  en P h #[v0,.func (.func g) #[] lb] w fun v W=> ∃Z φ,FJ c v0.ownBlock Inv Z0 φ0 w s' Z φ W∧bu c (aJ.plain fun b=>v0.ownBlock=some b) (li c.key φ) W v ⟨el,false,ys⟩∧ ∀b,v.ownBlock=some b→v0.ownBlock=some b
def np (P:Program) (c:Ctx):Prop:= ∀h,c.u5 h=true→DJ P c h (c.hO (c.key h))
end Dn
/-
  Regions with a call of slices.DeleteFunc. Conditions: none.
-/
set_option linter.unusedSimpArgs false
set_option linter.unusedVariables false
namespace Dn
open Go
section
variable {P:Program} {c:Ctx} {Z:aJ} {Z':Nat→Prop} {e e':Env} {st aR:St} {a:Act} {w w':World} {R:Type} {K:St→Option R} {r:R} {Q:Exit→Act→World→Prop} {o:Oper} {root:Nat} {cs:List ah} {ks:List LK} {ls outs:List MV} {ps:List (Nat×Nat)} {φ':Ph}
theorem A0 (h:aO c Z e st a w) (hf:ae st.fr root= .box cs) (hm:ct cs=false) (hr:aB st.bh root=false) (ht:TC st [] ks cs ls ps) (hZ: ∀b,Z' b↔w.heap.size≤b∨gone e root ps b) {X:Nat→Prop} (N8: ∀t cJ,ae st.fr t= .box cJ→ ¬X (e.B t)) (N9: ∀f o b,aj st.ao f=some o→(e.E f).ownBlock=some b→ ¬X b) (lk:Trans (fun b=>Z' b∨X b) e.φ w φ' w') (hi:r5 φ' w')
 (hc:gh c Z' φ' w' (e.B root) ks outs) (hK:tZ st root ks ps outs K=some r): ∃e' aR,aO c Z e' aR a w'∧e'.φ=φ'∧(∀b,X b→ ¬Z' b→(∀t cJ,ae aR.fr t= .box cJ→e'.B t≠b)∧ ∀f o,aj aR.ao f=some o→(e'.E f).ownBlock≠some b)∧K aR=some r:=by
 unfold tZ at hK
 obtain ⟨we,rest,oV,g1,hK⟩:=eM hK
 cases rest with
 |cons=>simp [gN] at hK
 |nil=>
 simp only [gN,wZ] at hK
 cases iG:tY (ay ks) (ef (b4 ps) st.ao)||meets (ay ks) st.aY with
 |true=>simp [iG] at hK
 |false=>
 simp only [iG,cond_false,zE,eZ,mY] at hK
 obtain ⟨yF,sm⟩:=Bool.or_eq_false_iff.1 iG
 have yF:=si yF
 have sm:=sj sm
 obtain ⟨ni,m3,E,arr,T,sn,bW,Mi,mm,ji,c8,cq⟩:=hc
 have ei:ni=we∧m3=oV.ao:=by
  unfold CJ at sn
  rw [g1] at sn
  simp only [gN,Option.some.injEq,Prod.mk.injEq] at sn
  exact ⟨sn.1.symm,sn.2.symm⟩
 obtain ⟨rfl,rfl⟩:=ei
 have b6:=nj g1
 have dE: ∀f o,aj oV.ao f=some o→f∈ay ks:=fun f o ho=>(pw g1 f o ho).resolve_left (by simp [aj])
 have hs:=h.slot root
 rw [hf] at hs
 have oa: ∀b,Z' b→Z.In b:=by
  intro b hb
  rcases (hZ b).1 hb with hb|hb
  ·exact h.aV b hb
  ·exact ru h hf hr ht b hb
 have w8: ∀t cJ,ae st.fr t= .box cJ→t≠root→ ¬Z' (e.B t):=by
  intro t cJ C3 b7 hz
  rcases (hZ _).1 hz with hz|hz|⟨x,g,hp,hz⟩
  ·have:=lW h C3;omega
  ·exact h.bb t root cJ cs C3 hf b7 hz
  ·obtain ⟨o,ho,_⟩:=ht.ao x g hp
   exact h.bf t cJ g o C3 ho hz
 have hold: ∀f o,aj (ef (b4 ps) st.ao) f=some o→aj st.ao f=some o∧f∉b4 ps:=by
  intro f o ho
  rw [sd] at ho
  cases hn:aB (b4 ps) f with
  |true=>simp [hn] at ho
  |false=>
   simp only [hn,Bool.false_eq_true,if_false] at ho
   exact ⟨ho,fun hm=>by rw [(aG _ _).2 hm] at hn;cases hn⟩
 have qJ: ∀f o b,aj (ef (b4 ps) st.ao) f=some o→(e.E f).ownBlock=some b→ ¬Z' b:=by
  intro f o b ho hb hz
  obtain ⟨oB,Hc⟩:=hold f o ho
  rcases (hZ _).1 hz with hz|hz|⟨x,g,hp,hz⟩
  ·have:=lX h oB hb;omega
  ·exact h.bf root cs f o hf oB (by rw [hb,hz])
  ·obtain ⟨o2,bj,_⟩:=ht.ao x g hp
   have:=h.ff f g o o2 b oB bj hb hz
   subst this
   exact Hc (qH.2 ⟨x,hp⟩)
 have H9: ∀t cJ,ae st.fr t= .box cJ→t≠root→ ¬(Z' (e.B t)∨X (e.B t)):=fun t cJ h1 h2 h3=>h3.elim (w8 t cJ h1 h2) (N8 t cJ h1)
 have DK: ∀f o b,aj (ef (b4 ps) st.ao) f=some o→(e.E f).ownBlock=some b→ ¬(Z' b∨X b):=fun f o b h1 h2 h3=>h3.elim (qJ f o b h1 h2) (N9 f o b (hold f o h1).1 h2)
 let E2:Nat→Value:=fun f=>if aB (ay ks) f=true then E f else e.E f
 have oZ: ∀f,f∈ay ks→E2 f=E f:=fun f hf=>by show (if _ then _ else _)=_;rw [if_pos ((aG _ _).2 hf)]
 have wj: ∀f,f∉ay ks→E2 f=e.E f:=fun f hf=>by show (if _ then _ else _)=_;rw [if_neg (fun hq=>hf ((aG _ _).1 hq))]
 have fT: ∀f o,aj (oV.ao++ef (b4 ps) st.ao) f=some o→(f∈ay ks∧aj oV.ao f=some o)∨(f∉ay ks∧aj (ef (b4 ps) st.ao) f=some o):=by
  intro f o ho
  rw [uv] at ho
  cases hq:aj oV.ao f with
  |some o2=>simp only [hq,Option.some.injEq] at ho;exact .inl ⟨dE f o2 hq,by rw [ho]⟩
  |none=>
   simp only [hq] at ho
   refine .inr ⟨fun hm=> ?_,ho⟩
   rw [yF f hm] at ho;cases ho
 let e2:Env:=⟨e.key,φ',E2,e.B,oV.ao++ef (b4 ps) st.ao⟩
 have j0:dZ (fun g=>True∧g∉ay ks) (fun _=>True) e e2:=by
  refine ⟨rfl,lk.ph,fun _ _=>rfl,fun f o' oB hS=> ?_⟩
  rcases fT f o' oB with ⟨h1,_⟩|⟨h1,h2⟩
  ·exact absurd h1 hS.2
  ·exact ⟨o',by rw [h.m];exact (hold f o' h2).1,wj f h1,rfl⟩
 have C4:af e2 arr.toList ni:=by
  have HF:dZ (fun f=>f∈ay ks) (fun _=>True) ⟨c.key,φ',E,fun _=>e.B root,oV.ao⟩ ⟨c.key,φ',E2,fun _=>e.B root,oV.ao++ef (b4 ps) st.ao⟩:=by
   refine ⟨rfl,.refl _,fun _ _=>rfl,fun f o' oB hS=> ?_⟩
   rcases fT f o' oB with ⟨h1,h2⟩|⟨h1,_⟩
   ·exact ⟨o',h2,oZ f h1,rfl⟩
   ·exact absurd hS h1
  have h1:=ji.on HF b6
  have HG:dZ (fun _=>True) (fun _=>False) ⟨c.key,φ',E2,fun _=>e.B root,oV.ao++ef (b4 ps) st.ao⟩ e2:=⟨h.key,.refl _,fun _ h=>h.elim,fun f o ho _=>⟨o,ho,rfl,rfl⟩⟩
  exact h1.on HG (fun _ _ _ _=>trivial)
 have Mj:ct ni=false:=C4.nb
 have Fh: ∀t,ae (aT (fw (ay ks) st.fr) root (.box ni)) t=if t=root then .box ni else pu (ay ks) (ae st.fr t):=fun t=>by rw [aI,se]
 have kK: ∀t ds,ae (aT (fw (ay ks) st.fr) root (.box ni)) t= .box ds→ ∃Mk,ae st.fr t= .box Mk:=by
  intro t ds hb
  rw [Fh] at hb
  by_cases lk:t=root
  ·exact ⟨cs,by rw [lk];exact hf⟩
  ·rw [if_neg lk] at hb
   obtain ⟨d0,h1,_⟩:=ko _ hb
   exact ⟨d0,h1⟩
 refine ⟨e2,⟨st.bh,st.aY,aT (fw (ay ks) st.fr) root (.box ni),oV.ao++ef (b4 ps) st.ao⟩,⟨h.defers,h.size,rfl,h.key,?_,?_,?_,?_,?_,?_,?_,hi,fun b hb=>h.aV b (Nat.le_trans lk.size hb)⟩,rfl,fun b hb M0=>⟨fun t ds C3 he=> ?_,fun f o ho he=> ?_⟩,hK⟩
 rotate_left 7
 ·obtain ⟨d0,k1⟩:=kK t ds C3
  exact N8 t d0 k1 (by have he:e.B t=b:=he;rw [he];exact hb)
 ·have he:(E2 f).ownBlock=some b:=he
  rcases fT f o ho with ⟨k1,k2⟩|⟨k1,k2⟩
  ·rw [oZ f k1] at he
   obtain ⟨I,cells,_,_,_,_,q5⟩:=(c8 f o k2).1.row
   exact M0 (q5 _ he).1
  ·rw [wj f k1] at he
   exact N9 f o b (hold f o k2).1 he hb
 ·show (ap (aT (fw (ay ks) st.fr) root (.box ni))).Nodup
  refine bV ?_
  rw [sf];exact h.nodup
 ·intro t
  show aP Z e2 w' t _ (ae (aT (fw (ay ks) st.fr) root (.box ni)) t)
  rw [Fh]
  by_cases jI:t=root
  ·subst jI
   rw [if_pos rfl]
   exact ⟨hs.1.eF (by rw [lN hm,lN Mj]),hs.2.aV,⟨_,bW,rfl,C4⟩,mm⟩
  ·rw [if_neg jI]
   have cK:=h.slot t
   have EG:=H9 t
   generalize ae st.fr t=s at cK EG
   by_cases qd: ∃ds,s= .box ds
   ·obtain ⟨ds,rfl⟩:=qd
    rw [w5]
    have hz:=EG ds rfl jI
    obtain ⟨o2,h1,h2⟩:=cK.2.obj
    refine ⟨cK.1.eF (uu _ _),cK.2.aV,⟨o2,by show w'.heap[e.B t]? =_;rw [lk.heap _ hz (aH h1)];exact h1,?_⟩,fun off=>by show φ' (e.B t) off=none;rw [lk.free _ off hz];exact cK.2.free off⟩
    exact (w7 h2).on j0 (zG _ (fun l _ f _=>trivial))
   ·have HH:aa e (a.tmps.getD t undef) s:=by cases s<;>simp only [aP] at cK<;>first|exact cK|exact absurd ⟨_,rfl⟩ qd
    have h2:=(HH.Gu (ay ks)).on j0 (zF _ (bK s))
    have C5: ∀ds,pu (ay ks) s≠ .box ds:=fun ds hq=>by
     obtain ⟨d0,h1,_⟩:=ko _ hq
     exact qd ⟨d0,h1⟩
    generalize pu (ay ks) s=s2 at h2 C5
    cases s2<;>first|exact h2|exact absurd rfl (C5 _)
 ·intro t
  show bc (aT (fw (ay ks) st.fr) root (.box ni)) (ae (aT (fw (ay ks) st.fr) root (.box ni)) t)
  have CH: ∀q,bn (ae st.fr q)=true→bn (ae (aT (fw (ay ks) st.fr) root (.box ni)) q)=true:=by
   intro q hq
   rw [Fh]
   by_cases Gs:q=root
   ·rw [if_pos Gs];rfl
   ·rw [if_neg Gs];exact sk _ hq
  rw [Fh]
  by_cases jI:t=root
  ·rw [if_pos jI];trivial
  ·rw [if_neg jI]
   refine qI _ ?_
   have gQ:=h.root t
   generalize ae st.fr t=s at gQ
   cases s with
   |ptr q o=>exact CH q gQ
   |hp q o i=>exact CH q gQ
   |mR q=>exact CH q gQ
   |_=>trivial
 ·intro f o ho
  rcases fT f o ho with ⟨h1,h2⟩|⟨h1,h2⟩
  ·have Ml:=(c8 f o h2).1
   have nd:f∉Z.aY:=by rw [←h.defers.2.2.1];exact sm f h1
   refine bu.to ?_ nd
   obtain ⟨I,cells,q1,q2,q3,q4,q5⟩:=Ml.row
   refine ⟨I,cells,q1,q2,?_,?_,fun b hb=> ?_⟩
   ·show w'.ownsRow 0 o.ty I.size (E2 f) o.xs.length cells
    rw [oZ f h1];exact q3
   ·show az e.key φ' I.size cells o.xs
    rw [h.key];exact q4
   ·have hb:(E2 f).ownBlock=some b:=hb
    rw [oZ f h1] at hb
    exact ⟨oa b (q5 b hb).1,(q5 b hb).2.1,fun hc=>hc.elim⟩
  ·obtain ⟨oB,Hc⟩:=hold f o h2
   obtain ⟨I,cells,q1,q2,q3,q4,q5⟩:=(h.dA f o oB).row
   refine ⟨I,cells,q1,q2,?_,q4.mono lk.ph,?_⟩
   ·show w'.ownsRow 0 o.ty I.size (E2 f) o.xs.length cells
    rw [wj f h1]
    refine ⟨q3.1,?_⟩
    rcases q3.2 with h6|⟨g,cap,dH,k1,k2,k3,k4⟩
    ·exact .inl h6
    ·refine .inr ⟨g,cap,dH,k1,k2,?_,k4⟩
     rw [lk.heap g (DK f o g h2 (by rw [k1];rfl)) (aH k3)];exact k3
   ·intro ax hb
    have hb:(E2 f).ownBlock=some ax:=hb
    rw [wj f h1] at hb
    refine ⟨(q5 ax hb).1,fun off u hu=>(q5 ax hb).2.1 off u ?_,fun k1 k2 j hj=>lk.ph.nA ((q5 ax hb).2.2 k1 k2 j hj) hj⟩
    have hu:φ' ax off=some u:=hu
    rw [lk.free _ off (DK f o ax h2 hb)] at hu;exact hu
 ·intro t t' c1 c2 h1 h2 b7
  obtain ⟨d1,k1⟩:=kK t c1 h1
  obtain ⟨d2,k2⟩:=kK t' c2 h2
  exact h.bb t t' d1 d2 k1 k2 b7
 ·intro t c1 f o h1 h2
  show (E2 f).ownBlock≠some (e.B t)
  rcases fT f o h2 with ⟨k1,k2⟩|⟨k1,k2⟩
  ·rw [oZ f k1]
   by_cases jI:t=root
   ·rw [jI];exact (c8 f o k2).2
   ·obtain ⟨d1,k3⟩:=kK t c1 h1
    intro hq
    obtain ⟨I,cells,_,_,_,_,q5⟩:=(c8 f o k2).1.row
    exact w8 t d1 k3 jI (q5 _ hq).1
  ·rw [wj f k1]
   obtain ⟨d1,k3⟩:=kK t c1 h1
   exact h.bf t d1 f o k3 (hold f o k2).1
 ·intro f f' o o' k h1 h2 h3 h4
  have h3:(E2 f).ownBlock=some k:=h3
  have h4:(E2 f').ownBlock=some k:=h4
  rcases fT f o h1 with ⟨k1,k2⟩|⟨k1,k2⟩<;>rcases fT f' o' h2 with ⟨k3,k4⟩|⟨k3,k4⟩
  ·rw [oZ f k1] at h3
   rw [oZ f' k3] at h4
   exact cq f f' o o' k k2 k4 h3 h4
  ·rw [oZ f k1] at h3
   rw [wj f' k3] at h4
   obtain ⟨I,cells,_,_,_,_,q5⟩:=(c8 f o k2).1.row
   exact absurd (q5 _ h3).1 (qJ f' o' k k4 h4)
  ·rw [wj f k1] at h3
   rw [oZ f' k3] at h4
   obtain ⟨I,cells,_,_,_,_,q5⟩:=(c8 f' o' k4).1.row
   exact absurd (q5 _ h4).1 (qJ f o k k2 h3)
  ·rw [wj f k1] at h3
   rw [wj f' k3] at h4
   exact h.ff f f' o o' k (hold f o k2).1 (hold f' o' k4).1 h3 h4
end
end Dn
/-
  A call of slices.DeleteFunc. Conditions: none.
-/
set_option linter.unusedSimpArgs false
set_option linter.unusedVariables false
namespace Dn
open Go
section
variable {P:Program} {c:Ctx} {Z:aJ} {e e':Env} {st aR:St} {a:Act} {w w':World} {R:Type} {K:St→Option R} {r:R} {Q:Exit→Act→World→Prop} {o:Oper}
theorem en.imp {P:Program} {f:FuncId} {args:Array Value} {w:World} {R R':Value→World→Prop} (hc:en P f args w R) (h: ∀v w',R v w'→R' v w'):en P f args w R':=by
 unfold en at hc⊢
 split
 ·rename_i ei
  rw [ei] at hc
  exact Calls.mono hc (fun x p8 ⟨v,e,hr⟩=>⟨v,e,h v p8 hr⟩)
 ·rename_i ei
  rw [ei] at hc
  exact h _ _ hc
 ·rename_i h1 h2
  split at hc
  ·rename_i ei;exact absurd ei (h1 _ _ _)
  ·rename_i ei;exact absurd ei (h2 _ _)
  ·exact hc
theorem Trans.qP {I J:Nat→Prop} {φ φ':Ph} (h:Trans I φ w φ' w') (hs: ∀b,I b→J b):Trans J φ w φ' w':=
 ⟨h.ph,fun b hb=>h.heap b (fun hz=>hb (hs b hz)),fun b o hb=>h.free b o (fun hz=>hb (hs b hz)),h.size,h.rest⟩
theorem xu {key:Nat→Nat} {φ:Ph} {v:Value} {b:Bool} (h:dt key φ v (.b b)):v= .bool b:=by
 obtain ⟨_,h⟩:=h
 generalize oW:[v]=l at h
 cases h;simpa using oW
theorem yS (hS:Sound P c) {f:Nat} (hg:c.cy (c.key f)=false) {lb:Array Value} {ms:List MV}:oF P c f lb (fun (_:Unit) (_:Nat→Prop) φ (_:World)=>aK c.key φ lb.toList ms) (B2 c.g (c.key f) ms):=by
 refine ⟨?_,fun h _ _=>h,fun h _=>h⟩
 intro s Z φ W v x b s' hinv jj pg Ia cK
 unfold B2 at cK
 split at cK
 ·rename_i b' hx
  simp only [Option.some.injEq,Prod.mk.injEq] at cK
  obtain ⟨rfl,_⟩:=cK
  have ea:cS c (fun b=>W.heap.size≤b) φ W (c.key f) (v::lb.toList) (x::ms):=by
   simp only [cS,hg,Bool.false_eq_true,if_false]
   exact ⟨v,lb.toList,rfl,Ia,hinv⟩
  have:=hS f (x::ms) (.b b') hx φ W (fun b=>W.heap.size≤b) _ (fun b hb=>hb) ea pg
  have e1:(v::lb.toList).toArray= #[v]++lb:=by apply Array.toList_inj.1;simp
  rw [e1] at this
  refine this.imp ?_
  rintro v' w' ⟨φ',t1,t2,t3⟩
  exact ⟨xu t3,φ',t1.qP jj,t2,hinv.mono t1.ph⟩
 ·cases cK
theorem A1 (hS:Sound P c) {f pos ax:Nat} {ks:List LK} {ms:List MV} {Kw:List Value} (hg:c.cy (c.key f)=true) (su:c.sig (c.key f)=some (pos,ks)) (ek:pos=ms.length+1):
 oF P c f (Kw++[Value.pointer (some ⟨ax,0,none⟩)]).toArray (fun ls Z φ W=>gh c Z φ W ax ks ls∧aK c.key φ Kw ms) (B3 c.g (c.key f) ms):=by
 refine ⟨?_,?_,fun h hz=>⟨h.1.wide hz,h.2⟩⟩
 ·intro ls Z φ W v x b s' hinv jj pg Ia cK
  obtain ⟨ml,pF⟩:=hinv
  unfold B3 at cK
  split at cK
  ·rename_i b' outs hx
   simp only [Option.some.injEq,Prod.mk.injEq] at cK
   obtain ⟨rfl,rfl⟩:=cK
   have hl:=pF.length
   have ea:cS c Z φ W (c.key f) (v::(Kw++[Value.pointer (some ⟨ax,0,none⟩)])) (x::(ms++[.cell (.func 0 ls)])):=by
    simp only [cS,hg,if_true]
    refine .inr (.inr ⟨pos,ks,0,ls,ax,su,?_,?_,?_,ml⟩)
    ·rw [ek,List.getElem?_cons_succ,←hl,List.getElem?_append_right (Nat.le_refl _)];simp
    ·rw [ek,List.getElem?_cons_succ,List.getElem?_append_right (Nat.le_refl _)];simp
    ·rw [ek,List.set_cons_succ,List.set_append_right _ _ (Nat.le_refl _),Nat.sub_self]
     exact ⟨v,_,rfl,Ia,pF.append ⟨_,[],rfl,⟨rfl,.rp ax 0 [] [] .nil (by simp)⟩,rfl⟩⟩
   have:=hS f _ _ hx φ W Z _ jj ea pg
   have e1:(v::(Kw++[Value.pointer (some ⟨ax,0,none⟩)])).toArray= #[v]++(Kw++[Value.pointer (some ⟨ax,0,none⟩)]).toArray:=by apply Array.toList_inj.1;simp
   rw [e1] at this
   refine this.imp ?_
   rintro v' w' ⟨φ',t1,t2,tF,pos',Pn,M1,BX,oY,Bu,hc⟩
   rw [su] at oY
   simp only [Option.some.injEq,Prod.mk.injEq] at oY
   obtain ⟨rfl,rfl⟩:=oY
   have hb:M1=ax:=by
    rw [ek,List.getElem?_cons_succ,←hl,List.getElem?_append_right (Nat.le_refl _)] at Bu
    simp at Bu
    exact Bu.1.symm
   subst hb
   exact ⟨xu tF,φ',t1,t2,hc,pF.mono t1.ph⟩
  ·cases cK
 ·intro ls Z φ W W' hinv jZ lg
  obtain ⟨⟨cs,m,E,arr,T,k1,k2,k3,k4,k5,k6,k7⟩,pF⟩:=hinv
  have dJ:=aH k2
  refine ⟨⟨cs,m,E,arr,T,k1,(lg ax k3 dJ).trans k2,⟨k3,dJ⟩,k4,k5,fun f' o' ho=>⟨?_,(k6 f' o' ho).2⟩,k7⟩,pF⟩
  obtain ⟨I,cells,q1,q2,q3,q4,q5⟩:=(k6 f' o' ho).1.row
  refine ⟨I,cells,q1,q2,⟨q3.1,?_⟩,q4,fun b hb=>⟨⟨(q5 b hb).1,vw q3 hb⟩,(q5 b hb).2⟩⟩
  rcases q3.2 with h6|⟨g,cap,dH,r1,r2,r3,r4⟩
  ·exact .inl h6
  ·exact .inr ⟨g,cap,dH,r1,r2,(lg g (q5 g (by rw [r1];rfl)).1 (aH r3)).trans r3,r4⟩
theorem zM {xs:List MV} (h:xs.all ED=true): ∀x∈xs,∃ms,x= .agg ms:=by
 intro x hx
 have:=List.all_eq_true.1 h x hx
 cases x<;>simp [ED] at this
 exact ⟨_,rfl⟩
theorem put_comm {a:Act} {x y:Nat} (h:x≠y) (v u:Value):(a.put (some x) v).put (some y) u=(a.put (some y) u).put (some x) v:=by
 show ({a with tmps:=(a.tmps.setIfInBounds x v).setIfInBounds y u}:Act)={a with tmps:=(a.tmps.setIfInBounds y u).setIfInBounds x v}
 rw [Array.setIfInBounds_comm v u h]
theorem zN {y d:Nat} {o1 o2:Oper} {h:Nat} {v0 v' fv:Value} {ys:List MV} {φ0:Ph} {w0:World} (hs:aO c Z e st a w) (h1:o1.dst=some y) (h2:o2.dst=some d) (Li:d≠y) (oa: ∀b,v0.ownBlock=some b→Z.In b)
 (c8:bu c (aJ.plain fun b=>v0.ownBlock=some b) (li c.key e.φ) w v' ⟨c.hO (c.key h),false,ys⟩) (b6: ∀b,v'.ownBlock=some b→v0.ownBlock=some b) (qg: ∀b,v0.ownBlock=some b→(∀t cJ,ae st.fr t= .box cJ→e.B t≠b)∧ ∀f o,aj st.ao f=some o→(e.E f).ownBlock≠some b)
 (ht:Trans Z φ0 w0 e.φ w)
 (hK:(c9 st (o2.dst.getD 0) ⟨c.hO (c.key h),false,ys⟩ fun st=>aw c st o2.dst (.sc (.own (o2.dst.getD 0))) fun st=>aw c st o1.dst (.sc .un) K)=some r):Out c Z K r φ0 w0 ((a.put o1.dst fv).put o2.dst v') w:=by
 have nd:=hs.Gn hK
 have jk:=fP hK
 have pT:bu c Z.nc e w v' ⟨c.hO (c.key h),false,ys⟩:=by
  obtain ⟨I,cells,g1,g2,g3,g4,g5⟩:=c8.row
  refine ⟨I,cells,g1,g2,g3,by rw [hs.key];exact g4,fun ax hb=>⟨oa ax (b6 ax hb),(g5 ax hb).2.1,fun hc=>hc.elim⟩⟩
 have yp:=hs.vu nd pT fun b hb=>qg b (b6 b hb)
 obtain ⟨I,cells,g1,g2,g3,g4,g5⟩:=c8.row
 have ej:v'.oneCell'=true:=by
  rcases g3.2 with ⟨rfl,_⟩|⟨g,cap,dH,rfl,_⟩<;>rfl
 obtain ⟨e3,gV,q1,q2,q3⟩:=bm (v:=v') (s:= .sc (.own (o2.dst.getD 0))) yp (.of (jG ej) trivial) jk
 obtain ⟨e4,JY,q4,q5,q6⟩:=bm (v:=fv) (s:= .sc .un) q1 (.of (by simp [aa]) trivial) q2
 rw [h1,h2] at q4
 rw [put_comm Li] at q4
 rw [h1,h2]
 exact ⟨e4,JY,q4,by rw [q6,q3];exact ht,q5⟩
theorem FK (hS:Sound P c) {h f x y d:Nat} {bk:Array Operand} {cl:Call} {o1 o2:Oper} (hd:DJ P c h (c.hO (c.key h))) (h1:o1.op= .makeFunc (.func f) #[] bk) (h2:o2.op= .call cl) (km:cl.callee= .value (.func h)) (ea:cl.args.toList=[.tmp x,.tmp y])
 (M2:o1.dst=some y) (IW:o2.dst=some d) (CR:x≠y) (Li:d≠y) (P4:y<c.n) (iB:aO c Z e st a w) (hK:B4 c h f bk.toList (.tmp x) o1 o2 st K=some r):
 o1.wp P a w (fun a1 w1=>o2.wp P a1 w1 (Out c Z K r e.φ w) Q) Q:=by
 have Kx:(execOp a.eval o1).run P w= .ok (.value (.func (.func f) #[] (bk.map a.eval))) w:=by simp [execOp,h1,Instr.makeFunc]
 unfold Oper.wp
 rw [Kx,Oper.upon_value]
 have tk: ∀v:Value,(a.put o1.dst v).eval (.tmp x)=a.eval (.tmp x)∧(a.put o1.dst v).eval (.tmp y)=v:=by
  intro v
  rw [M2]
  have hy:y<a.tmps.size:=by rw [iB.size];exact P4
  constructor
  ·show (a.put (some y) v).tmps.getD x undef=a.tmps.getD x undef
   rw [Act.na hy,if_neg CR]
  ·show (a.put (some y) v).tmps.getD y undef=v
   rw [Act.na hy,if_pos rfl]
 have Ib: ∀v:Value,cl.args.map (a.put o1.dst v).eval= #[a.eval (.tmp x),v]:=by
  intro v
  apply Array.toList_inj.1
  rw [Array.toList_map,ea]
  simp [(tk v).1,(tk v).2]
 have GL: ∀v:Value,(execOp (a.put o1.dst v).eval o2).run P w=(callFunc h #[a.eval (.tmp x),v]).run P w:=by
  intro v
  have:=Ib v
  simp [execOp,h2,resolve,km,this,Act.eval,Deferred.ofValue,invoke]
 unfold B4 at hK
 cases su:c.sig (c.key f) with
 |none=>
  simp only [su] at hK
  cases hg:c.cy (c.key f) with
  |true=>simp [hg] at hK
  |false=>
  simp only [hg,cond_false] at hK
  obtain ⟨e1,bw,ms,s1,x1,r1,jk,ej⟩:=lT iB hK
  obtain ⟨e2,cn,xs,G,mD⟩:=jH s1 (s1.eval (.tmp x)).1 jk
  simp only [gF] at mD
  obtain ⟨Ic,rZ⟩:=bJ mD
  obtain ⟨p,hp,Es⟩:=gb rZ
  obtain ⟨ys,u⟩:=p
  have pF:aK c.key e1.φ (bk.map a.eval).toList ms:=by
   have:=c7.one r1 ej
   rw [s1.key] at this
   simpa using this
  have tK: ∀b,(a.eval (.tmp x)).ownBlock=some b→ ¬w.heap.size≤b:=by
   intro b hb
   obtain ⟨I,cells,_,_,g3,_⟩:=G.row.row
   have:=vw g3 hb
   omega
  have mn:=hd.run (yS hS hg) (zM Ic) G.row tK pF (fun b hb=>hb) s1.gM hp
  refine lj (GL _) mn ?_
  rintro v' w' ⟨Zw,φ',hW,c8,b6⟩
  have FL: ∀b,((w.heap.size≤b∨w.heap.size≤b)∨(a.eval (.tmp x)).ownBlock=some b)→Z.In b:=by
   rintro b ((hb|hb)|hb)
   ·exact s1.aV b hb
   ·exact s1.aV b hb
   ·exact G.In b hb
  have Mi: ∀t cs,ae cn.fr t= .box cs→ ¬((w.heap.size≤e2.B t∨w.heap.size≤e2.B t)∨(a.eval (.tmp x)).ownBlock=some (e2.B t)):=by
   rintro t cs ht ((hb|hb)|hb)
   ·have:=lW G.j7 ht;omega
   ·have:=lW G.j7 ht;omega
   ·exact G.box t cs ht hb
  have P5: ∀f o k,aj cn.ao f=some o→(e2.E f).ownBlock=some k→ ¬((w.heap.size≤k∨w.heap.size≤k)∨(a.eval (.tmp x)).ownBlock=some k):=by
   rintro f o k ho hk ((hb|hb)|hb)
   ·have:=lX G.j7 ho hk;omega
   ·have:=lX G.j7 ho hk;omega
   ·exact G.dA f o k ho hk hb
  have lk:=hW.tr
  rw [←G.φ] at lk
  have Ht:=G.j7.called FL Mi P5 lk hW.gM
  have jI:Trans Z e.φ w φ' w':=x1.tr.trans (hW.tr.qP FL)
  exact zN (e:={e2 with φ:=φ'}) Ht M2 IW Li G.In c8 b6 (fun b hb=>⟨fun t cJ ht he=>G.box t cJ ht (by rw [hb,←he]),fun f o ho hk=>G.dA f o b ho hk hb⟩) jI Es
 |some sg=>
  obtain ⟨pos,ks⟩:=sg
  simp only [su] at hK
  obtain ⟨e1,bw,ms,s1,x1,r1,jk,ej⟩:=lT iB hK
  obtain ⟨e2,cn,xs,G,mD⟩:=jH s1 (s1.eval (.tmp x)).1 jk
  simp only [gF] at mD
  obtain ⟨Ic,rZ⟩:=bJ mD
  cases sM:bk.toList.getLast? with
  |none=>simp [sM] at rZ
  |some y0=>
  simp only [sM] at rZ
  split at rZ
  rotate_left
  ·cases rZ
  rename_i root yJ
  split at rZ
  rotate_left
  ·cases rZ
  rename_i cs hf
  cases iG:ct cs||aB cn.bh root||!dD c ks||!Nat.beq pos (ms.length+1)||!c.cy (c.key f) with
  |true=>simp [iG] at rZ
  |false=>
  simp only [iG,cond_false] at rZ
  simp only [Bool.or_eq_false_iff,Bool.not_eq_false'] at iG
  obtain ⟨⟨⟨⟨hm,hr⟩,dg⟩,ek⟩,hg⟩:=iG
  have ek:=Nat.eq_of_beq_eq_true ek
  obtain ⟨ls,ps,ht,Es⟩:=sb rZ
  obtain ⟨p,hp,IP⟩:=gb Es
  obtain ⟨ys,outs⟩:=p
  have P6:a.eval y0= .pointer (some ⟨e2.B root,0,none⟩):=by
   have:=(G.j7.eval y0).1
   rw [yJ] at this
   exact this
  have Ky:(bk.map a.eval)=((bk.toList.dropLast.map a.eval)++[Value.pointer (some ⟨e2.B root,0,none⟩)]).toArray:=by
   apply Array.toList_inj.1
   rw [Array.toList_map]
   have b7:bk.toList≠[]:=by intro e;rw [e] at sM;simp at sM
   have h3:bk.toList=bk.toList.dropLast++[y0]:=by
    have h4:=List.dropLast_concat_getLast b7
    have h5:=List.getLast?_eq_some_getLast b7
    rw [sM] at h5
    rw [Option.some.inj h5]
    exact h4.symm
   rw [h3]
   simp [P6]
  have pF:aK c.key e2.φ (bk.toList.dropLast.map a.eval) ms:=by
   have:=c7.one r1 ej
   rw [s1.key,←G.φ] at this
   exact this
  have M3:bu c (aJ.plain fun b=>(a.eval (.tmp x)).ownBlock=some b) (li c.key e2.φ) w (a.eval (.tmp x)) ⟨c.hO (c.key h),false,xs⟩:=by rw [G.φ];exact G.row
  let Z2:Nat→Prop:=fun b=>w.heap.size≤b∨gone e2 root ps b
  have P7: ∀b,(a.eval (.tmp x)).ownBlock=some b→ ¬gone e2 root ps b:=by
   rintro b hb (rfl|⟨q,g,hp,hq⟩)
   ·exact G.box root cs hf hb
   ·obtain ⟨o,ho,_⟩:=ht.ao q g hp
    exact G.dA g o b ho hq hb
  have dJ: ∀b,(a.eval (.tmp x)).ownBlock=some b→b<w.heap.size:=by
   intro b hb
   obtain ⟨I,cells,_,_,g3,_⟩:=G.row.row
   exact vw g3 hb
  have tK: ∀b,(a.eval (.tmp x)).ownBlock=some b→ ¬Z2 b:=by
   rintro b hb (h'|h')
   ·have:=dJ b hb;omega
   ·exact P7 b hb h'
  have ml:gh c Z2 e2.φ w (e2.B root) ks ls:=(wY G.j7 hf hm dg ht).wide fun b hb=> .inr hb
  have mn:=hd.run (A1 hS hg su ek) (zM Ic) M3 tK ⟨ml,pF⟩ (fun b hb=> .inl hb) G.j7.gM hp
  rw [←Ky] at mn
  refine lj (GL _) mn ?_
  rintro v' w' ⟨Zw,φ',hW,c8,b6⟩
  have Oa: ∀b,Z2 b∨w.heap.size≤b→Z2 b:=fun b hb=>hb.elim id .inl
  have FL: ∀b,Z2 b→Z.In b:=fun b hb=>hb.elim (G.j7.aV b) (ru G.j7 hf hr ht b)
  have lk:Trans (fun b=>Z2 b∨(a.eval (.tmp x)).ownBlock=some b) e2.φ w φ' w':=hW.tr.qP fun b hb=>hb.elim (fun h=> .inl (Oa b h)) .inr
  have Ie:gh c Z2 φ' w' (e2.B root) ks outs:=hW.inv.1.wide fun b hb=>Oa b (hW.sub b hb)
  obtain ⟨e3,gV,h3,HI,hX,HJ⟩:=A0 G.j7 hf hm hr ht (fun b=>Iff.rfl) (X:=fun b=>(a.eval (.tmp x)).ownBlock=some b) (fun t cJ oC hb=>G.box t cJ oC hb) (fun f o b ho hk hb=>G.dA f o b ho hk hb) lk hW.gM Ie IP
  have jI:Trans Z e.φ w φ' w':=by
   have t2:Trans Z e2.φ w φ' w':=lk.qP fun b hb=>hb.elim (FL b) (G.In b)
   rw [G.φ] at t2
   exact x1.tr.trans t2
  subst HI
  exact zN h3 M2 IW Li G.In c8 b6 (fun b hb=>hX b hb (tK b hb)) jI HJ
end
end Dn
/-
  Regions in the order of their text. Conditions: none.
-/
set_option linter.unusedSimpArgs false
set_option linter.unusedVariables false
namespace Dn
open Go
section
variable {P:Program} {c:Ctx} {Z:aJ} {e:Env} {st:St} {a:Act} {w:World} {R:Type} {K:St→Option R} {r:R} {Q:Exit→Act→World→Prop} {ops:Array Oper}
theorem xv (hG:Good P c) {is:List Nat} {rest:List Nat}: ∀{os:List Oper} {e:Env} {st:St} {a:Act} {w:World},is.map (ops[·]?)=os.map some→aO c Z e st a w→nT c ops.toList os st K=some r→
 ∀{φ0:Ph} {w0:World},Trans Z φ0 w0 e.φ w→(∀a' w',Out c Z K r φ0 w0 a' w'→wpOps P ops Q rest a' w')→wpOps P ops Q (is++rest) a w:=by
 induction is with
 |nil=>
  intro os e st a w hm h hK φ0 w0 ht hQ
  cases os with
  |nil=>exact hQ a w ⟨e,st,h,ht,hK⟩
  |cons=>simp at hm
 |cons i is ih=>
  intro os e st a w hm h hK φ0 w0 ht hQ
  cases os with
  |nil=>simp at hm
  |cons o os=>
   simp only [List.map_cons,List.cons.injEq] at hm
   simp only [nT] at hK
   rw [List.cons_append,wpOps_cons]
   refine wpOp_mono ?_ (zH hG hm.1 h hK)
   rintro a' w' ⟨e2,cn,h1,h2,h3⟩
   exact ih hm.2 h1 h3 (ht.trans h2) hQ
structure GM (c:Ctx) (l pre:List Oper) (f:Nat) (bk:List Operand) (h:Nat) (x:Operand) (o1 o2:Oper) (post:List Oper):Prop where
 eq:l=pre++o1::o2::post
 is: ∃(cs:Array Operand) (cl:Call) (x' y d:Nat),cs.toList=bk∧o1.op= .makeFunc (.func f) #[] cs∧o2.op= .call cl∧cl.callee= .value (.func h)∧cl.args.toList=[.tmp x',.tmp y]∧x= .tmp x'∧o1.dst=some y∧o2.dst=some d∧c.u5 h=true∧x'≠y∧d≠y∧y<c.n
theorem yT: ∀{l pre A2:List Oper} {f:Nat} {bk:List Operand} {h:Nat} {x:Operand} {o1 o2:Oper} {post:List Oper},o9 c pre l=some (A2,f,bk,h,x,o1,o2,post)→GM c (pre.reverse++l) A2 f bk h x o1 o2 post:=by
 intro l
 induction l with
 |nil=>intro pre A2 f bk h x o1 o2 post hd;simp [o9] at hd
 |cons p1 l ih=>
  intro pre A2 f bk h x o1 o2 post hd
  cases l with
  |nil=>simp [o9] at hd
  |cons p2 r=>
   have Ig:o9 c (p1::pre) (p2::r)=some (A2,f,bk,h,x,o1,o2,post)→GM c (pre.reverse++p1::p2::r) A2 f bk h x o1 o2 post:=by
    intro hq
    have:=ih hq
    simpa using this
   unfold o9 at hd
   split at hd
   ·rename_i f' first cs cl h1 h2
    split at hd
    ·rename_i h' x' y' d' k1 k2 k3 k4
     cases hb:c.u5 h'&&Nat.beq y' d'&&!Nat.beq x' d'&&!Nat.ble c.n d'&&!Nat.beq (p2.dst.getD d') d' with
     |false=>simp only [hb,cond_false] at hd;exact Ig hd
     |true=>
      simp only [hb,cond_true,Option.some.injEq,Prod.mk.injEq] at hd
      obtain ⟨rfl,rfl,rfl,rfl,rfl,rfl,rfl,rfl⟩:=hd
      simp only [Bool.and_eq_true,Bool.not_eq_true',cE,decide_eq_true_eq,decide_eq_false_iff_not] at hb
      obtain ⟨⟨⟨⟨q1,rfl⟩,q3⟩,q4⟩,q5⟩:=hb
      have hf:first= #[]:=by apply Array.toList_inj.1;simpa using k3
      subst hf
      have IW: ∃d,p2.dst=some d∧d≠y':=by
       cases hp:p2.dst with
       |none=>rw [hp] at q5;simp at q5
       |some d=>rw [hp] at q5;exact ⟨d,rfl,q5⟩
      obtain ⟨d,IW,P8⟩:=IW
      refine ⟨rfl,cs,cl,x',y',d,rfl,h1,h2,k1,k2,rfl,k4,IW,q1,q3,P8,?_⟩
      rcases Nat.lt_or_ge y' c.n with dJ|As
      ·exact dJ
      ·have P9:=Nat.ble_eq_true_of_le As
       simp_all
    ·exact Ig hd
   ·exact Ig hd
theorem xw: ∀{l:List Oper},rJ l=true→ ∀o∈l,o.guard=none:=by
 intro l
 induction l with
 |nil=>intro _ o ho;cases ho
 |cons p l ih=>
  intro h o ho
  unfold rJ at h
  cases hg:p.guard with
  |none=>
   rw [hg] at h
   rcases List.mem_cons.1 ho with rfl|ho
   ·exact hg
   ·exact ih h o ho
  |some=>rw [hg] at h;cases h
theorem A3 (hG:Good P c) (yU:np P c) (id:Nat) (ops:Array Oper):xe P c id ops:=by
 intro Z e st a w R K r Q h hK hQ
 unfold B5 at hK
 split at hK
 rotate_left
 ·exact uy (AJ hG id ops) h hK hQ
 rename_i pre f bk hh x o1 o2 post Lj
 obtain ⟨ei,cs,cl,x',y,d,rfl,k1,k2,k3,k4,rfl,k5,k6,k7,k8,k9,Qa⟩:=yT Lj
 simp only [List.reverse_nil,List.nil_append] at ei
 cases xQ:rJ ops.toList with
 |false=>simp [xQ] at hK
 |true=>
 simp only [xQ,cond_true] at hK
 obtain ⟨std,Qb,hK⟩:=iC h hK
 have Ob:=xw xQ
 have Mm:o1.guard=none:=Ob o1 (by rw [ei];simp)
 have Hx:o2.guard=none:=Ob o2 (by rw [ei];simp)
 refine wp_region ?_
 have jZ:ops.size=pre.length+(post.length+2):=by rw [←Array.length_toList,ei];simp
 have fT: ∀i,ops[i]? =(pre++o1::o2::post)[i]? :=fun i=>by rw [←ei,Array.getElem?_toList]
 have Ih:List.range ops.size=List.range pre.length++(pre.length::(pre.length+1)::((List.range post.length).map (· +(pre.length+2)))):=by
  rw [jZ,List.range_add]
  congr 1
  rw [show post.length+2=2+post.length by omega,List.range_add]
  simp [List.range_succ]
  intros;omega
 rw [Ih]
 refine xv hG (os:=pre) ?_ Qb hK (.refl _ _ _) ?_
 ·apply List.ext_getElem?
  intro i
  simp only [List.getElem?_map]
  by_cases hi:i<pre.length
  ·rw [List.getElem?_range hi]
   simp only [Option.map_some,fT,List.getElem?_append_left hi]
   rw [List.getElem?_eq_getElem hi];rfl
  ·rw [List.getElem?_eq_none (by simp;omega),List.getElem?_eq_none (by omega)];rfl
 ·rintro a1 w1 ⟨e1,bw,s1,t1,jk⟩
  have hw:=FK hG.fn (yU hh k7) k1 k2 k3 k4 k5 k6 k8 k9 Qa s1 jk (P:=P) (Q:=Q)
  have nm:ops[pre.length]? =some o1:=by rw [fT];simp
  have Ep:ops[pre.length+1]? =some o2:=by rw [fT,List.getElem?_append_right (by omega)];simp
  rw [wpOps_cons]
  unfold wpOp
  simp only [nm,Region.wanted,Mm,if_true]
  left
  refine Oper.wp_mono ?_ hw
  intro a2 w2 LU
  rw [wpOps_cons]
  unfold wpOp
  simp only [Ep,Region.wanted,Hx,if_true]
  left
  refine Oper.wp_mono ?_ LU
  rintro a3 w3 ⟨e3,gV,s3,t3,rZ⟩
  rw [←List.append_nil ((List.range post.length).map (· +(pre.length+2)))]
  refine xv hG (os:=post) ?_ s3 rZ (t1.trans t3) ?_
  ·apply List.ext_getElem?
   intro i
   simp only [List.getElem?_map,List.map_map]
   by_cases hi:i<post.length
   ·rw [List.getElem?_range hi]
    simp only [Option.map_some,Function.comp,fT]
    rw [List.getElem?_append_right (by omega),show i+(pre.length+2)-pre.length=i+2 by omega]
    simp [List.getElem?_eq_getElem hi]
   ·rw [List.getElem?_eq_none (by simp;omega),List.getElem?_eq_none (by omega)];rfl
  ·intro a' w' ho
   exact hQ a' w' ho
end
end Dn
/-
  Open order with two operations that may be done either way round. Conditions: none.
-/
set_option linter.unusedSimpArgs false
set_option linter.unusedVariables false
namespace Dn
open Go
section
variable {P:Program} {ops:Array Oper} {Q:Exit→Act→World→Prop}
theorem uJ (A B:Nat):(tw ops A B).size=ops.size:=by simp [tw]
theorem sN (A B i:Nat):(tw ops A B)[i]? =(ops[i]?).map fun o=>if B=i then {o with after:=o.after.push ⟨A,.data⟩} else o:=by
 unfold tw
 rw [Array.getElem?_modify]
 by_cases h:B=i
 ·simp [h]
 ·cases ops[i]? <;>simp [h]
theorem vQ (A B:Nat) (tmps:Array Value):yielded (tw ops A B) tmps=yielded ops tmps:=by
 funext j
 unfold yielded
 rw [sN]
 cases ops[j]? with
 |none=>rfl
 |some o=>
  have e:(if B=j then {o with after:=o.after.push ⟨A,.data⟩} else o).dst=o.dst:=by split<;>rfl
  simp only [Option.map_some,Option.bind_some,e]
theorem A4 {A B i:Nat} {K:Act→World→Prop} {a:Act} {w:World} (h:wpOp P (tw ops A B) Q i K a w):wpOp P ops Q i K a w:=by
 unfold wpOp at h⊢
 rw [sN,vQ] at h
 cases hi:ops[i]? with
 |none=>rw [hi] at h;exact h
 |some o=>
  rw [hi] at h
  simp only [Option.map_some] at h
  by_cases hb:B=i
  ·rw [if_pos hb] at h;exact h
  ·rw [if_neg hb] at h;exact h
theorem yV {A B i:Nat} {listed:Array Bool}:i∈Region.ready .any (tw ops A B) listed↔i∈Region.ready .any ops listed∧(i=B→listed.getD A false=true):=by
 unfold Region.ready
 rw [uJ]
 simp only [List.mem_filter,List.mem_range,sN]
 cases hi:ops[i]? with
 |none=>simp
 |some o=>
  by_cases hb:B=i
  ·subst hb
   simp [Array.all_push,Region.binds]
   constructor
   ·rintro ⟨h1,h2,h3,h4⟩;exact ⟨⟨h1,h2,h3⟩,h4⟩
   ·rintro ⟨⟨h1,h2,h3⟩,h4⟩;exact ⟨h1,h2,h3,h4⟩
  ·have rc: ¬i=B:=fun e=>hb e.symm
   simp [hb,rc]
def GN (A B:Nat):Bool→List Nat→Prop
 |_,[]=>True
 |la,i::r=>(i=B→la=true)∧GN A B (la||decide (i=A)) r
theorem sO (A B:Nat): ∀L,GN A B true L
 |[]=>trivial
 |i::r=>⟨fun _=>rfl,by simpa using sO A B r⟩
theorem DL {A B:Nat} (h:A≠B): ∀L,GN A B false L∨GN B A false L
 |[]=> .inl trivial
 |i::r=>by
  by_cases ha:i=A
  ·subst ha
   exact .inl ⟨fun e=>absurd e h,by simpa using sO i B r⟩
  ·by_cases hb:i=B
   ·subst hb
    exact .inr ⟨fun e=>absurd e ha,by simpa using sO i A r⟩
   ·rcases DL h r with h1|h1
    ·exact .inl ⟨fun e=>absurd e hb,by simpa [ha] using h1⟩
    ·exact .inr ⟨fun e=>absurd e ha,by simpa [hb] using h1⟩
def jf (ops:Array Oper):List (Nat×Nat)→Array Oper
 |[]=>ops
 |p::E=>tw (jf ops E) p.1 p.2
theorem oG: ∀E,(jf ops E).size=ops.size
 |[]=>rfl
 |p::E=>by rw [jf,uJ,oG E]
theorem sP {i:Nat} {K:Act→World→Prop} {a:Act} {w:World}: ∀E,wpOp P (jf ops E) Q i K a w→wpOp P ops Q i K a w
 |[],h=>h
 |_::E,h=>sP E (A4 h)
theorem nq {i:Nat} {listed:Array Bool}: ∀E,i∈Region.ready .any (jf ops E) listed↔i∈Region.ready .any ops listed∧ ∀p∈E,i=p.2→listed.getD p.1 false=true
 |[]=>by simp [jf]
 |p::E=>by
  rw [jf,yV,nq E,List.forall_mem_cons]
  exact ⟨fun h=>⟨h.1.1,h.2,h.1.2⟩,fun h=>⟨⟨h.1,h.2.2⟩,h.2.1⟩⟩
theorem yW {E:List (Nat×Nat)}: ∀(fuel t:Nat) (listed:Array Bool) (a:Act) (w:World),(∀p∈E,p.1<listed.size)→wpAny P .any (jf ops E) Q fuel listed a w→
 (∀p∈E,GN p.1 p.2 (listed.getD p.1 false) (Region.linearise.go .any ops fuel t listed []))→wpOps P ops Q (Region.linearise.go .any ops fuel t listed []) a w:=by
 intro fuel
 induction fuel with
 |zero=>intro t listed a w _ h _;simpa [Region.linearise.go,wpOps] using h.2
 |succ fuel ih=>
  intro t listed a w hs h hA
  obtain ⟨h₀,h₁⟩:=h
  simp only [Region.linearise.go] at hA⊢
  change wpOps P ops Q (match (Region.ready .any ops listed)[t%(Region.ready .any ops listed).length]? with
   |some i=>Region.linearise.go .any ops fuel (t/(Region.ready .any ops listed).length) (listed.setIfInBounds i true) [i]
   |none=>[].reverse) a w
  change∀p∈E,GN p.1 p.2 (listed.getD p.1 false) (match (Region.ready .any ops listed)[t%(Region.ready .any ops listed).length]? with
   |some i=>Region.linearise.go .any ops fuel (t/(Region.ready .any ops listed).length) (listed.setIfInBounds i true) [i]
   |none=>[].reverse) at hA
  cases hi:(Region.ready .any ops listed)[t%(Region.ready .any ops listed).length]? with
  |none=>
   have CD:Region.ready .any ops listed=[]:=by
    cases hr:Region.ready .any ops listed with
    |nil=>rfl
    |cons x xs=>
     rw [hr] at hi
     have dJ:t%(x::xs).length<(x::xs).length:=Nat.mod_lt _ (by simp)
     simp at hi
     simp at dJ
     omega
   have Kz:Region.ready .any (jf ops E) listed=[]:=by
    cases hr:Region.ready .any (jf ops E) listed with
    |nil=>rfl
    |cons x xs=>
     have:x∈Region.ready .any (jf ops E) listed:=by rw [hr];simp
     have:=((nq E).1 this).1
     rw [CD] at this;cases this
   simpa [wpOps] using h₀ Kz
  |some i=>
   rw [hi] at hA
   simp only [] at hA⊢
   rw [linearise_go_acc,List.reverse_singleton,List.singleton_append] at hA⊢
   rw [wpOps_cons]
   have M4:=(nq E).2 ⟨List.mem_of_getElem? hi,fun p hp=>(hA p hp).1⟩
   refine wpOp_mono (fun a w hw=>ih _ _ a w (fun p hp=>by simpa using hs p hp) hw fun p hp=> ?_) (sP E (h₁ i M4))
   have hg:(listed.setIfInBounds i true).getD p.1 false=(listed.getD p.1 false||decide (i=p.1)):=by
    rw [Array.getD_eq_getD_getElem?,Array.getD_eq_getD_getElem?,Array.getElem?_setIfInBounds]
    by_cases Oc:i=p.1
    ·subst Oc;simp [hs p hp]
    ·simp [Oc]
   rw [hg];exact (hA p hp).2
theorem DM {c:Ctx} (hG:Good P c) (A5:P.follows .mixedOrders=true) (yU:np P c):Di P c:=by
 refine ⟨fun id ops=>A3 hG yU id ops,?_,?_⟩
 ·intro id ops l hd hp Z e st a w R K r Q h hK hQ
  refine Code.wp_mono ?_ (wp_region_any A5 (xt hG hd hp h hK))
  intro x a' w' hx
  cases x<;>first|exact hQ a' w' hx|exact hx.elim
 ·intro id ops k l Z e st a w R K r Q h hK hQ
  refine Code.wp_mono (Q:=lm fun a' w'=>Out c Z K r e.φ w a' w') ?_ (wp_region_draw fun t=> ?_)
  ·intro x a' w' hx
   cases x<;>first|exact hQ a' w' hx|exact hx.elim
  simp only [Region.schedule,A5,Bool.true_or,if_true]
  have leaf: ∀(E:List (Nat×Nat)) (l:List Nat),(∀p∈E,p.1<ops.size)→B7 c (jf ops E) l st K=some r→(∀p∈E,GN p.1 p.2 false (Region.linearise.go .any ops ops.size t (Array.replicate ops.size false) []))→
   wpOps P ops (lm fun a' w'=>Out c Z K r e.φ w a' w') (Region.linearise.go .any ops ops.size t (Array.replicate ops.size false) []) a {w with drawn:=w.drawn+1}:=by
   intro E l hE hK hA
   unfold B7 at hK
   cases hd:ov c (jf ops E) l with
   |false=>simp [hd] at hK
   |true=>
    simp only [hd,cond_true] at hK
    split at hK
    ·rename_i l1 hp
     have w1:=xt hG hd hp h hK
     rw [oG] at w1
     exact yW ops.size t _ a _ (by simpa using hE) w1 (fun p hp=>by simpa [hE p hp] using hA p hp)
    ·cases hK
  have key: ∀(k:Nat) (E:List (Nat×Nat)) (l:List Nat),(∀p∈E,p.1<ops.size)→rK c st K k (jf ops E) l=some r→(∀p∈E,GN p.1 p.2 false (Region.linearise.go .any ops ops.size t (Array.replicate ops.size false) []))→
   wpOps P ops (lm fun a' w'=>Out c Z K r e.φ w a' w') (Region.linearise.go .any ops ops.size t (Array.replicate ops.size false) []) a {w with drawn:=w.drawn+1}:=by
   intro k
   induction k with
   |zero=>intro E l _ hK;cases hK
   |succ k ih=>
    intro E l hE hK hA
    simp only [rK] at hK
    cases hb:Nat.beq l.length (jf ops E).toList.length with
    |true=>
     simp only [hb,cond_true] at hK
     exact leaf E l hE hK hA
    |false=>
     simp only [hb,cond_false] at hK
     split at hK
     ·rename_i o1 o2 A B ht
      obtain ⟨q1,q2,q3⟩:=yL ht
      have jZ:(jf ops E).toList.length=ops.size:=by rw [Array.length_toList,oG]
      rw [jZ] at q2 q3
      obtain ⟨k1,k2⟩:=AK hK
      rcases DL q1 (Region.linearise.go .any ops ops.size t (Array.replicate ops.size false) []) with ho|ho
      ·exact ih ((A,B)::E) o1 (List.forall_mem_cons.2 ⟨q2,hE⟩) k1 (List.forall_mem_cons.2 ⟨ho,hA⟩)
      ·exact ih ((B,A)::E) o2 (List.forall_mem_cons.2 ⟨q3,hE⟩) k2 (List.forall_mem_cons.2 ⟨ho,hA⟩)
     ·cases hK
  exact key k [] l (by simp) hK (by simp)
end
end Dn
/-
  Functions of the library, by hand: copies of slices. Conditions: none.
-/
set_option linter.unusedSimpArgs false
set_option linter.unusedVariables false
namespace Dn
open Go
section
variable {P:Program} {c:Ctx} {Q:Exit→Act→World→Prop} {ops:Array Oper} {o:Oper} {a:Act} {w w':World}
theorem Ii {i:Nat} {rest:List Nat} {v:Value} (hi:ops[i]? =some o) (hg:o.guard=none) (aX:(execOp a.eval o).run P w= .ok (.value v) w')
 (h:wpOps P ops Q rest (a.put o.dst v) w'):wpOps P ops Q (i::rest) a w:=by
 rw [wpOps_cons]
 unfold wpOp
 simp only [hi,Region.wanted,hg,if_true]
 left
 unfold Oper.wp
 rw [aX,Oper.upon_value];exact h
structure aq (o:Oper) (d:Nat) (op:Op):Prop where
 dst:o.dst=some d
 op:o.op=op
 guard:o.guard=none
end
end Dn
/-
  Tables of functions. Conditions: none.
-/
namespace Dn
open Go
structure aA (P:Program) (c:Ctx) (g:Nat→List MV→Option MV):Prop where
 all: ∀f ms r,g (c.key f) ms=some r→gj P c f ms r
abbrev cB (n:Nat) (F:List MV→Option MV) (g:Nat→List MV→Option MV):Nat→List MV→Option MV:=fun k ms=>match Nat.beq k n with|true=>F ms|false=>g k ms
theorem aA.add {P:Program} {c:Ctx} {g:Nat→List MV→Option MV} {n:Nat} {F:List MV→Option MV} (h:aA P c g) (hF: ∀f ms r,c.key f=n→F ms=some r→gj P c f ms r):aA P c (cB n F g):=by
 refine ⟨fun f ms r hr=> ?_⟩
 unfold cB at hr
 cases hk:Nat.beq (c.key f) n with
 |true=>simp only [hk] at hr;exact hF f ms r (Nat.eq_of_beq_eq_true hk) hr
 |false=>simp only [hk] at hr;exact h.all f ms r hr
structure rf (c c':Ctx):Prop where
 ti:c'.ti=c.ti
 key:c'.key=c.key
 cy:c'.cy=c.cy
 fresh:c'.fresh=c.fresh
 hO:c'.hO=c.hO
 fk:c'.fk=c.fk
 mt:c'.mt=c.mt
 sig:c'.sig=c.sig
 u5:c'.u5=c.u5
theorem bu.iX {c c':Ctx} (h:c'.ti=c.ti) {Z:aJ} {e:Env} {w:World} {v:Value} {o:fX} (hs:bu c Z e w v o):bu c' Z e w v o:=by
 obtain ⟨I,cells,h1,h2⟩:=hs.row
 exact ⟨I,cells,by rw [h];exact h1,h2⟩
theorem iW.iX {c c':Ctx} (h:rf c c') {Z:Nat→Prop} {φ:Ph} {w:World} {k:Nat} {v:Value} {r:MV} (hs:iW c Z φ w k v r):iW c' Z φ w k v r:=by
 cases r<;>simp only [iW,h.key,h.hO] at hs⊢ <;>first|exact hs|exact hs.iX h.ti|skip
 rename_i ms
 cases ms with
 |nil=>simp only [yz,h.key] at hs⊢;exact hs
 |cons m r=>
  cases m<;>simp only [yz,h.key,h.hO] at hs⊢ <;>first|exact hs|skip
  obtain ⟨v0,us,h1,h2,h3⟩:=hs
  exact ⟨v0,us,h1,h2.iX h.ti,h3⟩
theorem gh.iX {c c':Ctx} (h:rf c c') {Z:Nat→Prop} {φ:Ph} {w:World} {ax:Nat} {ks:List LK} {ls:List MV} (hs:gh c Z φ w ax ks ls):gh c' Z φ w ax ks ls:=by
 obtain ⟨cs,m,E,arr,T,h1,h2,h3,h4,h5,h6,h7⟩:=hs
 refine ⟨cs,m,E,arr,T,h1,h2,h3,h4,by rw [h.key];exact h5,fun f o ho=>⟨?_,(h6 f o ho).2⟩,h7⟩
 rw [h.key]
 exact (h6 f o ho).1.iX h.ti
theorem pn.iX {c c':Ctx} (h:rf c c') {Z:Nat→Prop} {φ:Ph} {w:World} {k:Nat} {vs:List Value} {v:Value} {r:MV} (hs:pn c Z φ w k vs v r):pn c' Z φ w k vs v r:=by
 cases r<;>simp only [pn] at hs⊢ <;>first|exact hs.iX h|skip
 obtain ⟨h1,pos,ks,ax,off,h2,h3,h4⟩:=hs
 exact ⟨h1.iX h,pos,ks,ax,off,by rw [h.sig];exact h2,h3,h4.iX h⟩
theorem cS.iX {c c':Ctx} (h:rf c c') {Z:Nat→Prop} {φ:Ph} {w:World} {k:Nat} {vs:List Value} {ms:List MV} (hs:cS c' Z φ w k vs ms):cS c Z φ w k vs ms:=by
 unfold cS at hs⊢
 rw [h.cy] at hs
 split
 ·rename_i hg
  rw [if_pos hg] at hs
  rcases hs with ⟨v0,v1,v2,xs,m1,ys,h1,h2,h3,h4,h5,h6⟩|⟨v0,v1,v2,xs,m1,m2,h1,h2,h3,h4,h5,h6⟩|⟨pos,ks,off,ls,ax,h1,h2,h3,h4,h5⟩
  ·rw [h.key,h.hO] at h3 h5
   rw [h.key] at h4
   exact .inl ⟨v0,v1,v2,xs,m1,ys,h1,h2,h3.iX h.ti.symm,h4,h5.iX h.ti.symm,h6⟩
  ·rw [h.key,h.hO] at h4
   rw [h.key] at h5 h6
   exact .inr (.inl ⟨v0,v1,v2,xs,m1,m2,h1,h2,h3,h4.iX h.ti.symm,h5,h6⟩)
  ·refine .inr (.inr ⟨pos,ks,off,ls,ax,by rw [←h.sig];exact h1,h2,h3,by rw [←h.key];exact h4,?_⟩)
   obtain ⟨cs,m,E,arr,T,k1,k2,k3,k4,k5,k6,k7⟩:=h5
   refine ⟨cs,m,E,arr,T,k1,k2,k3,k4,by rw [←h.key];exact k5,fun f o ho=>⟨?_,(k6 f o ho).2⟩,k7⟩
   rw [←h.key]
   exact (k6 f o ho).1.iX h.ti.symm
 ·rename_i hg
  rw [if_neg hg,h.key] at hs
  exact hs
theorem en.mono {P:Program} {f:FuncId} {args:Array Value} {w:World} {R R':Value→World→Prop} (hc:en P f args w R) (h: ∀v w',R v w'→R' v w'):en P f args w R':=by
 unfold en at hc⊢
 split
 ·rename_i ei
  rw [ei] at hc
  exact Calls.mono hc (fun x p8 ⟨v,e,hr⟩=>⟨v,e,h v p8 hr⟩)
 ·rename_i ei
  rw [ei] at hc
  exact h _ _ hc
 ·rename_i h1 h2
  split at hc
  ·rename_i ei;exact absurd ei (h1 _ _ _)
  ·rename_i ei;exact absurd ei (h2 _ _)
  ·exact hc
theorem gj.iX {P:Program} {c c':Ctx} {f:Nat} {ms:List MV} {r:MV} (h:rf c c') (hs:gj P c f ms r):gj P c' f ms r:=by
 intro φ w Z vs hz ha hi
 rw [h.key] at ha
 refine (hs φ w Z vs hz (ha.iX h) hi).mono ?_
 rintro v w' ⟨φ',h1,h2,h3⟩
 rw [h.key]
 exact ⟨φ',h1,h2,h3.iX h⟩
theorem rf.symm {c c':Ctx} (h:rf c c'):rf c' c:=⟨h.ti.symm,h.key.symm,h.cy.symm,h.fresh.symm,h.hO.symm,h.fk.symm,h.mt.symm,h.sig.symm,h.u5.symm⟩
theorem oF.iX {P:Program} {c c':Ctx} (h:rf c c') {g:Nat} {lb:Array Value} {S:Type} {Inv:S→(Nat→Prop)→Ph→World→Prop} {step:S→MV→Option (Bool×S)} (hp:oF P c' g lb Inv step):oF P c g lb Inv step:=
 ⟨fun h1 h2 h3 h4 h5=>hp.call h1 h2 h3 (by rw [h.key];exact h4) h5,hp.frame,hp.mono⟩
theorem np.iX {P:Program} {c c':Ctx} (h:rf c c') (hd:np P c):np P c':=by
 intro f hf
 rw [h.u5] at hf
 have hx:=hd f hf
 refine ⟨?_⟩
 intro S Inv step g lb hp v0 xs ys w Z0 φ0 s0 s' h1 h2 h3 h4 h5 h6 h7
 rw [h.key,h.hO] at h2
 refine (hx.run (hp.iX h) h1 (h2.iX h.ti.symm) h3 h4 h5 h6 h7).mono ?_
 rintro v W ⟨Z,φ,hW,hF,hb⟩
 refine ⟨Z,φ,⟨hW.inv,hW.new,hW.sub,hW.gM,hW.tr,hW.free⟩,?_,hb⟩
 rw [h.key,h.hO]
 exact hF.iX h.ti
def uK (c:Ctx) (n:Nat) (fn:Func) (bk:List (List Kd)):Bool:=
 !(fn.name== "runtime.NumGoroutine")&&Nat.beq c.n fn.ntmps&&Nat.ble (fn.params.size+bk.length) fn.ntmps&&!c.cy n
def sQ (c:Ctx) (n:Nat) (fn:Func):Option Nat→Bool
 |none=>true
 |some ty=>Nat.beq ty (c.hO n)&&(Nat.ble 1 fn.results.toList.length&&(match c.tv ty with|some _=>true|none=>false))
theorem A6 {c:Ctx} {n:Nat} {fn:Func} {fresh:Option Nat} (h:sQ c n fn fresh=true): ∀ty,fresh=some ty→ty=c.hO n∧1≤fn.results.toList.length∧ ∃I,c.tv ty=some I:=by
 rintro ty rfl
 simp only [sQ,Bool.and_eq_true] at h
 obtain ⟨h1,h2,h3⟩:=h
 refine ⟨Nat.eq_of_beq_eq_true h1,Nat.le_of_ble_eq_true h2,?_⟩
 cases hc:c.tv ty with
 |none=>rw [hc] at h3;cases h3
 |some I=>exact ⟨I,rfl⟩
theorem aA.body {P:Program} {c c':Ctx} {g:Nat→List MV→Option MV} {n:Nat} {fn:Func} {bk:List (List Kd)} (h:aA P c g) (hl:rf c c') (M5:c'.g=g) (jF:fp P c.ti) (ei:Ae P c.ti) (wK: ∀t k,c.fk t=some k→P.underlying t=some (.float k)) (BE:r8 P c) (A5:P.follows .mixedOrders=true) (yU:np P c)
 (hf:P.funcs[n]? =some fn) (hh:uK c' n fn bk=true) (r6: ∀f,c.key f=f) {fresh:Option Nat} (tx:sQ c' n fn fresh=true):aA P c (cB n (uc c' bk fresh fn) g):=by
 have hG:Good P c':=by
  refine ⟨by rw [hl.ti];exact jF,by rw [hl.ti];exact ei,fun f ms r hr=> ?_,by rw [hl.fk];exact wK,fun t s hs=>BE t s ?_⟩
  ·rw [M5,hl.key] at hr
   exact (h.all f ms r hr).iX hl
  ·rw [←hs];unfold mC Ctx.tv;rw [hl.mt,hl.ti]
 refine h.add (fun f ms r hk hr=> ?_)
 rw [r6] at hk
 subst hk
 simp only [uK,Bool.and_eq_true,Bool.not_eq_true'] at hh
 obtain ⟨⟨⟨h1,h2⟩,h3⟩,h4⟩:=hh
 exact (Ft hG (DM hG A5 (yU.iX hl)) hf h1 (Nat.eq_of_beq_eq_true h2) (Nat.le_of_ble_eq_true h3) (by rw [hl.key,r6];exact h4) (by rw [hl.key,r6];exact A6 tx) hr).iX hl.symm
end Dn
/-
  Steps through a function of the library by hand. Conditions: none.
-/
set_option linter.unusedSimpArgs false
set_option linter.unusedVariables false
namespace Dn
open Go
def KA (σ:Nat→Value) (d:Nat) (v:Value):Nat→Value:=fun t=>bif Nat.beq t d then v else σ t
def ev (σ:Nat→Value):Operand→Value
 | .tmp t=>σ t
 | .const v=>v
 | .global g=> .pointer (some ⟨g,0,none⟩)
 | .func f=> .func (.func f) #[] #[]
structure Tm (a:Act) (n:Nat) (σ:Nat→Value):Prop where
 defers:a.defers=[]
 size:a.tmps.size=n
 get: ∀t,a.tmps.getD t undef=σ t
theorem Tm.eval {a:Act} {n:Nat} {σ:Nat→Value} (h:Tm a n σ):a.eval=ev σ:=by
 funext x
 cases x with
 |tmp t=>exact h.get t
 |_=>rfl
theorem Tm.put {a:Act} {n:Nat} {σ:Nat→Value} (h:Tm a n σ) {d:Nat} (hd:d<n) (v:Value):Tm (a.put (some d) v) n (KA σ d v):=by
 refine ⟨h.defers,by simp [Act.put,h.size],fun t=> ?_⟩
 show (a.tmps.setIfInBounds d v).getD t undef=bif Nat.beq t d then v else σ t
 by_cases ht:t=d
 ·subst ht
  have:t<a.tmps.size:=by rw [h.size];exact hd
  simp [this]
 ·have hb:Nat.beq t d=false:=by
   cases hq:Nat.beq t d with
   |false=>rfl
   |true=>exact absurd (Nat.eq_of_beq_eq_true hq) ht
  rw [hb]
  have:=h.get t
  simp only [Array.getD_eq_getD_getElem?,Array.getElem?_setIfInBounds_ne (Ne.symm ht),cond_false] at this⊢
  exact this
section
variable {P:Program} {Q:Exit→Act→World→Prop} {ops:Array Oper} {o:Oper} {a:Act} {w w':World} {n:Nat} {σ:Nat→Value}
theorem Tm.step {i d:Nat} {op:Op} {rest:List Nat} {v:Value} (A7:Tm a n σ) (hi:ops[i]? =some o) (ho:aq o d op) (hd:d<n) (aX:(execOp (ev σ) o).run P w= .ok (.value v) w')
 (h: ∀a',Tm a' n (KA σ d v)→wpOps P ops Q rest a' w'):wpOps P ops Q (i::rest) a w:=by
 refine Ii hi ho.guard (v:=v) (w':=w') (by rw [A7.eval];exact aX) ?_
 rw [ho.dst]
 exact h _ (A7.put hd v)
def xx (ops:Array Oper):Nat→Nat→Array Bool→Bool
 |0,i,listed=>(Region.ready .any ops (listed.setIfInBounds i true)).isEmpty&&(Region.ready .any ops listed==[i])
 |k+1,i,listed=>Region.free .any ops listed i&&(Region.ready .any ops listed).contains i&&xx ops k (i+1) (listed.setIfInBounds i true)
def GO (ops:Array Oper):Bool:=Region.noSelect ops&&Nat.blt 0 ops.size&&xx ops (ops.size-1) 0 (Array.replicate ops.size false)
structure DN (ops:Array Oper) (k i:Nat) (listed:Array Bool):Prop where
 QV:Region.noSelect ops=true
 ord:xx ops k i listed=true
theorem Tm.draw {N:Act→World→Prop} {i d:Nat} {op:Op} {k:Nat} {listed:Array Bool} {v:Value} (A7:Tm a n σ) (hi:ops[i]? =some o) (ho:aq o d op) (hd:d<n) (hb:DN ops (k+1) i listed) (aX: ∀w,(execOp (ev σ) o).run P w= .ok (.value v) w)
 (h: ∀a',Tm a' n (KA σ d v)→DN ops k (i+1) (listed.setIfInBounds i true)→wpAny P .any ops (lm N) (k+1) (listed.setIfInBounds i true) a' w):wpAny P .any ops (lm N) (k+2) listed a w:=by
 obtain ⟨hs,hb⟩:=hb
 simp only [xx,Bool.and_eq_true] at hb
 obtain ⟨⟨h1,h2⟩,h3⟩:=hb
 refine wpAny_take hi hs h1 h2 (fun c a w hq=>hq.elim) (v:=v) (.inl ⟨by simp [Region.wanted,ho.guard],fun w=>by rw [A7.eval];exact aX w⟩) ?_
 rw [ho.dst]
 exact h _ (A7.put hd v) ⟨hs,h3⟩
theorem Tm.last {N:Act→World→Prop} {i d:Nat} {op:Op} {listed:Array Bool} {v:Value} (A7:Tm a n σ) (hi:ops[i]? =some o) (ho:aq o d op) (hd:d<n) (hb:DN ops 0 i listed) (aX:(execOp (ev σ) o).run P w= .ok (.value v) w')
 (h: ∀a',Tm a' n (KA σ d v)→N a' w'):wpAny P .any ops (lm N) 1 listed a w:=by
 obtain ⟨hs,hb⟩:=hb
 simp only [xx,Bool.and_eq_true,List.isEmpty_iff,beq_iff_eq] at hb
 obtain ⟨h1,h2⟩:=hb
 refine wpAny_all h2 (by simp) ?_
 intro j hj
 simp only [List.mem_singleton] at hj
 subst hj
 unfold wpOp
 simp only [hi,Region.wanted,ho.guard,if_true]
 left
 unfold Oper.wp
 rw [A7.eval,aX,Oper.upon_value,ho.dst]
 exact wpAny_done h1 (h _ (A7.put hd v)) 0
theorem Tm.cond {x:Operand} {b:Bool} {A B:Code} (A7:Tm a n σ) (hx:ev σ x= .bool b) (h:(if b then A else B).wp P Q a w):(Code.cond x A B).wp P Q a w:=by
 refine wp_cond (t:=b) (by rw [A7.eval];exact hx) h
end
end Dn
/-
  slices.Insert of the library, walked. Printed by a program. Conditions: none.
-/
set_option linter.unusedSimpArgs false
set_option linter.unusedVariables false
namespace Dn
open Go
structure M6 (t ti tb fo:Nat) (o:Nat→Oper):Prop where
 h0:aq (o 0) 6 (.assign (.const (.slice none 0 0)))
 h1:aq (o 1) 10 (.move (.tmp 0))
 h2:aq (o 2) 11 (.move (.tmp 1))
 h3:aq (o 3) 12 (.slice t (.tmp 10) (some (.tmp 11)) none none)
 h4:aq (o 4) 13 (.move (.tmp 2))
 h5:aq (o 5) 14 (.call {callee:= .builtin .len,args:= #[.tmp 13],argTypes:= #[t]})
 h6:aq (o 6) 7 (.assign (.tmp 14))
 h7:aq (o 7) 15 (.move (.tmp 7))
 h8:aq (o 8) 16 (.binOp .eql ti (.tmp 15) (.const (.int .i64 0)) ti)
 h9:aq (o 9) 17 (.move (.tmp 0))
 HU:aq (o 10) 6 (.assign (.tmp 17))
 M7:aq (o 11) 18 (.move (.tmp 0))
 M8:aq (o 12) 19 (.call {callee:= .builtin .len,args:= #[.tmp 18],argTypes:= #[t]})
 M9:aq (o 13) 8 (.assign (.tmp 19))
 Na:aq (o 14) 20 (.move (.tmp 1))
 Nb:aq (o 15) 21 (.move (.tmp 8))
 Nc:aq (o 16) 22 (.binOp .eql ti (.tmp 20) (.tmp 21) ti)
 Nd:aq (o 17) 23 (.move (.tmp 0))
 Od:aq (o 18) 24 (.move (.tmp 2))
 Oe:aq (o 19) 25 (.call {callee:= .builtin .append,args:= #[.tmp 23,.tmp 24],argTypes:= #[t,t]})
 Of:aq (o 20) 6 (.assign (.tmp 25))
 Og:aq (o 21) 26 (.move (.tmp 8))
 Oh:aq (o 22) 27 (.move (.tmp 7))
 Oi:aq (o 23) 28 (.binOp .add ti (.tmp 26) (.tmp 27) ti)
 Oj:aq (o 24) 29 (.move (.tmp 0))
 Ok:aq (o 25) 30 (.call {callee:= .builtin .cap,args:= #[.tmp 29],argTypes:= #[t]})
 Ol:aq (o 26) 31 (.binOp .gtr ti (.tmp 28) (.tmp 30) ti)
 Om:aq (o 27) 32 (.move (.tmp 0))
 On:aq (o 28) 33 (.move (.tmp 1))
 Oo:aq (o 29) 34 (.slice t (.tmp 32) none (some (.tmp 33)) none)
 Oq:aq (o 30) 35 (.move (.tmp 8))
 Qc:aq (o 31) 36 (.move (.tmp 7))
 Qd:aq (o 32) 37 (.binOp .add ti (.tmp 35) (.tmp 36) ti)
 Qe:aq (o 33) 38 (.move (.tmp 1))
 Qf:aq (o 34) 39 (.binOp .sub ti (.tmp 37) (.tmp 38) ti)
 Qg:aq (o 35) 40 (.call {callee:= .builtin .append,args:= #[.tmp 34,.tmp 39],argTypes:= #[t,ti]})
 Qh:aq (o 36) 9 (.assign (.tmp 40))
 Qi:aq (o 37) 41 (.move (.tmp 9))
 Qj:aq (o 38) 42 (.move (.tmp 1))
 Qk:aq (o 39) 43 (.slice t (.tmp 41) (some (.tmp 42)) none none)
 Ql:aq (o 40) 44 (.move (.tmp 2))
 Qm:aq (o 41) 45 (.call {callee:= .builtin .copy,args:= #[.tmp 43,.tmp 44],argTypes:= #[t,t]})
 Qn:aq (o 42) 46 (.move (.tmp 9))
 Qo:aq (o 43) 47 (.move (.tmp 1))
 Qp:aq (o 44) 48 (.move (.tmp 7))
 QW:aq (o 45) 49 (.binOp .add ti (.tmp 47) (.tmp 48) ti)
 QX:aq (o 46) 50 (.slice t (.tmp 46) (some (.tmp 49)) none none)
 QY:aq (o 47) 51 (.move (.tmp 0))
 O3:aq (o 48) 52 (.move (.tmp 1))
 QZ:aq (o 49) 53 (.slice t (.tmp 51) (some (.tmp 52)) none none)
 Q0:aq (o 50) 54 (.call {callee:= .builtin .copy,args:= #[.tmp 50,.tmp 53],argTypes:= #[t,t]})
 Q1:aq (o 51) 55 (.move (.tmp 9))
 Q2:aq (o 52) 6 (.assign (.tmp 55))
 Q3:aq (o 53) 56 (.move (.tmp 0))
 Q4:aq (o 54) 57 (.move (.tmp 8))
 Q5:aq (o 55) 58 (.move (.tmp 7))
 Q6:aq (o 56) 59 (.binOp .add ti (.tmp 57) (.tmp 58) ti)
 Q7:aq (o 57) 60 (.slice t (.tmp 56) none (some (.tmp 59)) none)
 Q8:aq (o 58) 0 (.assign (.tmp 60))
 Q9:aq (o 59) 61 (.move (.tmp 2))
 Ra:aq (o 60) 62 (.move (.tmp 0))
 Rb:aq (o 61) 63 (.move (.tmp 1))
 Rc:aq (o 62) 64 (.move (.tmp 7))
 NM:aq (o 63) 65 (.binOp .add ti (.tmp 63) (.tmp 64) ti)
 Re:aq (o 64) 66 (.slice t (.tmp 62) (some (.tmp 65)) none none)
 Rf:aq (o 65) 67 (.call {callee:= .value (.func fo),args:= #[.tmp 61,.tmp 66],argTypes:= #[t,t]})
 Rg:aq (o 66) 68 (.unOp .not tb (.tmp 67))
 Rh:aq (o 67) 69 (.move (.tmp 0))
 Ri:aq (o 68) 70 (.move (.tmp 1))
 Rj:aq (o 69) 71 (.move (.tmp 7))
 Rk:aq (o 70) 72 (.binOp .add ti (.tmp 70) (.tmp 71) ti)
 Rl:aq (o 71) 73 (.slice t (.tmp 69) (some (.tmp 72)) none none)
 Rm:aq (o 72) 74 (.move (.tmp 0))
 Rn:aq (o 73) 75 (.move (.tmp 1))
 Ro:aq (o 74) 76 (.slice t (.tmp 74) (some (.tmp 75)) none none)
 Rq:aq (o 75) 77 (.call {callee:= .builtin .copy,args:= #[.tmp 73,.tmp 76],argTypes:= #[t,t]})
 Rr:aq (o 76) 78 (.move (.tmp 0))
 Rs:aq (o 77) 79 (.move (.tmp 1))
 Rt:aq (o 78) 80 (.slice t (.tmp 78) (some (.tmp 79)) none none)
 Ru:aq (o 79) 81 (.move (.tmp 2))
 Rv:aq (o 80) 82 (.call {callee:= .builtin .copy,args:= #[.tmp 80,.tmp 81],argTypes:= #[t,t]})
 Rw:aq (o 81) 83 (.move (.tmp 0))
 Rx:aq (o 82) 6 (.assign (.tmp 83))
 d11:GO #[o 42,o 43,o 44,o 45,o 46,o 47,o 48,o 49,o 50]=true
 d15:GO #[o 67,o 68,o 69,o 70,o 71,o 72,o 73,o 74,o 75]=true
section
variable {P:Program} {f t ti tb el fo:Nat} {fn:Func} {r:Nat→Nat} {o:Nat→Oper} {tail:Code} {ie:TypeInfo} {size n m c c2 i g g2:Nat} {ad:Option Addr} {w:World}
end
end Dn
/-
  What slices.Insert does to a slice of its own. Conditions: none.
-/
set_option linter.unusedSimpArgs false
set_option linter.unusedVariables false
namespace Dn
open Go
section
variable {key:Nat→Nat} {φ:Ph} {size:Nat}
theorem az.take {xs:List MV}: ∀{cs:List Value} (i:Nat),az key φ size cs xs→az key φ size (cs.take (i *size)) (xs.take i):=by
 induction xs with
 |nil=>intro cs i h;cases h;simp [az]
 |cons x xs ih=>
  intro cs i h
  obtain ⟨v,q,rfl,h1,h2,h3⟩:=h
  cases i with
  |zero=>simp [az]
  |succ i=>
   refine ⟨v,q.take (i *size),?_,h1,h2,ih i h3⟩
   rw [Nat.add_mul,Nat.one_mul,Nat.add_comm,List.take_append,h1]
   congr 1
   ·exact List.take_of_length_le (by omega)
   ·congr 1;omega
theorem az.drop {xs:List MV}: ∀{cs:List Value} (i:Nat),az key φ size cs xs→az key φ size (cs.drop (i *size)) (xs.drop i):=by
 induction xs with
 |nil=>intro cs i h;cases h;simp [az]
 |cons x xs ih=>
  intro cs i h
  cases i with
  |zero=>simpa using h
  |succ i=>
   obtain ⟨v,q,rfl,h1,h2,h3⟩:=h
   have:=ih i h3
   rw [Nat.add_mul,Nat.one_mul,Nat.add_comm,List.drop_append,h1,List.drop_of_length_le (by omega),List.nil_append,Nat.add_sub_cancel_left]
   simpa using this
end
section
variable {P:Program} {c:Ctx} {f:Nat} {W W':World} {φ:Ph} {Z:Nat→Prop} {v0 v':Value}
end
end Dn
/-
  slices.Delete of the library, walked. Conditions: none.
-/
set_option linter.unusedSimpArgs false
set_option linter.unusedVariables false
namespace Dn
open Go
structure zO (o:Oper) (op:Op):Prop where
 dst:o.dst=none
 op:o.op=op
 guard:o.guard=none
section
variable {P:Program} {Q:Exit→Act→World→Prop} {ops:Array Oper} {o:Oper} {a:Act} {w w':World} {n:Nat} {σ:Nat→Value}
def DO (ops:Array Oper):Nat→Nat→Array Bool→Bool
 |0,i,listed=>(Region.ready .any ops listed==[i])&&(Region.ready .any ops (listed.setIfInBounds i true)==[i+1])&&(Region.ready .any ops ((listed.setIfInBounds i true).setIfInBounds (i+1) true)).isEmpty
 |k+1,i,listed=>Region.free .any ops listed i&&(Region.ready .any ops listed).contains i&&DO ops k (i+1) (listed.setIfInBounds i true)
def Ij (ops:Array Oper):Bool:=Region.noSelect ops&&Nat.blt 1 ops.size&&DO ops (ops.size-2) 0 (Array.replicate ops.size false)
end
structure Nf (t ti:Nat) (o:Nat→Oper):Prop where
 h0:aq (o 0) 6 (.assign (.const (.slice none 0 0)))
 h1:aq (o 1) 8 (.move (.tmp 0))
 h2:aq (o 2) 9 (.move (.tmp 1))
 h3:aq (o 3) 10 (.move (.tmp 2))
 h4:aq (o 4) 11 (.move (.tmp 0))
 h5:aq (o 5) 12 (.call {callee:= .builtin .len,args:= #[.tmp 11],argTypes:= #[t]})
 h6:aq (o 6) 13 (.slice t (.tmp 8) (some (.tmp 9)) (some (.tmp 10)) (some (.tmp 12)))
 h7:aq (o 7) 14 (.move (.tmp 1))
 h8:aq (o 8) 15 (.move (.tmp 2))
 h9:aq (o 9) 16 (.binOp .eql ti (.tmp 14) (.tmp 15) ti)
 HU:aq (o 10) 17 (.move (.tmp 0))
 M7:aq (o 11) 6 (.assign (.tmp 17))
 M8:aq (o 12) 18 (.move (.tmp 0))
 M9:aq (o 13) 19 (.call {callee:= .builtin .len,args:= #[.tmp 18],argTypes:= #[t]})
 Na:aq (o 14) 7 (.assign (.tmp 19))
 Nb:aq (o 15) 20 (.move (.tmp 0))
 Nc:aq (o 16) 21 (.move (.tmp 1))
 Nd:aq (o 17) 22 (.slice t (.tmp 20) none (some (.tmp 21)) none)
 Od:aq (o 18) 23 (.move (.tmp 0))
 Oe:aq (o 19) 24 (.move (.tmp 2))
 Of:aq (o 20) 25 (.slice t (.tmp 23) (some (.tmp 24)) none none)
 Og:aq (o 21) 26 (.call {callee:= .builtin .append,args:= #[.tmp 22,.tmp 25],argTypes:= #[t,t]})
 Oh:aq (o 22) 0 (.assign (.tmp 26))
 Oi:aq (o 23) 27 (.move (.tmp 0))
 Oj:aq (o 24) 28 (.move (.tmp 0))
 Ok:aq (o 25) 29 (.call {callee:= .builtin .len,args:= #[.tmp 28],argTypes:= #[t]})
 Ol:aq (o 26) 30 (.move (.tmp 7))
 Om:aq (o 27) 31 (.slice t (.tmp 27) (some (.tmp 29)) (some (.tmp 30)) none)
 On:zO (o 28) (.call {callee:= .builtin .clear,args:= #[.tmp 31],argTypes:= #[t]})
 Oo:aq (o 29) 32 (.move (.tmp 0))
 Oq:aq (o 30) 6 (.assign (.tmp 32))
 d5:Ij #[o 15,o 16,o 17,o 18,o 19,o 20,o 21,o 22]=true
section
variable {P:Program} {f t ti el:Nat} {fn:Func} {r:Nat→Nat} {o:Nat→Oper} {ie:TypeInfo} {size n c i j g:Nat} {ad:Option Addr} {w:World}
end
section
variable {P:Program} {c:Ctx} {f:Nat}
end
end Dn
/-
  Functions of the library as table entries. Conditions: none.
-/
set_option linter.unusedVariables false
namespace Dn
open Go
theorem aA.none (P:Program) (c:Ctx):aA P c (fun _ _=>Option.none):=⟨fun f ms r h=>by cases h⟩
theorem aA.Ik {P:Program} {c:Ctx} {g:Nat→List MV→Option MV} {n:Nat} {F:List MV→Option MV} (h:aA P c g) (r6: ∀f,c.key f=f) (hF: ∀ms r,F ms=some r→gj P c n ms r):aA P c (cB n F g):=
 h.add (fun f ms r hk hr=>by
  rw [r6] at hk
  rw [hk]
  exact hF ms r hr)
end Dn
/-
  Reasoning about functions on values. Conditions: none.
-/
set_option linter.unusedVariables false
namespace Dn
open Go
section
variable {R:Type}
@[simp] theorem Qq (x : Bool) (K : Bool → Option R) : gB (.b x) K = K x := (rfl)
@[simp] theorem Qr (k : IntKind) (x : Int) (K : Int → Option R) : gI k (.i k x) K = K x := by simp [gI]
@[simp] theorem Qs (x : List UInt8) (K : List UInt8 → Option R) : gS (.s x) K = K x := (rfl)
@[simp] theorem Qt (x : List MV) (K : List MV → Option R) : gL (.list x) K = K x := (rfl)
@[simp] theorem Qu (x : dW) (K : dW → Option R) : gH (.h x) K = K x := (rfl)
@[simp] theorem Qv (x : List MV) (K : List MV → Option R) : gA (.agg x) K = K x := (rfl)
@[simp] theorem Qw (x : List MV) (K : List MV → Option R) : gT (.fS x) K = K x := (rfl)
@[simp] theorem Qx (x : List MV) (K : List MV → Option R) : gF (.fresh x) K = K x := (rfl)
@[simp] theorem Ot (f : Nat) (x : List MV) (K : Nat → List MV → Option R) : F7 (.func f x) K = K f x := (rfl)
@[simp] theorem Qy (f : Nat) (x : List MV) (K : MV → Option R) : gR (.func f x) K = K (.func f x) := (rfl)
@[simp] theorem Qz (m : MV) (r : List MV) (K : MV → List MV → Option R) : gC (m :: r) K = K m r := (rfl)
@[simp] theorem QA (K : Option R) : gN [] K = K := (rfl)
@[simp] theorem bY {α : Type} (a : α) (K : α → Option R) : bd (some a) K = K a := (rfl)
@[simp] theorem Ou (a b : Nat) : Nat.beq a b = decide (a = b) := cE a b
@[simp] theorem KB (K : Option R) : cR true K = K := (rfl)
@[simp] theorem KC (x y : Option R) : b3 true x y = x := (rfl)
@[simp] theorem IX (x y : Option R) : b3 false x y = y := (rfl)
end
theorem FM {x:Int} (h1: -9223372036854775808≤x) (h2:x≤9223372036854775807):IntKind.wrap .i64 x=x:=by rw [IntKind.wrap_i64];omega
section
variable {σ R:Type} {body:σ→Option (Sum σ R)}
theorem uL {n:Nat} {s:σ} {r:R} (h:iter body n s=some r): ∀{m:Nat},n≤m→iter body m s=some r:=by
 induction n generalizing s with
 |zero=>cases h
 |succ n ih=>
  intro m hm
  obtain ⟨m,rfl⟩: ∃k,m=k+1:=⟨m-1,by omega⟩
  simp only [iter] at h⊢
  cases hb:body s with
  |none=>rw [hb] at h;cases h
  |some x=>
   rw [hb] at h
   cases x with
   |inl s'=>exact ih h (by omega)
   |inr r'=>exact h
theorem gm {n:Nat} {s:σ} {r:R} (h:iter body n s=some r):Loop body s=some r:=by
 have he: ∃r n,iter body n s=some r:=⟨r,n,h⟩
 unfold Loop
 rw [dif_pos he]
 obtain ⟨m,hm⟩:=Classical.choose_spec he
 have h1:=uL h (Nat.le_max_left n m)
 have h2:=uL hm (Nat.le_max_right n m)
 rw [h1] at h2
 exact h2.symm
theorem DP (I:σ→Prop) (μ:σ→Nat) (Q:R→Prop) (h: ∀s,I s→(∃s',body s=some (.inl s')∧I s'∧μ s'<μ s)∨(∃r,body s=some (.inr r)∧Q r)) {s:σ} (hs:I s): ∃r,Loop body s=some r∧Q r:=by
 have key: ∀k s,I s→μ s<k→ ∃r,iter body k s=some r∧Q r:=by
  intro k
  induction k with
  |zero=>intro s _ h;omega
  |succ k ih=>
   intro s hs hk
   rcases h s hs with ⟨s',e,hi,hm⟩|⟨r,e,hq⟩
   ·obtain ⟨r,e2,hq⟩:=ih s' hi (by omega)
    exact ⟨r,by simp only [iter,e];exact e2,hq⟩
   ·exact ⟨r,by simp only [iter,e],hq⟩
 obtain ⟨r,e,hq⟩:=key (μ s+1) s hs (by omega)
 exact ⟨r,gm e,hq⟩
theorem DQ (S:Nat→σ) (N:Nat) (Q:R→Prop) (P:Nat→Prop) (h0:P 0) (h: ∀k,k<N→P k→(body (S k)=some (.inl (S (k+1)))∧P (k+1))∨(∃r,body (S k)=some (.inr r)∧Q r)) (he:P N→ ∃r,body (S N)=some (.inr r)∧Q r): ∃r,Loop body (S 0)=some r∧Q r:=by
 have key: ∀d k,k+d=N→P k→ ∃r,iter body (d+1) (S k)=some r∧Q r:=by
  intro d
  induction d with
  |zero=>
   intro k hk hp
   have:k=N:=by omega
   subst this
   obtain ⟨r,e,hq⟩:=he hp
   exact ⟨r,by simp only [iter,e],hq⟩
  |succ d ih=>
   intro k hk hp
   rcases h k (by omega) hp with ⟨e,vp⟩|⟨r,e,hq⟩
   ·obtain ⟨r,e2,hq⟩:=ih (k+1) (by omega) vp
    exact ⟨r,by rw [iter,e];exact e2,hq⟩
   ·exact ⟨r,by rw [iter,e],hq⟩
 obtain ⟨r,e,hq⟩:=key N 0 (by omega) h0
 exact ⟨r,gm e,hq⟩
end
end Dn
/-
  From functions on plain values to functions on typed values. Conditions: none.
-/
set_option linter.unusedVariables false
namespace Dn
open Go
def fU {R:Type} (l:List MV) (K:Nat→Option R):Option R:=K l.length
def ix {α R:Type} (l:List α) (i:Int) (K:α→Option R):Option R:=
 match (if 0≤i then l[i.toNat]? else none) with|some x=>K x|none=>none
def KD (l:List UInt8):List Int:=l.map fun b=>(b.toNat:Int)
@[simp] theorem Lk (l : List UInt8) : zZ l = (KD l).map (MV.i .u8) := by unfold zZ KD; rw [List.map_map]; rfl
@[reducible] def Il {α : Type} (f : α → MV) (l : List α) : MV := .fresh (l.map f)
def Sm {A B:Type} (g:B→A) (x:Option A) (y:Option B):Prop:=x=y.map g
section
variable {A B A' B' α:Type} {g:B→A} {T:Option B}
theorem Sm.at {x x':Option A} (e:x=x') (h:Sm g x' T):Sm g x T:=e▸h
theorem aU {x:Bool} {K:Bool→Option A} (h:Sm g (K x) T):Sm g (gB (.b x) K) T:=h
theorem aL {x:List UInt8} {K:List UInt8→Option A} (h:Sm g (K x) T):Sm g (gS (.s x) K) T:=h
theorem gX {x:List MV} {K:List MV→Option A} (h:Sm g (K x) T):Sm g (gL (.list x) K) T:=h
theorem gn {x:List MV} {K:List MV→Option A} (h:Sm g (K x) T):Sm g (gT (.fS x) K) T:=h
theorem qR {x:List MV} {K:List MV→Option A} (h:Sm g (K x) T):Sm g (gF (.fresh x) K) T:=h
theorem DR {f:Nat} {x:List MV} {K:Nat→List MV→Option A} (h:Sm g (K f x) T):Sm g (F7 (.func f x) K) T:=h
theorem sR {f:Nat} {x:List MV} {K:MV→Option A} (h:Sm g (K (.func f x)) T):Sm g (gR (.func f x) K) T:=h
theorem bx {k:IntKind} {n:Int} {K:Int→Option A} (h:Sm g (K n) T):Sm g (gI k (.i k n) K) T:=by simpa using h
theorem ar {m:MV} {r:List MV} {K:MV→List MV→Option A} (h:Sm g (K m r) T):Sm g (gC (m::r) K) T:=h
theorem aE {K:Option A} (h:Sm g K T):Sm g (gN [] K) T:=h
theorem av {x:Option A'} {y:Option B'} {f:B'→A'} {K:A'→Option A} {K':B'→Option B} (h:Sm f x y) (hk: ∀b,Sm g (K (f b)) (K' b)):Sm g (bd x K) (bd y K'):=by
 unfold Sm at h;subst h
 cases y with
 |none=>rfl
 |some b=>exact hk b
theorem bl {p:Prop} [Decidable p] {X Y:Option A} {X' Y':Option B} (h1:Sm g X X') (h2:Sm g Y Y'):Sm g (b3 (decide p) X Y) (if p then X' else Y'):=by
 by_cases h:p<;>simpa [h] using (by assumption)
theorem aW {c:Bool} {X Y:Option A} {X' Y':Option B} (h1:Sm g X X') (h2:Sm g Y Y'):Sm g (b3 c X Y) (if c then X' else Y'):=by
 cases c<;>simpa using (by assumption)
theorem cr {p:Prop} [Decidable p] {X:Option A} {X':Option B} (h1:Sm g X X'):Sm g (cR (decide p) X) (if p then X' else none):=by
 by_cases h:p
 ·simpa [h] using h1
 ·simp [h,cR,Sm]
theorem gp {c:Bool} {X:Option A} (hc:c=true) (h:Sm g X T):Sm g (cR c X) T:=by subst hc;exact h
theorem kN {c:Bool} {X Y:Option A} (hc:c=true) (h:Sm g X T):Sm g (b3 c X Y) T:=by subst hc;exact h
theorem kO {c:Bool} {X Y:Option A} (hc:c=false) (h:Sm g Y T):Sm g (b3 c X Y) T:=by subst hc;exact h
theorem b9 {l:List MV} {n:Nat} {K:Nat→Option A} (e:l.length=n) (h:Sm g (K n) T):Sm g (fU l K) T:=by subst e;exact h
theorem ig {l:List MV} {M:List α} {f:α→MV} {i:Int} {K:MV→Option A} {K':α→Option B} (e:l=M.map f) (h: ∀y,Sm g (K (f y)) (K' y)):Sm g (idx l i K) (ix M i K'):=by
 subst e
 unfold idx GX ix
 by_cases hi:0≤i
 ·simp only [hi,if_true,List.getElem?_map]
  cases M[i.toNat]? with
  |none=>rfl
  |some y=>exact h y
 ·simp only [hi,if_false];rfl
def yX {R:Type} (l:List Int) (K:List UInt8→Option R):Option R:=if l.all isByte then K (l.map fun n=>UInt8.ofNat n.toNat) else none
theorem DS {R:Type} {M:List Int}: ∀{K:List UInt8→Option R},vd (M.map (MV.i .u8)) K=yX M K:=by
 induction M with
 |nil=>intro K;rfl
 |cons n M ih=>
  intro K
  simp only [List.map_cons,vd,Lx,gI,decide_true,cond_true,ih]
  cases h:isByte n<;>simp [cR,yX,h]
theorem Im {l:List MV} {M:List Int} {K:List UInt8→Option A} {K':List UInt8→Option B} (e:l=M.map (MV.i .u8)) (h: ∀b,Sm g (K b) (K' b)):Sm g (vd l K) (yX M K'):=by
 subst e
 rw [DS]
 unfold yX
 split
 ·exact h _
 ·rfl
theorem ab {d:A} {a:B} (e:d=g a):Sm g (some d) (some a):=by subst e;rfl
theorem xy {σ σ' ρ ρ':Type} {e:σ'→σ} {f:ρ'→ρ} {K:σ→Option (Sum σ ρ)} {K':σ'→Option (Sum σ' ρ')} (h: ∀s,Sm (Sum.map e f) (K (e s)) (K' s)) (n:Nat) (s:σ'):iter K n (e s)=(iter K' n s).map f:=by
 induction n generalizing s with
 |zero=>rfl
 |succ n ih=>
  have:=h s
  unfold Sm at this
  simp only [iter,this]
  cases K' s with
  |none=>rfl
  |some x=>cases x with
   |inl s'=>exact ih s'
   |inr r=>rfl
theorem uM {σ ρ:Type} {K:σ→Option (Sum σ ρ)} {s:σ} (h: ∀n,iter K n s=none):Loop K s=none:=by
 unfold Loop
 rw [dif_neg]
 rintro ⟨r,n,e⟩
 rw [h] at e;cases e
theorem dR {σ σ' ρ ρ':Type} {K:σ→Option (Sum σ ρ)} {K':σ'→Option (Sum σ' ρ')} {d0:σ} {s0:σ'} (e:σ'→σ) (f:ρ'→ρ) (e0:d0=e s0) (h: ∀s,Sm (Sum.map e f) (K (e s)) (K' s)):Sm f (Loop K d0) (Loop K' s0):=by
 subst e0
 unfold Sm
 by_cases hx: ∃r n,iter K' n s0=some r
 ·obtain ⟨r,n,hn⟩:=hx
  rw [gm hn]
  have:iter K n (e s0)=some (f r):=by rw [xy h,hn];rfl
  rw [gm this];rfl
 ·have h1: ∀n,iter K' n s0=none:=fun n=>by
   cases hn:iter K' n s0 with
   |none=>rfl
   |some r=>exact absurd ⟨r,n,hn⟩ hx
  rw [uM h1,uM fun n=>by rw [xy h,h1];rfl];rfl
end
abbrev Io (f:Option MV):List MV→Option MV|[]=>f|_=>none
abbrev oH (f:MV→Option MV):List MV→Option MV|[a]=>f a|_=>none
abbrev iY (f:MV→MV→Option MV):List MV→Option MV|[a,b]=>f a b|_=>none
abbrev Ip (f:MV→MV→MV→Option MV):List MV→Option MV|[a,b,c]=>f a b c|_=>none
theorem FN {f:Option MV} {B:List MV→Option MV} (h:B []=f) {ms:List MV} {r:MV} (e:Io f ms=some r):B ms=some r:=by
 unfold Io at e;split at e
 ·rw [h];exact e
 ·cases e
theorem e8 {f:MV→Option MV} {B:List MV→Option MV} (h: ∀a,B [a]=f a) {ms:List MV} {r:MV} (e:oH f ms=some r):B ms=some r:=by
 unfold oH at e;split at e
 ·rw [h];exact e
 ·cases e
theorem ca {f:MV→MV→Option MV} {B:List MV→Option MV} (h: ∀a b,B [a,b]=f a b) {ms:List MV} {r:MV} (e:iY f ms=some r):B ms=some r:=by
 unfold iY at e;split at e
 ·rw [h];exact e
 ·cases e
theorem FO {f:MV→MV→MV→Option MV} {B:List MV→Option MV} (h: ∀a b c,B [a,b,c]=f a b c) {ms:List MV} {r:MV} (e:Ip f ms=some r):B ms=some r:=by
 unfold Ip at e;split at e
 ·rw [h];exact e
 ·cases e
theorem aA.fn {P:Program} {c c':Ctx} {g:Nat→List MV→Option MV} {n:Nat} {fn:Func} {bk:List (List Kd)} {F:List MV→Option MV} (h:aA P c g) (hl:rf c c') (M5:c'.g=g) (jF:fp P c.ti) (ei:Ae P c.ti) (wK: ∀t k,c.fk t=some k→P.underlying t=some (.float k)) (BE:r8 P c) (A5:P.follows .mixedOrders=true) (yU:np P c)
 (hf:P.funcs[n]? =some fn) (hh:uK c' n fn bk=true) (r6: ∀f,c.key f=f) {fresh:Option Nat} (tx:sQ c' n fn fresh=true) (hF: ∀{ms r},F ms=some r→uc c' bk fresh fn ms=some r):aA P c (cB n F g):=by
 have hb:=aA.body h hl M5 jF ei wK BE A5 yU hf hh r6 tx
 refine h.add (fun f ms r hk hr=> ?_)
 refine hb.all f ms r ?_
 unfold cB
 rw [hk]
 simp [hF hr]
def DT {α:Type} (p:α→Option Bool):List α→Option (List α)
 |[]=>some []
 |x::xs=>bd (p x) fun b=>bd (DT p xs) fun ys=>some (if b then ys else x::ys)
def DU {α σ:Type} (p:α→σ→Option (Bool×σ)):σ→List α→Option (List α×σ)
 |s,[]=>some ([],s)
 |s,x::xs=>bd (p x s) fun q=>bd (DU p q.2 xs) fun r=>some (if q.1 then r.1 else x::r.1,r.2)
end Dn
/-
  What functions of package strings yield: plain and typed. Conditions: none.
-/
set_option linter.unusedSimpArgs false
set_option linter.unusedVariables false
namespace Dn
open Go
def aQ (c:UInt8):List UInt8→List (List UInt8)
 |[]=>[[]]
 |x::l=>if x=c then []::aQ c l else match aQ c l with
  |p::r=>(x::p)::r
  |[]=>[[x]]
def sS:List MV→Option MV
 |[.s a,.s b]=>bif (Nat.ble 1 a.length&&Nat.ble a.length (2^46))&&(Nat.ble 2 b.length&&(Nat.ble b.length 1000&&b.all fun x=>decide (x.toNat<128))) then some (.s (Lib.trimS a b)) else none
 |_=>none
def jJ:List MV→Option MV
 |[.s a,.i .i32 r]=>bif decide (0≤r∧r<128) then some (.b (decide (0≤Lib.indexByte a r.toNat.toUInt8))) else none
 |_=>none
def nr:List MV→Option MV
 |[.s a,.s [c]]=>bif Nat.ble a.length 4294967280 then some (.fresh ((aQ c a).map MV.s)) else none
 |_=>none
def sT (a b:List UInt8):Option (List UInt8):=bif (Nat.ble 1 a.length&&Nat.ble a.length (2^46))&&(Nat.ble 2 b.length&&(Nat.ble b.length 1000&&b.all fun x=>decide (x.toNat<128))) then some (Lib.trimS a b) else none
def nt (a:List UInt8) (r:Int):Option Bool:=bif decide (0≤r∧r<128) then some (decide (0≤Lib.indexByte a r.toNat.toUInt8)) else none
def sU (a s:List UInt8):Option (List (List UInt8)):=match s with
 |[c]=>bif Nat.ble a.length 4294967280 then some (aQ c a) else none
 |_=>none
theorem Iq (a b:List UInt8):Sm MV.s (sS [.s a,.s b]) (sT a b):=by
 unfold Sm sS sT
 dsimp only
 cases (Nat.ble 1 a.length&&Nat.ble a.length (2^46))&&(Nat.ble 2 b.length&&(Nat.ble b.length 1000&&b.all fun x=>decide (x.toNat<128)))<;>rfl
theorem A8 (a:List UInt8) (r:Int):Sm MV.b (jJ [.s a,.i .i32 r]) (nt a r):=by
 unfold Sm jJ nt
 dsimp only
 cases decide (0≤r∧r<128)<;>rfl
theorem FP (a s:List UInt8):Sm (Il MV.s) (nr [.s a,.s s]) (sU a s):=by
 unfold Sm sU
 split
 ·rename_i c
  unfold nr
  dsimp only
  cases Nat.ble a.length 4294967280<;>rfl
 ·rename_i h
  unfold nr
  split
  ·rename_i h2
   simp only [List.cons.injEq,MV.s.injEq,and_true] at h2
   exact absurd h2.2 (h _)
  ·rfl
end Dn
/-
  Functions of package strings as table entries, by the shelf's contracts. Conditions: none.
-/
set_option linter.unusedSimpArgs false
set_option linter.unusedVariables false
namespace Dn
open Go
theorem A9 (c:UInt8): ∀l:List UInt8,Lib.splitK [c] 0 (Lib.count l [c]) l=aQ c l:=by
 intro l
 induction l with
 |nil=>rw [Lib.count_one];rfl
 |cons b l ih=>
  by_cases hb:b=c
  ·subst hb
   have BG:Lib.index (b::l) [b]=0:=by rw [Lib.index];simp [List.isPrefixOf]
   rw [Lib.count_cons_eq,Nat.add_comm,Lib.splitK,BG]
   simp [aQ,ih]
  ·rw [Lib.count_cons_ne b c l hb]
   have hp:([c]:List UInt8).isPrefixOf (b::l)=false:=by simp [List.isPrefixOf,Ne.symm hb]
   have BG:Lib.index (b::l) [c]=if Lib.index l [c]== -1 then-1 else Lib.index l [c]+1:=by rw [Lib.index,hp];simp
   simp only [aQ,hb,if_false]
   rw [←ih]
   cases hk:Lib.count l [c] with
   |zero=>rfl
   |succ k=>
    have b7:Lib.index l [c]≠ -1:=by intro he;rw [Lib.count_miss he] at hk;cases hk
    have As:=Lib.index_ge l [c]
    obtain ⟨j,hj⟩: ∃j:Nat,Lib.index l [c]=j:=⟨(Lib.index l [c]).toNat,by omega⟩
    have KE:(Lib.index l [c]== -1)=false:=by simpa using b7
    rw [KE,if_neg (by decide)] at BG
    have Ng:(Lib.index (b::l) [c]== -1)=false:=by rw [BG,hj];simp;omega
    rw [Lib.splitK,Lib.splitK,KE,Ng,BG,hj]
    have e1:((j:Int)+1).toNat=j+1:=by omega
    simp [e1]
theorem Ba (c:UInt8) (s:ByteArray):(Lib.splitB ⟨#[c]⟩ 0 (Lib.countB s ⟨#[c]⟩) s).map (·.data.toList)=aQ c s.data.toList:=by
 rw [Lib.splitB_data]
 exact A9 c _
section
variable {P:Program} {ρ:Go.Shelf.Ren} {c:Ctx}
theorem qn {f:FuncId} {args:Array Value} {w:World} {S:Ending→World→Prop} {R:Value→World→Prop} (he: ∀args w,(callFunc f args).run P w= .ok (.enter f args) w) (hc:Calls P f args w S) (h: ∀e w',S e w'→ ∃v,e= .returned v∧R v w'):
 en P f args w R:=by
 unfold en
 rw [he]
 exact hc.mono h
theorem vR {key:Nat→Nat} {φ:Ph} {v:Value} {l:List UInt8} (h:eJ key φ [v] (.s l)): ∃b:ByteArray,v= .string b∧b.data.toList=l:=by
 generalize hv:[v]=vs at h
 cases h
 rename_i b
 exact ⟨b,by simpa using hv,rfl⟩
theorem zP {Z:Nat→Prop} {φ:Ph} {w:World} {k:Nat} {vs:List Value} {a b:List UInt8} (hg:c.cy k=false) (h:cS c Z φ w k vs [.s a,.s b]): ∃x y:ByteArray,vs=[.string x,.string y]∧x.data.toList=a∧y.data.toList=b:=by
 simp only [cS,hg,Bool.false_eq_true,if_false] at h
 obtain ⟨v,u,rfl,⟨_,h1⟩,v2,u2,rfl,⟨_,h2⟩,rfl⟩:=h
 obtain ⟨x,rfl,hx⟩:=vR h1
 obtain ⟨y,rfl,hy⟩:=vR h2
 exact ⟨x,y,rfl,hx,hy⟩
theorem FQ {Z:Nat→Prop} {φ:Ph} {w:World} {k:Nat} {kd:IntKind} {vs:List Value} {a:List UInt8} {n:Int} (hg:c.cy k=false) (h:cS c Z φ w k vs [.s a,.i kd n]): ∃x:ByteArray,vs=[.string x,.int kd n]∧x.data.toList=a:=by
 simp only [cS,hg,Bool.false_eq_true,if_false] at h
 obtain ⟨v,u,rfl,⟨_,h1⟩,v2,u2,rfl,⟨_,h2⟩,rfl⟩:=h
 obtain ⟨x,rfl,hx⟩:=vR h1
 generalize hv:[v2]=vs at h2
 cases h2
 simp at hv
 subst hv
 exact ⟨x,rfl,hx⟩
theorem Bb (w:World) (q:Nat):Rest w (w.drewN q):=⟨rfl,rfl,rfl,fun _=>rfl⟩
theorem DV {φ:Ph} {w:World} (hi:r5 φ w) {b:Nat} (hb:w.heap.size≤b) (off:Nat):φ b off=none:=by
 cases hp:φ b off with
 |none=>rfl
 |some u=>
  have:=World.block_lt_of_cell? w _ (hi _ _ _ hp)
  simp at this
  omega
theorem FR (L:Go.Proofs.Lays.n160 P ρ) (KF:(P.info? (ρ.t 116)).map (fun i=>(i.zero,i.size))=some (some (.agg (Array.replicate 256 (.bool false))),256)) (hg:c.cy (c.key (ρ.f 160))=false) {ms:List MV} {r:MV} (h:sS ms=some r):
 gj P c (ρ.f 160) ms r:=by
 unfold sS at h
 split at h
 ·rename_i a b
  cases hb:(Nat.ble 1 a.length&&Nat.ble a.length (2^46))&&(Nat.ble 2 b.length&&(Nat.ble b.length 1000&&b.all fun x=>decide (x.toNat<128))) with
  |false=>rw [hb] at h;cases h
  |true=>
   rw [hb] at h
   simp only [cond_true,Option.some.injEq] at h
   subst h
   simp only [Bool.and_eq_true] at hb
   obtain ⟨⟨h1,h2⟩,h3,h4,h5⟩:=hb
   have h1:=Nat.le_of_ble_eq_true h1
   have h2:=Nat.le_of_ble_eq_true h2
   have h3:=Nat.le_of_ble_eq_true h3
   have h4:=Nat.le_of_ble_eq_true h4
   intro φ w Z vs hz ha hi
   obtain ⟨x,y,rfl,rfl,rfl⟩:=zP hg ha
   refine qn (Go.Proofs.enters_of L.f160 (by kernel_rfl) rfl) (Go.Proofs.Any.strings_Trim_set L (Go.zero_of_info KF).1 (Go.zero_of_info KF).2 x y w (by rw [Lib.size_eq];exact h3) (by rw [Lib.size_eq];omega) (by rw [Lib.size_eq];omega) (by rw [Lib.size_eq];omega) (Go.Proofs.ascii_of_all h5)) ?_
   rintro e w' ⟨rfl,q,rfl⟩
   refine ⟨_,rfl,φ,?_,?_,?_⟩
   ·have g1:=bH.alloc w (Lib.setCells y.data.toList) (ρ.t 116)
    have g2:=bH.alloc (w.alloc (.cells (Lib.setCells y.data.toList) (ρ.t 116))) (Lib.setCells y.data.toList) (ρ.t 116)
    have g:=g1.trans' g2
    exact ⟨.refl φ,fun b _ hl=>g.kZ b hl,fun _ _ _=>rfl,g.size,g.rest.trans (Bb _ q)⟩
   ·intro b o v hv
    have g1:=bH.alloc w (Lib.setCells y.data.toList) (ρ.t 116)
    have g2:=bH.alloc (w.alloc (.cells (Lib.setCells y.data.toList) (ρ.t 116))) (Lib.setCells y.data.toList) (ρ.t 116)
    exact (g1.trans' g2).cell (hi b o v hv)
   ·exact ⟨rfl,by have:=eJ.s (key:=c.key) (φ:=φ) (⟨(Lib.trimS x.data.toList y.data.toList).toArray⟩:ByteArray);simpa using this⟩
 ·cases h
theorem yY (L:Go.Proofs.Lays.n151 P ρ) (hg:c.cy (c.key (ρ.f 151))=false) {ms:List MV} {r:MV} (h:jJ ms=some r):gj P c (ρ.f 151) ms r:=by
 unfold jJ at h
 split at h
 ·rename_i a n
  cases hb:decide (0≤n∧n<128) with
  |false=>rw [hb] at h;cases h
  |true=>
   rw [hb] at h
   simp only [cond_true,Option.some.injEq] at h
   subst h
   obtain ⟨h1,h2⟩:=of_decide_eq_true hb
   intro φ w Z vs hz ha hi
   obtain ⟨x,rfl,rfl⟩:=FQ hg ha
   refine qn (Go.Proofs.enters_of L.f151 (by kernel_rfl) rfl) (Go.Proofs.Any.strings_ContainsRune_ascii L x n w h1 h2) ?_
   rintro e w' ⟨rfl,rfl⟩
   exact ⟨_,rfl,φ,.refl _ _ _,hi,rfl,.b _⟩
 ·cases h
open Go.Proofs Go.Shelf Go.RowKit in
theorem Bc (L:Go.Proofs.Lays.n146 P ρ) (Nh:(P.info? (ρ.t 9)).map (fun i=>(i.zero,i.size,i.bytes))=some (some (.string ByteArray.empty),1,16)) (s:ByteArray) (b:UInt8) (w:World) (hs:s.size<4294967281):
 Calls P (ρ.f 146) #[.string s,.string ⟨#[b]⟩] w fun e w'=>
  e= .returned (.slice (some ⟨w.heap.size,0,none⟩) (Lib.countB s ⟨#[b]⟩+1) (Lib.countB s ⟨#[b]⟩+1))∧w'=w.alloc (.cells ((Lib.splitB ⟨#[b]⟩ 0 (Lib.countB s ⟨#[b]⟩) s).map Value.string).toArray (ρ.t 9)):=by
 have h1:1≤(⟨#[b]⟩:ByteArray).size:=Nat.le_refl _
 have hle:=Lib.countB_le ⟨#[b]⟩ h1 s.size s (Nat.le_refl _)
 have hlen:=Lib.splitB_all ⟨#[b]⟩ h1 0 _ s rfl
 have hC:Calls P (ρ.f 138) #[.string s,.string ⟨#[b]⟩] w fun e w'=>e= .returned (.int .i64 (Lib.countB s ⟨#[b]⟩))∧w'=w:=by
  refine (Any.strings_Count_one {L with} s b w).mono fun e w' ⟨he,hw⟩=>⟨?_,hw⟩
  rw [he]
  show _=Ending.returned (Value.int .i64 ((Lib.count s.data.toList [b]:Nat):Int))
  rw [Lib.count_one]
  rfl
 have c:=Any.strings_genSplit_core {L with} Nh s ⟨#[b]⟩ 0 (-1) (Lib.countB s ⟨#[b]⟩+1) w hs h1 (Nat.zero_le _)
  (fun x q hx=>(Any.strings_Index_one {L with} x b _).mono fun e w' ⟨he,hw⟩=>⟨by rw [he];show _=Ending.returned (Value.int .i64 (Lib.index x.data.toList [b]));rw [Lib.index_one],hw⟩)
  hC (by decide) (by decide) (by rw [if_pos (by decide)];omega)
 rw [Nat.add_sub_cancel,hlen] at c
 have e2:Lib.cellsOf (Lib.splitB ⟨#[b]⟩ 0 (Lib.countB s ⟨#[b]⟩) s) (Lib.countB s ⟨#[b]⟩+1)=((Lib.splitB ⟨#[b]⟩ 0 (Lib.countB s ⟨#[b]⟩) s).map Value.string).toArray:=by rw [←hlen];exact Lib.cellsOf_full _
 rw [e2] at c
 clear hC hlen hle e2
 have t3:=L.t3;have t9:=L.t9;have t31:=L.t31
 have a3:=L.a3;have a9:=L.a9;have a31:=L.a31
 have z3:=L.z3;have v3:=L.v3;have z9:=L.z9;have v9:=L.v9;have z31:=L.z31;have v31:=L.v31
 have QB: ∀args w,(callFunc (ρ.f 221) args).run P w= .ok (.enter (ρ.f 221) args) w:=enters_of L.f221 (by kernel_rfl) rfl
 go_enter L.f146,Body.n146_ntmps ρ
 go_wp2_with (go_at_fn (ρ.f 221);refine c.mono ?_;rintro e w' ⟨rfl,hw⟩;rw [hw])
 go_ret
 exact ⟨rfl,rfl⟩
theorem sV {key:Nat→Nat} {φ:Ph}: ∀l:List ByteArray,az key φ 1 (l.map Value.string) (l.map fun b=>MV.s b.data.toList)
 |[]=>rfl
 |b::l=>⟨[.string b],_,rfl,rfl,.s b,sV l⟩
theorem DW {I:TI} (L:Go.Proofs.Lays.n146 P ρ) (Nh:(P.info? (ρ.t 9)).map (fun i=>(i.zero,i.size,i.bytes))=some (some (.string ByteArray.empty),1,16)) (hg:c.cy (c.key (ρ.f 146))=false)
 (dg:c.hO (c.key (ρ.f 146))=ρ.t 9) (hI:c.tv (ρ.t 9)=some I) (wh:I.size=1) {ms:List MV} {r:MV} (h:nr ms=some r):gj P c (ρ.f 146) ms r:=by
 unfold nr at h
 split at h
 ·rename_i a b
  cases hb:Nat.ble a.length 4294967280 with
  |false=>rw [hb] at h;cases h
  |true=>
   rw [hb] at h
   simp only [cond_true,Option.some.injEq] at h
   subst h
   have hb:=Nat.le_of_ble_eq_true hb
   intro φ w Z vs hz ha hi
   obtain ⟨x,y,rfl,rfl,hy⟩:=zP hg ha
   have Lc:y=⟨#[b]⟩:=by
    cases y with
    |mk d=>congr 1;apply Array.toList_inj.1;exact hy
   subst Lc
   have hs:x.size<4294967281:=by rw [Lib.size_eq];omega
   refine qn (Go.Proofs.enters_of L.f146 (by kernel_rfl) rfl) (Bc L Nh x b w hs) ?_
   rintro e w' ⟨rfl,rfl⟩
   have h1:1≤(⟨#[b]⟩:ByteArray).size:=Nat.le_refl _
   have hle:=Lib.countB_le ⟨#[b]⟩ h1 x.size x (Nat.le_refl _)
   have hlen:=Lib.splitB_all ⟨#[b]⟩ h1 0 _ x rfl
   have ei:=Ba b x
   have g1:=bH.alloc w ((Lib.splitB ⟨#[b]⟩ 0 (Lib.countB x ⟨#[b]⟩) x).map Value.string).toArray (ρ.t 9)
   obtain ⟨jF,hc⟩:=aN hI
   refine ⟨_,rfl,φ,g1.trans (Z:=aJ.plain Z) hz φ,fun b' o v hv=>g1.cell (hi b' o v hv),?_⟩
   show bu _ _ _ _ _ ⟨c.hO (c.key (ρ.f 146)),false,_⟩
   rw [dg]
   generalize Ry:Lib.splitB ⟨#[b]⟩ 0 (Lib.countB x ⟨#[b]⟩) x=Ov at *
   rw [←ei,List.map_map]
   refine ⟨I,Ov.map Value.string,jF,hc,?_,by rw [wh];exact sV Ov,?_⟩
   ·rw [wh]
    refine ⟨by simp,.inr ⟨w.heap.size,Lib.countB x ⟨#[b]⟩+1,_,by simp [hlen],Nat.zero_le _,eY w _,by simp [hlen],by unfold Go.maxLen;rw [Lib.size_eq] at hle;omega,by simp [hlen],?_⟩⟩
    simp [List.take_of_length_le]
   ·intro ax ec
    simp [Value.ownBlock] at ec
    subst ec
    exact ⟨hz _ (Nat.le_refl _),fun off u hu=>(by have hu:φ w.heap.size off=some u:=hu;rw [DV hi (Nat.le_refl _)] at hu;cases hu),fun hc=>False.elim hc⟩
 ·cases h
end
end Dn
/-
  slices.IndexFunc and slices.DeleteFunc of the library, walked, with whatever function. Conditions: none.
-/
set_option linter.unusedSimpArgs false
set_option linter.unusedVariables false
namespace Dn
open Go
section
variable {P:Program} {Q:Exit→Act→World→Prop} {ops:Array Oper} {o:Oper} {a:Act} {w w':World} {n:Nat} {σ:Nat→Value}
theorem Tm.call {i d:Nat} {op:Op} {rest:List Nat} {f:Nat} {args:Array Value} {Rp:Value→World→Prop} (A7:Tm a n σ) (hi:ops[i]? =some o) (ho:aq o d op) (hd:d<n)
 (aX:(execOp (ev σ) o).run P w=(callFunc f args).run P w) (hc:en P f args w Rp) (h: ∀v w' a',Rp v w'→Tm a' n (KA σ d v)→wpOps P ops Q rest a' w'):wpOps P ops Q (i::rest) a w:=by
 rw [wpOps_cons]
 unfold wpOp
 simp only [hi,Region.wanted,ho.guard,if_true]
 left
 refine lj (by rw [A7.eval];exact aX) hc ?_
 intro v w' hr
 rw [ho.dst]
 exact h v w' _ hr (A7.put hd v)
end
structure Ni (t el ti:Nat) (o:Nat→Oper):Prop where
 h0:aq (o 0) 4 (.assign (.const (.int .i64 0)))
 h1:aq (o 1) 6 (.move (.tmp 0))
 h2:aq (o 2) 7 (.call {callee:= .builtin .len,args:= #[.tmp 6],argTypes:= #[t]})
 h3:aq (o 3) 8 (.move (.const (.int .i64 0)))
 h4:aq (o 4) 9 (.binOp .lss ti (.tmp 8) (.tmp 7) ti)
 h5:aq (o 5) 10 (.move (.tmp 8))
 h6:aq (o 6) 5 (.assign (.tmp 10))
 h7:aq (o 7) 11 (.move (.tmp 1))
 h8:aq (o 8) 12 (.move (.tmp 0))
 h9:aq (o 9) 13 (.move (.tmp 5))
 HU:aq (o 10) 14 (.indexAddr t (.tmp 12) (.tmp 13))
 M7:aq (o 11) 15 (.load el (.tmp 14))
 M8:aq (o 12) 16 (.call {callee:= .value (.tmp 11),args:= #[.tmp 15],argTypes:= #[el]})
 M9:aq (o 13) 17 (.move (.tmp 5))
 Na:aq (o 14) 4 (.assign (.tmp 17))
 Nb:aq (o 15) 18 (.binOp .add ti (.tmp 8) (.const (.int .i64 1)) ti)
 Nc:aq (o 16) 8 (.move (.tmp 18))
 Nd:aq (o 17) 4 (.assign (.const (.int .i64 (-1))))
section
variable {P:Program} {c:Ctx} {f t ti el:Nat} {fn:Func} {r:Nat→Nat} {o:Nat→Oper} {E:TI} {n cp g0 g:Nat} {ad:Option Addr} {ob:Option Nat} {w:World} {lb:Array Value} {S:Type} {Inv:S→(Nat→Prop)→Ph→World→Prop} {step:S→MV→Option (Bool×S)}
end
end Dn
/-
  slices.DeleteFunc of the library, walked, with whatever function. Conditions: none.
-/
set_option linter.unusedSimpArgs false
set_option linter.unusedVariables false
namespace Dn
open Go
structure Ll (t el ti tb fu fi:Nat) (o:Nat→Oper):Prop where
 h0:aq (o 0) 4 (.assign (.const (.slice none 0 0)))
 h1:aq (o 1) 8 (.move (.tmp 0))
 h2:aq (o 2) 9 (.move (.tmp 1))
 h3:aq (o 3) 10 (.call {callee:= .value (.func fi),args:= #[.tmp 8,.tmp 9],argTypes:= #[t,fu]})
 h4:aq (o 4) 5 (.assign (.tmp 10))
 h5:aq (o 5) 11 (.move (.tmp 5))
 h6:aq (o 6) 12 (.binOp .eql ti (.tmp 11) (.const (.int .i64 (-1))) ti)
 h7:aq (o 7) 13 (.move (.tmp 0))
 h8:aq (o 8) 4 (.assign (.tmp 13))
 h9:aq (o 9) 14 (.move (.tmp 5))
 HU:aq (o 10) 15 (.binOp .add ti (.tmp 14) (.const (.int .i64 1)) ti)
 M7:aq (o 11) 6 (.assign (.tmp 15))
 M8:aq (o 12) 16 (.move (.tmp 6))
 M9:aq (o 13) 17 (.move (.tmp 0))
 Na:aq (o 14) 18 (.call {callee:= .builtin .len,args:= #[.tmp 17],argTypes:= #[t]})
 Nb:aq (o 15) 19 (.binOp .lss ti (.tmp 16) (.tmp 18) ti)
 Nc:aq (o 16) 22 (.move (.tmp 0))
 Nd:aq (o 17) 23 (.move (.tmp 6))
 Od:aq (o 18) 24 (.indexAddr t (.tmp 22) (.tmp 23))
 Oe:aq (o 19) 25 (.load el (.tmp 24))
 Of:aq (o 20) 7 (.alloc el)
 Og:zO (o 21) (.store el (.tmp 7) (.tmp 25))
 Oh:aq (o 22) 26 (.move (.tmp 1))
 Oi:aq (o 23) 27 (.load el (.tmp 7))
 Oj:aq (o 24) 28 (.call {callee:= .value (.tmp 26),args:= #[.tmp 27],argTypes:= #[el]})
 Ok:aq (o 25) 29 (.unOp .not tb (.tmp 28))
 Ol:aq (o 26) 30 (.move (.tmp 0))
 Om:aq (o 27) 31 (.move (.tmp 5))
 On:aq (o 28) 32 (.load el (.tmp 7))
 Oo:aq (o 29) 33 (.indexAddr t (.tmp 30) (.tmp 31))
 Oq:zO (o 30) (.store el (.tmp 33) (.tmp 32))
 Qc:aq (o 31) 34 (.move (.tmp 5))
 Qd:aq (o 32) 35 (.binOp .add ti (.tmp 34) (.const (.int .i64 1)) ti)
 Qe:aq (o 33) 5 (.assign (.tmp 35))
 Qf:aq (o 34) 20 (.move (.tmp 6))
 Qg:aq (o 35) 21 (.binOp .add ti (.tmp 20) (.const (.int .i64 1)) ti)
 Qh:aq (o 36) 6 (.assign (.tmp 21))
 Qi:aq (o 37) 36 (.move (.tmp 0))
 Qj:aq (o 38) 37 (.move (.tmp 5))
 Qk:aq (o 39) 38 (.slice t (.tmp 36) (some (.tmp 37)) none none)
 Ql:zO (o 40) (.call {callee:= .builtin .clear,args:= #[.tmp 38],argTypes:= #[t]})
 Qm:aq (o 41) 39 (.move (.tmp 0))
 Qn:aq (o 42) 40 (.move (.tmp 5))
 Qo:aq (o 43) 41 (.slice t (.tmp 39) none (some (.tmp 40)) none)
 Qp:aq (o 44) 4 (.assign (.tmp 41))
section
variable {P:Program} {c:Ctx} {f fi t ti tb fu el:Nat} {fn Rz:Func} {r ri:Nat→Nat} {o oi:Nat→Oper} {E:TI} {cp g0 g:Nat} {ad:Option Addr} {ob:Option Nat} {w W W2:World} {lb:Array Value} {S:Type} {Inv:S→(Nat→Prop)→Ph→World→Prop} {step:S→MV→Option (Bool×S)} {Z0 Z:Nat→Prop} {φ0 φ:Ph} {s:S}
theorem FJ.move (hp:oF P c g lb Inv step) (hW:FJ c ob Inv Z0 φ0 w s Z φ W) (jZ:W.heap.size≤W2.heap.size) (lg: ∀b,b<W.heap.size→ob≠some b→W2.heap[b]? =W.heap[b]?) (uG:Rest W W2) (M0: ∀b,ob=some b→ ¬Z b):
 FJ c ob Inv Z0 φ0 w s (fun b=>(Z b∧b<W.heap.size)∨W2.heap.size≤b) φ W2:=by
 have RA:=hW.tr.size
 refine ⟨hp.mono (hp.frame hW.inv jZ fun b hz hb=>lg b hb (fun e=>M0 b e hz)) fun b hb=> .inl hb,fun b hb=> .inr hb,fun b hb=> ?_,fun b off v hv=> ?_,?_,hW.free⟩
 ·rcases hb with hb|hb
  ·exact hW.sub b hb.1
  ·exact .inr (by omega)
 ·have h1:=hW.gM b off v hv
  have dJ:=World.block_lt_of_cell? W _ h1
  have b7:ob≠some b:=by intro e;rw [hW.free b off e] at hv;cases hv
  rw [World.cell?_of_block (lg b dJ b7)]
  exact h1
 ·refine hW.tr.trans ⟨.refl _,fun b hb dJ=> ?_,fun _ _ _=>rfl,jZ,uG⟩
  exact lg b dJ (fun e=>hb (.inr e))
end
end Dn
/-
  Reasoning about functions on typed values. Conditions: none.
-/
set_option linter.unusedVariables false
namespace Dn
open Go
section
variable {α R:Type}
theorem gy {l:List α} {k:Nat} (h:k<l.length) (K:α→Option R):ix l (k:Int) K=K l[k]:=by
 simp [ix,h]
@[simp] theorem td {A : Type} (x : Option A) : bd x (fun a => some a) = x := by cases x <;> rfl
end
def bQ {A:Type} (x:Option A) (Q:A→Prop):Prop:= ∃a,x=some a∧Q a
section
variable {A B α σ ρ:Type}
theorem bQ.mk {a:A} {Q:A→Prop} (h:Q a):bQ (some a) Q:=⟨a,rfl,h⟩
theorem bQ.of {x:Option A} {a:A} {Q:A→Prop} (e:x=some a) (h:Q a):bQ x Q:=⟨a,e,h⟩
theorem bQ.bd {x:Option A} {K:A→Option B} {P:A→Prop} {Q:B→Prop} (h:bQ x P) (hk: ∀a,P a→bQ (K a) Q):bQ (bd x K) Q:=by
 obtain ⟨a,rfl,hp⟩:=h;exact hk a hp
theorem bQ.ite {c:Prop} [Decidable c] {x y:Option A} {Q:A→Prop} (h1:c→bQ x Q) (h2: ¬c→bQ y Q):bQ (if c then x else y) Q:=by
 split
 ·exact h1 ‹_›
 ·exact h2 ‹_›
theorem bQ.imp {x:Option A} {P Q:A→Prop} (h:bQ x P) (BF: ∀a,P a→Q a):bQ x Q:=by
 obtain ⟨a,e,hp⟩:=h;exact ⟨a,e,BF a hp⟩
theorem bQ.ix {l:List α} {k:Nat} {K:α→Option A} {Q:A→Prop} (h:k<l.length) (hk:bQ (K l[k]) Q):bQ (ix l (k:Int) K) Q:=by rw [gy h];exact hk
theorem bQ.eq {x:Option A} {a:A} (h:bQ x (· =a)):x=some a:=by obtain ⟨b,e,rfl⟩:=h;exact e
variable {body:σ→Option (Sum σ ρ)}
theorem bQ.loop (I:σ→Prop) (μ:σ→Nat) {Q:ρ→Prop} {s:σ} (hs:I s) (h: ∀s,I s→bQ (body s) fun x=>match x with| .inl s'=>I s'∧μ s'<μ s| .inr r=>Q r):bQ (Loop body s) Q:=by
 refine DP I μ Q (fun s hs=> ?_) hs
 obtain ⟨x,e,hx⟩:=h s hs
 cases x with
 |inl s'=>exact .inl ⟨s',e,hx⟩
 |inr r=>exact .inr ⟨r,e,hx⟩
theorem bQ.count (S:Nat→σ) (n:Nat) {Q:ρ→Prop} (P:Nat→Prop) {s:σ} (e:s=S 0) (h0:P 0) (h: ∀k,k<n→P k→bQ (body (S k)) fun x=>match x with| .inl s'=>s'=S (k+1)∧P (k+1)| .inr r=>Q r)
 (he:P n→bQ (body (S n)) fun x=>match x with| .inl _=>False| .inr r=>Q r):bQ (Loop body s) Q:=by
 subst e
 refine DQ S n Q P h0 (fun k hk hp=> ?_) (fun hp=> ?_)
 ·obtain ⟨x,e,hx⟩:=h k hk hp
  cases x with
  |inl s'=>obtain ⟨rfl,hx⟩:=hx;exact .inl ⟨e,hx⟩
  |inr r=>exact .inr ⟨r,e,hx⟩
 ·obtain ⟨x,e,hx⟩:=he hp
  cases x with
  |inl s'=>exact hx.elim
  |inr r=>exact ⟨r,e,hx⟩
end
theorem wrap64 {x:Int} (h1: -9223372036854775808≤x) (h2:x≤9223372036854775807):IntKind.wrap .i64 x=x:=FM h1 h2
end Dn
/-
  Functions of the library, on typed values. Conditions: none.
-/
set_option linter.unusedVariables false
namespace Dn
open Go
def GW {α:Type} (key:α→Int) (L:List α) (s:Int):Nat:=L.countP (fun e=>decide (key e<s))
def KL {α:Type} (key:α→Int) (L:List α) (s:Int):Bool:=L.any fun e=>decide (key e=s)
def xE {α:Type} (key:α→Int) (L:List α):Prop:=L.Pairwise fun a b=>key a<key b
section
variable {α τ:Type} {key:α→Int}
theorem Iv {L:List α} {s:Int} {p:Nat} (hp:p≤L.length) (h1: ∀k (hk:k<L.length),k<p→key L[k]<s) (h2: ∀k (hk:k<L.length),p≤k→s≤key L[k]):GW key L s=p:=by
 have h3:(L.take p).countP (fun e=>decide (key e<s))=(L.take p).length:=by
  rw [List.countP_eq_length]
  intro a ha
  obtain ⟨k,hk,rfl⟩:=List.mem_iff_getElem.1 ha
  have BD:k<p:=by rw [List.length_take] at hk;omega
  rw [List.getElem_take]
  exact decide_eq_true (h1 k (by omega) BD)
 have h4:(L.drop p).countP (fun e=>decide (key e<s))=0:=by
  rw [List.countP_eq_zero]
  intro a ha
  obtain ⟨k,hk,rfl⟩:=List.mem_iff_getElem.1 ha
  rw [List.length_drop] at hk
  rw [List.getElem_drop]
  have:=h2 (p+k) (by omega) (by omega)
  simp;omega
 have h5:GW key L s=(L.take p++L.drop p).countP (fun e=>decide (key e<s)):=by rw [List.take_append_drop];rfl
 rw [h5,List.countP_append,h3,h4,List.length_take]
 omega
theorem xE.lt {L:List α} (hs:xE key L) {i j:Nat} (hj:j<L.length) (h:i<j):key (L[i]'(by omega))<key L[j]:=List.pairwise_iff_getElem.1 hs i j (by omega) hj h
theorem xE.le {L:List α} (hs:xE key L) {i j:Nat} (hj:j<L.length) (h:i≤j):key (L[i]'(by omega))≤key L[j]:=by
 rcases Nat.lt_or_eq_of_le h with h|h
 ·exact Int.le_of_lt (hs.lt hj h)
 ·subst h;exact Int.le_refl _
theorem xE.lb {L:List α} (hs:xE key L) (s:Int):(∀k (hk:k<L.length),k<GW key L s→key L[k]<s)∧(∀k (hk:k<L.length),GW key L s≤k→s≤key L[k]):=by
 have: ∃p,p≤L.length∧(∀k (hk:k<L.length),k<p→key L[k]<s)∧(∀k (hk:k<L.length),p≤k→s≤key L[k]):=by
  induction L with
  |nil=>exact ⟨0,Nat.le_refl _,fun k hk=>by simp at hk,fun k hk=>by simp at hk⟩
  |cons a l ih=>
   have oY:=List.pairwise_cons.1 hs
   by_cases ha:key a<s
   ·obtain ⟨p,h1,h2,h3⟩:=ih oY.2
    refine ⟨p+1,by simp;omega,fun k hk OB=> ?_,fun k hk OB=> ?_⟩
    ·cases k with
     |zero=>exact ha
     |succ k=>exact h2 k (by simpa using hk) (by omega)
    ·cases k with
     |zero=>omega
     |succ k=>exact h3 k (by simpa using hk) (by omega)
   ·refine ⟨0,Nat.zero_le _,fun k hk OB=>by omega,fun k hk _=> ?_⟩
    cases k with
    |zero=>simp;omega
    |succ k=>
     have:=oY.1 (l[k]'(by simpa using hk)) (List.getElem_mem _)
     simp only [List.getElem_cons_succ];omega
 obtain ⟨p,h1,h2,h3⟩:=this
 rw [Iv h1 h2 h3]
 exact ⟨h2,h3⟩
theorem xE.has {L:List α} (hs:xE key L) (s:Int):KL key L s=true↔ ∃h:GW key L s<L.length,key L[GW key L s]=s:=by
 obtain ⟨h1,h2⟩:=hs.lb s
 unfold KL
 rw [List.any_eq_true]
 constructor
 ·rintro ⟨x,hx,he⟩
  obtain ⟨k,hk,rfl⟩:=List.mem_iff_getElem.1 hx
  have he:key L[k]=s:=by simpa using he
  have As:GW key L s≤k:=by
   refine Nat.le_of_not_lt fun dJ=> ?_
   have:=h1 k hk dJ;omega
  have hl:GW key L s<L.length:=by omega
  refine ⟨hl,?_⟩
  have:=h2 _ hl (Nat.le_refl _)
  have:=hs.le hk As
  omega
 ·rintro ⟨h,he⟩
  exact ⟨_,List.getElem_mem h,decide_eq_true he⟩
end
section
variable {α ρ:Type}
theorem take_succ {L:List α} {k:Nat} (hk:k<L.length):L.take (k+1)=L.take k++[L[k]]:=(List.take_append_getElem hk).symm
theorem te {body:Int→Option (Int⊕(Unit⊕ρ))} (n:Nat) (p:Nat→Prop) (c:ρ) (h: ∀k,k<n→(∀j,j<k→p j)→(p k→body (k:Int)=some (.inl ((k+1:Nat):Int)))∧(¬p k→body (k:Int)=some (.inr (.inr c))))
 (he:body (n:Int)=some (.inr (.inl ()))):bQ (Loop body 0) fun r=>(r= .inl ()∧ ∀k,k<n→p k)∨(r= .inr c∧ ∃k,k<n∧ ¬p k):=by
 refine bQ.count (fun k=>(k:Int)) n (fun k=> ∀j,j<k→p j) rfl (fun j hj=>by omega) (fun k hk hp=> ?_) (fun hp=> ?_)
 ·by_cases Ex:p k
  ·refine .of ((h k hk hp).1 Ex) ⟨rfl,fun j hj=> ?_⟩
   by_cases Lb:j=k
   ·subst Lb;exact Ex
   ·exact hp j (by omega)
  ·exact .of ((h k hk hp).2 Ex) (.inr ⟨rfl,k,hk,Ex⟩)
 ·exact .of he (.inl ⟨rfl,hp⟩)
theorem Bi [DecidableEq α] {a b:List α} {body:Int→Option (Int⊕(Unit⊕Bool))} (hl:a.length=b.length) (h: ∀k (ha:k<a.length) (hb:k<b.length),body (k:Int)=some (if a[k]=b[k] then .inl ((k+1:Nat):Int) else .inr (.inr false)))
 (he:body (a.length:Int)=some (.inr (.inl ()))):Loop body 0=some (if a=b then .inl () else .inr false):=by
 obtain ⟨r,e,hr⟩:=te (body:=body) a.length (fun k=>a[k]? =b[k]?) false (fun k hk _=>by
  have Ey:k<b.length:=by omega
  rw [List.getElem?_eq_getElem hk,List.getElem?_eq_getElem Ey,h k hk Ey]
  constructor
  ·intro hh;rw [if_pos (by simpa using hh)]
  ·intro hh;rw [if_neg (by simpa using hh)]) he
 rw [e]
 rcases hr with ⟨rfl,iV⟩|⟨rfl,k,hk,b7⟩
 ·rw [if_pos]
  refine List.ext_getElem? fun k=> ?_
  by_cases hk:k<a.length
  ·exact iV k hk
  ·rw [List.getElem?_eq_none (by omega),List.getElem?_eq_none (by omega)]
 ·rw [if_neg]
  intro Iw;subst Iw;exact b7 rfl
end
end Dn
/-
  Runs with a bound on their rounds. Conditions: none.
-/
set_option linter.unusedVariables false
namespace Dn
open Go
def pP {σ R:Type} (n:Nat) (body:σ→Option (Sum σ R)) (s:σ):Option R:=iter body n s
def Le {A:Type} (x y:Option A):Prop:= ∀a,x=some a→y=some a
section
variable {A B σ ρ α:Type}
theorem Le.rfl' (x:Option A):Le x x:=fun _ h=>h
theorem Le.bd {x x':Option A} {K K':A→Option B} (h:Le x x') (hk: ∀a,Le (K a) (K' a)):Le (bd x K) (bd x' K'):=by
 intro b hb
 cases hx:x with
 |none=>rw [hx] at hb;cases hb
 |some a=>rw [hx] at hb;rw [h a hx];exact hk a b hb
theorem Le.ite {c:Prop} [Decidable c] {x y x' y':Option A} (h1:Le x x') (h2:Le y y'):Le (if c then x else y) (if c then x' else y'):=by
 split
 ·exact h1
 ·exact h2
theorem Le.ix {l:List α} {i:Int} {K K':α→Option A} (h: ∀a,Le (K a) (K' a)):Le (ix l i K) (ix l i K'):=by
 unfold Dn.ix
 split
 ·exact h _
 ·exact Le.rfl' _
theorem Le.iter {K K':σ→Option (Sum σ ρ)} (h: ∀s,Le (K s) (K' s)) (n:Nat) (s:σ):Le (iter K n s) (iter K' n s):=by
 induction n generalizing s with
 |zero=>exact Le.rfl' _
 |succ n ih=>
  intro r hr
  simp only [Dn.iter] at hr⊢
  cases hk:K s with
  |none=>rw [hk] at hr;cases hr
  |some x=>
   rw [hk] at hr
   rw [h s x hk]
   cases x with
   |inl s'=>exact ih s' r hr
   |inr r'=>exact hr
theorem Le.loop {n:Nat} {K K':σ→Option (Sum σ ρ)} {s:σ} (h: ∀s,Le (K s) (K' s)):Le (pP n K s) (Loop K' s):=fun r hr=>gm (Le.iter h n s r hr)
theorem Le.sum {P Q:Type} {x:P⊕Q} {f f':P→Option A} {g g':Q→Option A} (h1: ∀p,Le (f p) (f' p)) (h2: ∀q,Le (g q) (g' q)):Le (match x with| .inl p=>f p| .inr q=>g q) (match x with| .inl p=>f' p| .inr q=>g' q):=by
 cases x
 ·exact h1 _
 ·exact h2 _
end
theorem Le.fC {α:Type} {p q:α→Option Bool} (h: ∀x,Le (p x) (q x)): ∀L:List α,Le (DT p L) (DT q L)
 |[]=>Le.rfl' _
 |x::xs=>Le.bd (h x) fun b=>Le.bd (Le.fC h xs) fun _=>Le.rfl' _
theorem Le.fD {α σ:Type} {p q:α→σ→Option (Bool×σ)} (h: ∀x s,Le (p x s) (q x s)): ∀(s:σ) (L:List α),Le (DU p s L) (DU q s L)
 |s,[]=>Le.rfl' _
 |s,x::xs=>Le.bd (h x s) fun b=>Le.bd (Le.fD h b.2 xs) fun _=>Le.rfl' _
end Dn
/-
  A state in which variables of packages have given data. Conditions: none.
-/
set_option linter.unusedVariables false
set_option linter.unusedSimpArgs false
namespace Dn
open Go
def cellsD:Nat→DataW Unit→List Value
 |n+1,.agg ds=>ds.flatMap (cellsD n)
 |_,.lit (.int k v)=>[.int k v]
 |_,_=>[]
def Bq (cs:Array Value):Obj→Obj
 | .cells _ t z=> .cells cs t z
 |o=>o
def th (P:Program):List (String×DataW Unit)→Array Obj→Array Obj
 |[],h=>h
 |x::r,h=>match P.globalNamed x.1 with
  |some g=>th P r (h.modify g (Bq (cellsD 4 x.2).toArray))
  |none=>th P r h
noncomputable def KP (P:Program) (l:List (String×DataW Unit)) (os:Os) (args:Array Value):World:=
 {World.holding P os ⟨#[],args,[]⟩ with heap:=th P l (World.holding P os ⟨#[],args,[]⟩).heap}
theorem xO {a b:Bool} (h1:a=true) (h2:b=true):(a&&b)=true:=by rw [h1,h2];rfl
def n4:List Char:=[99,117,116].map Char.ofNat
theorem KQ:(n4== "gc".toList)=false:=by kernel_rfl
theorem F3:(n4== "spec".toList)=false:=by kernel_rfl
theorem Ix:(n4== "cut".toList)=true:=by kernel_rfl
theorem zi:(n4== "carried".toList)=false:=by kernel_rfl
section
variable {P:Program} {L:List (List Char)} {ns:List Nat}
theorem uZ (h:P.initOrder=String.ofList (ns.map Char.ofNat)):P.initOrder.toList=ns.map Char.ofNat:=by rw [h,String.toList_ofList]
theorem F4 {h s:List Char} (e:wordsSigns P.initOrder.toList=h::s::L) (h1:isSumSigns s=true) (h2:(h== "harness".toList)=true):P.mainIs=some (true,s):=by
 unfold Program.mainIs
 rw [e]
 simp only [h1,h2,Bool.not_true,Bool.false_eq_true,if_false,if_true]
theorem F5 (e:behindMainWord (wordsSigns P.initOrder.toList)=n4::L):P.make=some .cut:=by
 unfold Program.make
 rw [e]
 simp only [KQ,F3,Ix,Bool.or_false,Bool.false_eq_true,if_false,Bool.true_or,if_true]
theorem Iy (e:behindMainWord (wordsSigns P.initOrder.toList)=n4::L) (h1:(stripLifts liftWords (n4::L)).1=[]) (h2:((stripLifts liftWords (n4::L)).2.head? ==some "cut".toList)=true)
 (h3:P.doorFits []=true) (h4:P.laysLater=false) (h5:P.bearsReflect=false):P.mayEnter=true:=by
 unfold Program.mayEnter
 rw [e]
 simp only [h1,h2,h3,h4,h5,List.contains_nil,Bool.false_or,Bool.not_false,Bool.true_and,Bool.and_true,Bool.or_true]
theorem En (e:behindMainWord (wordsSigns P.initOrder.toList)=n4::L) (h1:(stripLifts liftWords (n4::L)).1=[]):P.liftsFinal=false:=by
 unfold Program.liftsFinal Program.headLifts
 rw [e]
 have h0:((n4::L).head? ==some "carried".toList)=false:=by
  simp only [List.head?_cons]
  have:=zi
  simpa using this
 simp only [h0,h1,Bool.false_and,Bool.false_or]
 split<;>rfl
theorem F6 {c:OpenClaim} (h:P.make=some .cut) (hc:c.make= .cut):(P.make==some c.make)=true:=by rw [h,hc];rfl
theorem Eo {c:OpenClaim} (h:P.liftsFinal=false) (hc:c.lifted=false):(c.lifted==P.liftsFinal)=true:=by rw [h,hc];rfl
end
end Dn
